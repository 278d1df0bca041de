/- Draws: networks under way; walk: network. -/
import Derived.Test.YtofcicomhnkocaaGreatBx28
set_option linter.unusedVariables false
namespace Go.Proofs.YtofcicomhnkocaaGreat
set_option maxHeartbeats 12800000
open Go.RowKit Go.Sort
set_option maxRecDepth 100000
theorem ξbj (a b:Int) (w:World):Calls Tryz.prog 124 #[.int .i64 a,.int .i64 b] w fun e w'=>∃m:Int,e= .returned (.int .i64 m)∧(m=a∨m=b)∧w=w':=by
 by_cases h:a<b
 · go_enter Tryz.func124,Tryz.ntmps124
   go_wp2
   go_ret
   exact⟨a,rfl,.inl rfl,rfl⟩
 · go_enter Tryz.func124,Tryz.ntmps124
   go_wp2
   go_ret
   exact⟨b,rfl,.inr rfl,rfl⟩
theorem ξbO (a b:Int) (w:World):Calls Tryz.prog 166 #[.int .i64 a,.int .i64 b] w fun e w'=>∃m:Int,e= .returned (.int .i64 m)∧(m=a∨m=b)∧w=w':=by
 by_cases h:b<a
 · go_enter Tryz.func166,Tryz.ntmps166
   go_wp2
   go_ret
   exact⟨a,rfl,.inl rfl,rfl⟩
 · go_enter Tryz.func166,Tryz.ntmps166
   go_wp2
   go_ret
   exact⟨b,rfl,.inr rfl,rfl⟩
/-! ### Rows of the call's own -/
def StrRow (w:World) (base:Nat) (v:Value) (ss:List ByteArray):Prop:=w.ownsRow base 9 1 v ss.length (ss.map Value.string)
theorem ξaa {w w':World} {base:Nat} {e:TypeId} {size:Nat} {v:Value} {n:Nat} {xs:List Value} (h:w.ownsRow base e size v n xs) (hk:∀g,v.ownBlock=some g→w'.heap[g]?= w.heap[g]?):w'.ownsRow base e size v n xs:=by
 refine⟨h.1,?_⟩
 rcases h.2 with q | ⟨g,cap,cur,rfl,q1,q2,q3⟩
 · exact .inl q
 · exact .inr ⟨g,cap,cur,rfl,q1,by rw[hk g rfl];exact q2,q3⟩
theorem fltC_str:∀ss:List ByteArray,fltC strE ss=(ss.map Value.string).map Dt.leaf
 | []=>rfl
 | s::ss=>by
   have ih:=fltC_str ss
   simp only[fltC,List.flatMap_cons,strE,List.map_cons,List.map_nil] at ih ⊢
   rw[ih];rfl
theorem StrRow.rd {w:World} {base:Nat} {v:Value} {ss:List ByteArray} (h:StrRow w base v ss):Rdt w (flt 1 strE ss) v:=by
 rcases h.2 with ⟨rfl,h0⟩ | ⟨g,cap,cur,rfl,q1,q2,q3,q4,q5,q6⟩
 · have:ss=[]:=List.eq_nil_of_length_eq_zero h0
   subst this
   exact .nil 1
 · have hcells:=World.ownsRow.cells h (g:=g) rfl
   refine .mk (us:=ss.map Value.string) (by rw[ξab (m:=1) (fun _=>rfl)]) (by rw[List.length_map,ξab (m:=1) (fun _=>rfl)];omega) q3 q4 (ξa q2).1 (fun j u hj=> ?_) (fun j d u h1 h2=> ?_)
   · have:=hcells j u hj
     rwa [addr_add] at this
   · rw[fltC_str,List.getElem?_map,h2] at h1
     simp at h1
     rw[←h1]
     exact .leaf u
structure NtD (w:World) (base:Nat) (u1 u2:Value) (n:Net):Prop where
 ns:StrRow w base u1 n.ns
 fs:FibRow w base u2 n.fs
 ap:Apt u1 u2
 sm:∀f∈n.fs,ξV f
 nz:∀s∈n.ns,s.size≤9
 nl:2≤n.ns.length∧n.ns.length≤16
 fl:n.fs.length≤40
theorem NtD.kept {w w':World} {base:Nat} {u1 u2:Value} {n:Net} (h:NtD w base u1 u2 n) (hk:∀g,base≤g→(u1.ownBlock=some g∨u2.ownBlock=some g)→w'.heap[g]?= w.heap[g]?):NtD w' base u1 u2 n:=
 ⟨ξaa h.ns fun g hg=>hk g (h.ns.lt g hg).1 (.inl hg),ξaa h.fs fun g hg=>hk g (h.fs.lt g hg).1 (.inr hg),h.ap,h.sm,h.nz,h.nl,h.fl⟩
theorem NtD.lt {w:World} {base:Nat} {u1 u2:Value} {n:Net} (h:NtD w base u1 u2 n):∀g,(u1.ownBlock=some g∨u2.ownBlock=some g)→base≤g∧g<w.heap.size:=fun g hg=>hg.elim (h.ns.lt g) (h.fs.lt g)
theorem NtD.cs {w w':World} {base B K:Nat} {c u1 u2:Value} {n:Net} (h:NtD w base u1 u2 n) (hc:CS w B c K w') (hB:B<base):NtD w' base u1 u2 n:=
 h.kept fun g hg hb=>hc.2.2.block g (h.lt g hb).2 fun e=>by have:=ξo e;omega
theorem NtD.below {w w':World} {base:Nat} {u1 u2:Value} {n:Net} (h:NtD w base u1 u2 n) (hb:Below w.heap.size w w'):NtD w' base u1 u2 n:=
 h.kept fun g _ hg=>hb.block g (h.lt g hg).2
theorem NtD.base {w:World} {b b':Nat} {u1 u2:Value} {n:Net} (h:NtD w b u1 u2 n) (hb:b'≤b):NtD w b' u1 u2 n:=
 ⟨⟨h.ns.1,h.ns.2.imp id fun⟨g,cap,cur,k1,k2,k3⟩=>⟨g,cap,cur,k1,ξs hb k2,k3⟩⟩,⟨h.fs.1,h.fs.2.imp id fun⟨g,cap,cur,k1,k2,k3⟩=>⟨g,cap,cur,k1,ξs hb k2,k3⟩⟩,h.ap,h.sm,h.nz,h.nl,h.fl⟩
theorem NtD.slices {w:World} {base:Nat} {u1 u2:Value} {n:Net} (h:NtD w base u1 u2 n):(∃a c,u1= .slice a n.ns.length c)∧ ∃a c,u2= .slice a n.fs.length c:=by
 refine⟨?_,?_⟩
 · rcases h.ns.2 with ⟨e,h0⟩ | ⟨g,cap,cur,e,_⟩
   · exact⟨none,0,by rw[e,h0]⟩
   · exact⟨_,_,e⟩
 · rcases h.fs.2 with ⟨e,h0⟩ | ⟨g,cap,cur,e,_⟩
   · exact⟨none,0,by rw[e,h0]⟩
   · exact⟨_,_,e⟩
theorem NtD.rd {w:World} {base:Nat} {u1 u2:Value} {n:Net} (h:NtD w base u1 u2 n):NetR w (.agg #[u1,u2]) n:=
 ⟨u1,u2,rfl,h.ns.rd,h.fs.rd,fun i=>by
  unfold nmA
  by_cases hi:i<n.ns.length
  · rw[ξg hi];exact ξs (h.nz _ (ξj hi)) (by omega)
  · rw[List.getElem?_eq_none (by omega)];exact ξu _⟩
def six:List ByteArray:=[⟨#[97]⟩,⟨#[98]⟩,⟨#[99]⟩,⟨#[100]⟩,⟨#[101]⟩,⟨#[102]⟩]
theorem six_row {w:World} {base g k:Nat} (hg:w.heap[g]?= some (.cells #[.string ⟨#[97]⟩,.string ⟨#[98]⟩,.string ⟨#[99]⟩,.string ⟨#[100]⟩,.string ⟨#[101]⟩,.string ⟨#[102]⟩] 9 (0,0))) (hb:base≤g) (hk:k≤6):StrRow w base (.slice (some ⟨g,0,none⟩) k 6) (six.take k):=by
 have hl:(six.take k).length=k:=by rw[List.length_take];show min k 6=k;omega
 unfold StrRow
 rw[hl]
 exact⟨by rw[List.length_map,hl];omega,.inr ⟨g,6,_,rfl,hb,hg,hk,by unfold maxLen;omega,rfl,by rw[Nat.mul_one,List.map_take];rfl⟩⟩
theorem six_nz (k:Nat):∀s∈six.take k,s.size≤9:=fun s hs=>by
 have h:=List.mem_of_mem_take hs
 simp[six] at h
 rcases h with rfl | rfl | rfl | rfl | rfl | rfl <;> (show(1:Nat)≤9;omega)
structure Nb (w wr:World) (B:Nat) (c:Value) (K bN:Nat) (u1 u2:Value) (n:Net):Prop where
 cs:CS w B c K wr
 box:wr.heap[bN]?= some (.cells #[u1,u2] 35 (0,0))
 d:NtD wr w.heap.size u1 u2 n
 hb:w.heap.size≤bN
 ne:u1.ownBlock≠some bN∧u2.ownBlock≠some bN
theorem Nb.call {w wr w':World} {B K K' bN:Nat} {c u1 u2:Value} {n:Net} (h:Nb w wr B c K bN u1 u2 n) (hc:CS wr B c K' w'):Nb w w' B c K' bN u1 u2 n:=
 have hB:=h.cs.1.1
 have hbN:=h.hb
 ⟨h.cs.call hc,hc.blk h.box (by omega),h.d.cs hc hB,h.hb,h.ne⟩
theorem Nb.below {w wr w':World} {B K bN:Nat} {c u1 u2:Value} {n:Net} (h:Nb w wr B c K bN u1 u2 n) (hb:Below wr.heap.size wr w'):Nb w w' B c K bN u1 u2 n:=
 ⟨h.cs.below hb,ξA h.box hb,h.d.below hb,h.hb,h.ne⟩
theorem Nb.put {w wr w':World} {B K bN:Nat} {c u1 u2 v':Value} {n:Net} (h:Nb w wr B c K bN u1 u2 n) (hp:PutF wr.heap.size n.fs.length wr v' w') (hl:n.fs.length≤39):∃fs',fs'.length=n.fs.length+1∧Nb w (w'.setCell ⟨bN,1,none⟩ v') B c K bN u1 v' ⟨n.ns,fs'⟩:=by
 obtain⟨fs',h1,h2,h3,h4,h5⟩:=hp
 have hbx:=h.below h5
 have lbN:=(ξa h.box).1
 have hwr:=h.cs.size
 have hne:v'.ownBlock≠some bN:=fun e=>by have:=(h1.lt bN e).1;omega
 refine⟨fs',h2,hbx.cs.set h.hb v',?_,⟨ξaa hbx.d.ns fun g hg=>ξm w' ⟨bN,1,none⟩ g v' fun e=>h.ne.1 (by rw[hg];exact congrArg some e),?_,fun q hq e=> ?_,h3,h.d.nz,h.d.nl,by show fs'.length≤40;omega⟩,h.hb,h.ne.1,hne⟩
 · exact ξe w' bN 1 _ _ v' hbx.box
 · have hr:FibRow w' w.heap.size v' fs':=⟨h1.1,h1.2.imp id fun⟨g,cap,cur,k1,k2,k3⟩=>⟨g,cap,cur,k1,ξs hwr k2,k3⟩⟩
   exact ξaa hr fun g hg=>ξm w' ⟨bN,1,none⟩ g v' fun e=>hne (by rw[hg];exact congrArg some e)
 · have k1:=(h.d.ns.lt q hq).2
   have k2:=(h1.lt q e).1
   omega
theorem l2Put_agg (v:Value) (fs:List Fib) (a b l r:Int) (w:World) (h:Rdt w (flt 4 fibE fs) v) (hs:∀g∈fs,ξV g) (hf:ξV ⟨a,b,l,r⟩) (hl:fs.length≤1000):
 Calls Tryz.prog 165 #[v,.agg #[.int .i64 a,.int .i64 b,.int .i64 l,.int .i64 r]] w fun e w'=>∃v',e= .returned v'∧PutF w.heap.size fs.length w v' w':=l2Put_any v fs ⟨a,b,l,r⟩ w h hs hf hl
theorem ξar {w:World} {g:Nat} {cs:Array Value} {T:TypeId} {n:Nat} {lo hi:Int} (h:w.heap[g]?= some (.cells cs T (0,0))) (hr:∀j,j<n→ ∃x:Int,lo≤x∧x≤hi∧cs[j]?= some (.int .i64 x)):∀j,j<n→ ∃x:Int,lo≤x∧x≤hi∧w.cell? ⟨g,j,none⟩=some (.int .i64 x):=fun j hj=>by
 obtain⟨x,h1,h2,h3⟩:=hr j hj
 exact⟨x,h1,h2,blkc h h3⟩
theorem risk_rng:∀j,j<5→ ∃x:Int,0≤x∧x≤2∧(#[Value.int .i64 0,.int .i64 0,.int .i64 0,.int .i64 1,.int .i64 2]:Array Value)[j]?= some (.int .i64 x)
 | 0,_=>⟨0,by omega,by omega,rfl⟩
 | 1,_=>⟨0,by omega,by omega,rfl⟩
 | 2,_=>⟨0,by omega,by omega,rfl⟩
 | 3,_=>⟨1,by omega,by omega,rfl⟩
 | 4,_=>⟨2,by omega,by omega,rfl⟩
 | j+5,h=>by omega
theorem net_begin {w1 w2:World} {B K k:Nat} {c:Value} (h:CS w1 B c K w2) (hs:w2.heap.size=w1.heap.size) (h2:2≤k) (h6:k≤6):
 Nb w1 ((w2.alloc (.cells #[.string ⟨#[97]⟩,.string ⟨#[98]⟩,.string ⟨#[99]⟩,.string ⟨#[100]⟩,.string ⟨#[101]⟩,.string ⟨#[102]⟩] 9)).alloc (.cells #[.slice (some ⟨w1.heap.size,0,none⟩) k 6,.slice none 0 0] 35)) B c K (w1.heap.size+1) (.slice (some ⟨w1.heap.size,0,none⟩) k 6) (.slice none 0 0) ⟨six.take k,[]⟩:=by
 have hl:(six.take k).length=k:=by rw[List.length_take];show min k 6=k;omega
 have e1:(w2.alloc (.cells #[.string ⟨#[97]⟩,.string ⟨#[98]⟩,.string ⟨#[99]⟩,.string ⟨#[100]⟩,.string ⟨#[101]⟩,.string ⟨#[102]⟩] 9)).heap.size=w1.heap.size+1:=by rw[←hs];simp
 have e2:=ξn w2 (.cells #[.string ⟨#[97]⟩,.string ⟨#[98]⟩,.string ⟨#[99]⟩,.string ⟨#[100]⟩,.string ⟨#[101]⟩,.string ⟨#[102]⟩] 9)
 refine⟨(h.alloc _).alloc _,?_,⟨?_,?_,(fun q h1 h2=>by cases h2),(fun f hf=>by cases hf),six_nz k,⟨by show 2≤(six.take k).length;omega,by show(six.take k).length≤16;omega⟩,ξu _⟩,Nat.le_succ _,(fun e=>by have e':w1.heap.size=w1.heap.size+1:=ξo e;omega),(fun e=>by cases e)⟩
 · rw[←e1];exact ξn _ _
 · exact six_row (by rw[←hs] at *;exact(heap_alloc_old _ _ (by rw[e1];omega)).trans e2) (ξr _) h6
 · exact⟨rfl,.inl ⟨rfl,rfl⟩⟩
theorem Nb.mono {w wr:World} {B K K' bN:Nat} {c u1 u2:Value} {n:Net} (h:Nb w wr B c K bN u1 u2 n) (hk:K≤K'):Nb w wr B c K' bN u1 u2 n:=⟨h.cs.mono hk,h.box,h.d,h.hb,h.ne⟩
theorem Nb.drew {w wr:World} {B K bN:Nat} {c u1 u2:Value} {n:Net} (h:Nb w wr B c K bN u1 u2 n):Nb w wr.drew B c K bN u1 u2 n:=h.below (ξb _ _).drew
theorem Nb.alloc {w wr:World} {B K bN:Nat} {c u1 u2:Value} {n:Net} (h:Nb w wr B c K bN u1 u2 n) (o:Obj):Nb w (wr.alloc o) B c K bN u1 u2 n:=h.below ((ξb _ _).alloc (ξr _) o)
theorem Nb.cell {w wr:World} {B K bN:Nat} {c u1 u2:Value} {n:Net} (h:Nb w wr B c K bN u1 u2 n):wr.cell? ⟨bN,1,none⟩=some u2:=blkc h.box rfl
theorem Nb.frozen {w wr:World} {B K bN:Nat} {c u1 u2:Value} {n:Net} (h:Nb w wr B c K bN u1 u2 n):wr.frozen? ⟨bN,1,none⟩=false:=by simp[World.frozen?,h.box]
theorem Nb.pick {w wr:World} {B K bN:Nat} {c u1 u2:Value} {n:Net} (h:Nb w wr B c K bN u1 u2 n) (hk:K≤4000000000000000) (N:Int) (h1:1≤N) (h2:N≤1073741824):
 Calls Tryz.prog 72 #[.pointer (some ⟨B,0,none⟩),.int .i64 N] wr fun e w'=>∃x:Int,0≤x∧x≤N-1∧e= .returned (.int .i64 x)∧Hid (Nb w w' B c (K+2) bN u1 u2 n)∧CS wr B c (K+2) w':=by
 refine(ξX B c K N wr h.cs.st hk h1 h2).mono ?_
 rintro e w' ⟨x,x0,x1,rfl,hc,-⟩
 exact⟨x,x0,x1,rfl,h.call hc,hc⟩
theorem Nb.one {w wr:World} {B K bN:Nat} {c u1 u2:Value} {n:Net} (h:Nb w wr B c K bN u1 u2 n) (hk:K≤4000000000000000) (N:Int) (h1:1≤N) (h2:N≤1073741824):
 Calls Tryz.prog 136 #[.pointer (some ⟨B,0,none⟩),.int .i64 N] wr fun e w'=>∃b:Bool,e= .returned (.bool b)∧Hid (Nb w w' B c (K+2) bN u1 u2 n):=by
 refine(oneC B c K N wr h.cs.st hk h1 h2).mono ?_
 rintro e w' ⟨x,rfl,hc,-⟩
 exact⟨x,rfl,h.call hc⟩
theorem Nb.among {w wr:World} {B K bN g:Nat} {c u1 u2:Value} {n:Net} (h:Nb w wr B c K bN u1 u2 n) (hk:K≤4000000000000000)
 (hg:wr.heap[g]?= some (.cells #[.int .i64 0,.int .i64 0,.int .i64 0,.int .i64 1,.int .i64 2] 3 (0,0))) (hw:w.heap.size≤g):
 Calls Tryz.prog 73 #[.pointer (some ⟨B,0,none⟩),.slice (some ⟨g,0,none⟩) 5 5] wr fun e w'=>∃x:Int,0≤x∧x≤2∧e= .returned (.int .i64 x)∧Hid (Nb w w' B c (K+2) bN u1 u2 n):=by
 refine(ξaw B c K g 5 5 0 2 wr h.cs.st hk (by omega) (by omega) (by have:=h.cs.1.1;omega) (ξar hg risk_rng)).mono ?_
 rintro e w' ⟨x,x0,x1,rfl,hc,-⟩
 exact⟨x,x0,x1,rfl,h.call hc⟩
theorem Nb.l2Put {w wr:World} {B K bN:Nat} {c u1 u2:Value} {n:Net} (h:Nb w wr B c K bN u1 u2 n) (a b l r:Int) (hf:ξV ⟨a,b,l,r⟩) (hl:n.fs.length≤39):
 Calls Tryz.prog 165 #[u2,.agg #[.int .i64 a,.int .i64 b,.int .i64 l,.int .i64 r]] wr fun e w'=>∃a9 n9 c9,e= .returned (.slice a9 n9 c9)∧Hid (∃fs',fs'.length=n.fs.length+1∧Nb w (w'.setCell ⟨bN,1,none⟩ (.slice a9 n9 c9)) B c K bN u1 (.slice a9 n9 c9) ⟨n.ns,fs'⟩)∧Hid (Nb w w' B c K bN u1 u2 n):=by
 refine(l2Put_agg u2 n.fs a b l r wr h.d.fs.rd h.d.sm hf (by omega)).mono ?_
 rintro e w' ⟨v',rfl,hp⟩
 obtain⟨a9,c9,n9,rfl⟩:=hp.choose_spec.1.slice
 exact⟨a9,n9,c9,rfl,h.put hp hl,h.below hp.choose_spec.2.2.2.2⟩
def NtP (w:World) (B:Nat) (c:Value) (K:Nat) (e:Ending) (w':World):Prop:=∃u1 u2 n,e= .returned (.agg #[u1,u2])∧(n.fs.length≤9∧n.ns.length≤6)∧NtD w' w.heap.size u1 u2 n∧CS w B c (K+100) w'
theorem Nb.done {w w1 wr:World} {B K K' bN:Nat} {c u1 u2:Value} {n:Net} (h:Nb w1 wr B c K' bN u1 u2 n) (h1:CS w B c K w1) (hs:w1.heap.size=w.heap.size+1) (hk:K'≤K+100) (hl:n.fs.length≤9∧n.ns.length≤6):
 NtP w B c K (.returned (.agg #[u1,u2])) ((wr.setCell ⟨w.heap.size,0,none⟩ u1).setCell ⟨w.heap.size,1,none⟩ u2):=by
 refine⟨u1,u2,n,rfl,hl,(h.d.base (by omega)).kept fun g _ hb=> ?_,(((h1.call h.cs).mono hk).set (ξr _) u1).set (ξr _) u2⟩
 have:=(h.d.lt g hb).1
 rw[ξm _ _ _ _ (show g≠w.heap.size by omega),ξm _ _ _ _ (show g≠w.heap.size by omega)]
theorem ξcx (B:Nat) (c:Value) (K:Nat) (w:World) (h:Cs w B c K) (hk:K≤3000000000000000):
 Calls Tryz.prog 121 #[ptr B] w (NtP w B c K):=by
 have b1:=(ξb w.heap.size w).alloc (ξr _) (.cells #[.slice none 0 0,.slice none 0 0] 35)
 have k1:=ξn w (.cells #[.slice none 0 0,.slice none 0 0] 35)
 have HC1:=ξh (h.here.below b1)
 have HK1:=ξh k1
 have z1:(w.alloc (.cells #[.slice none 0 0,.slice none 0 0] 35)).heap.size=w.heap.size+1:=by simp
 have HZ1:=ξh z1
 obtain⟨NP,hNP⟩:∃NP,NP=NtP w B c K:=⟨_,rfl⟩
 rw[←hNP]
 clear h b1 k1 z1
 go_enter Tryz.func121,Tryz.ntmps121
 go_wp2_with fail
 generalize w.alloc (.cells #[.slice none 0 0,.slice none 0 0] 35)=w1 at *
 refine(ξX B c K 5 _ HC1.st (by omega) (by omega) (by omega)).mono ?_
 rintro e w2 ⟨x,x0,x1,rfl,hc2,hs2⟩
 obtain⟨k,rfl⟩:∃k:Nat,x=(k:Int)-2:=⟨(x+2).toNat,by omega⟩
 have hk6:2≤k∧k≤6:=by omega
 have hwk:IntKind.i64.wrap (2+((k:Int)-2))=(k:Int):=by rw[ξi _ (by omega)];omega
 have hwk2:wrap64 (2+((k:Int)-2))=(k:Int):=by rw[ξw _ (by omega)];omega
 have hwk3:2+((k:Int)-2)=(k:Int):=by omega
 have i1:(0:Int)≤(k:Int):=by omega
 have i2:(k:Int)≤6:=by omega
 have i3:k≤6:=by omega
 have HR1:=ξh (hc2.blk HK1.out (by have:=HC1.1.1;omega))
 have HQ:=ξh (net_begin (k:=k) hc2 hs2 (by omega) (by omega))
 have hl2:=HZ1.out
 clear hc2
 go_wp2
 --mark
 obtain⟨WN,hWN⟩:∃WN,WN=((w2.alloc (.cells #[.string ⟨#[97]⟩,.string ⟨#[98]⟩,.string ⟨#[99]⟩,.string ⟨#[100]⟩,.string ⟨#[101]⟩,.string ⟨#[102]⟩] 9)).alloc (.cells #[.slice (some ⟨w.heap.size+1,0,none⟩) k 6,.slice none 0 0] 35)):=⟨_,rfl⟩
 rw[hl2] at HQ
 rw[←hWN] at HQ ⊢
 clear hWN hs2
 go_loopw [5,6] (fun i _ wr=>∃(q:Nat) (u2:Value) (n:Net),q≤k∧i= .int .i64 q∧n.fs.length≤q∧Hid (Nb w1 wr B c (K+2+6*q) (w.heap.size+1+1) (.slice (some ⟨w.heap.size+1,0,none⟩) k 6) u2 n)) (fun i _ _=>k-(intOf i).toNat)
 case atStart=>exact⟨0,_,_,ξu _,rfl,ξu _,HQ⟩
 case round=>
  obtain⟨q,u2,n,hq,rfl,hfl,CC⟩:=hrel
  by_cases hlt:q<k
  · have hltI:(q:Int)<(k:Int):=by omega
    have hwq:IntKind.i64.wrap ((q:Int)+1)=(q:Int)+1:=ξi _ (by omega)
    obtain⟨j,hj⟩:∃j,j=(q+1)%k:=⟨_,rfl⟩
    have hjk:j<k:=by rw[hj];exact Nat.mod_lt _ (by omega)
    have e1:((q:Int)+1)%(k:Int)=(j:Int):=by rw[hj];rfl
    have e1t:((q:Int)+1).tmod (k:Int)=(j:Int):=by rw[Int.tmod_eq_emod_of_nonneg (by omega)];exact e1
    have hwj:IntKind.i64.wrap (j:Int)=(j:Int):=ξi _ (by omega)
    have hk0:¬k=0:=by omega
    have hqj:¬q=j:=by
     intro e
     by_cases hh:q+1=k
     · rw[hh,Nat.mod_self] at hj;omega
     · rw[Nat.mod_eq_of_lt (by omega)] at hj;omega
    have hqjI:¬(q:Int)=(j:Int):=by omega
    clear hj e1
    go_wp2_with fail
    refine(Nb.one CC.out (by omega) 10 (by omega) (by omega)).mono ?_
    rintro e w3 ⟨b,rfl,CC⟩
    cases b
    · go_wp2_with fail
      obtain⟨a2,c2,rfl⟩:=CC.d.slices.2
      have hlB:=CC.cs.1.1
      have hsz:=CC.cs.size
      refine ξH [0,1,2,3,4,5,6,7,8,9,10,11,12,13,14,15,16] (S:=fun w'=>w'.cell? ⟨w.heap.size+1+1,1,none⟩=some (.slice a2 n.fs.length c2)) (by kernel_rfl) (CC.drew.cell) (fun hH=> ?_)
      have CC:=ξh CC.drew
      obtain⟨wc,hwc⟩:∃wc,wc=w3.drew:=⟨_,rfl⟩
      rw[←hwc] at CC hH ⊢
      clear hwc
      refine hlF 0 rfl hH ?_
      try simp only[Act.put,hlA,hlB,hlC]
      refine hlF 1 rfl hH ?_
      try simp only[Act.put,hlA,hlB,hlC]
      refine hlF 2 rfl hH ?_
      try simp only[Act.put,hlA,hlB,hlC]
      refine hlF 3 rfl hH ?_
      try simp only[Act.put,hlA,hlB,hlC]
      refine hlF 5 rfl hH ?_
      try simp only[Act.put,hlA,hlB,hlC]
      refine hlF 6 rfl hH ?_
      try simp only[Act.put,hlA,hlB,hlC]
      refine hlF 8 rfl hH ?_
      try simp only[Act.put,hlA,hlB,hlC]
      refine hlF 12 rfl hH ?_
      try simp only[Act.put,hlA,hlB,hlC]
      refine ξB (rs:=[4,13]) (by kernel_rfl) (by simp) ?_
      refine AllReadyL.cons rfl (fun KK hKK=> ?_) (AllReadyL.cons rfl (fun KK hKK=> ?_) AllReadyL.nil)
      go_simp
      go_at_call 124
      refine(ξbj _ _ _).mono ?_
      rintro e wn ⟨xa,rfl,ha,rfl⟩
      refine hKK.out _ _ (CC.cell) (fun hH=> ?_)
      clear hKK KK
      try simp only[Act.put,hlA,hlB,hlC]
      have R4:True:=trivial
      rotate_left 1
      go_simp
      obtain⟨g,hg⟩:∃bb,bb=wc.heap.size:=⟨_,rfl⟩
      have HG:=ξn wc (.cells #[.int .i64 0,.int .i64 0,.int .i64 0,.int .i64 1,.int .i64 2] 3)
      have hgB:g≠B:=by have:=CC.cs.1.1;have:=CC.cs.size;omega
      have hgs:w1.heap.size≤g:=by rw[hg];exact CC.cs.size
      rw[←hg] at HG ⊢
      have HG:=ξh HG
      have CC:=ξh (CC.alloc (.cells #[.int .i64 0,.int .i64 0,.int .i64 0,.int .i64 1,.int .i64 2] 3))
      clear hg
      generalize wc.alloc (.cells #[.int .i64 0,.int .i64 0,.int .i64 0,.int .i64 1,.int .i64 2] 3)=wn at *
      obtain⟨wc,hwc⟩:∃wc,wc=wn:=⟨_,rfl⟩
      subst hwc
      refine hKK.out _ _ (CC.cell) (fun hH=> ?_)
      clear hKK KK
      try simp only[Act.put,hlA,hlB,hlC]
      have R13:True:=trivial
      rotate_left 1
      all_goals
       first
        | have hD:True:=R4
          clear hD
          refine ξB (rs:=[7,13]) (by kernel_rfl) (by simp) ?_
          refine AllReadyL.cons rfl (fun KK hKK=> ?_) (AllReadyL.cons rfl (fun KK hKK=> ?_) AllReadyL.nil)
          go_simp
          go_at_call 166
          refine(ξbO _ _ _).mono ?_
          rintro e wn ⟨xb,rfl,hb,rfl⟩
          refine hKK.out _ _ (CC.cell) (fun hH=> ?_)
          clear hKK KK
          try simp only[Act.put,hlA,hlB,hlC]
          have R7:True:=trivial
          rotate_left 1
          go_simp
          obtain⟨g,hg⟩:∃bb,bb=wc.heap.size:=⟨_,rfl⟩
          have HG:=ξn wc (.cells #[.int .i64 0,.int .i64 0,.int .i64 0,.int .i64 1,.int .i64 2] 3)
          have hgB:g≠B:=by have:=CC.cs.1.1;have:=CC.cs.size;omega
          have hgs:w1.heap.size≤g:=by rw[hg];exact CC.cs.size
          rw[←hg] at HG ⊢
          have HG:=ξh HG
          have CC:=ξh (CC.alloc (.cells #[.int .i64 0,.int .i64 0,.int .i64 0,.int .i64 1,.int .i64 2] 3))
          clear hg
          generalize wc.alloc (.cells #[.int .i64 0,.int .i64 0,.int .i64 0,.int .i64 1,.int .i64 2] 3)=wn at *
          obtain⟨wc,hwc⟩:∃wc,wc=wn:=⟨_,rfl⟩
          subst hwc
          refine hKK.out _ _ (CC.cell) (fun hH=> ?_)
          clear hKK KK
          try simp only[Act.put,hlA,hlB,hlC]
          have R13:True:=trivial
          rotate_left 1
        | have hD:True:=R13
          clear hD
          refine ξB (rs:=[4]) (by kernel_rfl) (by simp) ?_
          refine AllReadyL.cons rfl (fun KK hKK=> ?_) AllReadyL.nil
          go_simp
          go_at_call 124
          refine(ξbj _ _ _).mono ?_
          rintro e wn ⟨xa,rfl,ha,rfl⟩
          refine hKK.out _ _ (CC.cell) (fun hH=> ?_)
          clear hKK KK
          try simp only[Act.put,hlA,hlB,hlC]
          have R4:True:=trivial
      all_goals
       first
        | have hD:True:=(fun _ _=>trivial:True→True→True) R4 R7
          clear hD
          refine ξB (rs:=[9,13]) (by kernel_rfl) (by simp) ?_
          refine AllReadyL.cons rfl (fun KK hKK=> ?_) (AllReadyL.cons rfl (fun KK hKK=> ?_) AllReadyL.nil)
          go_simp
          go_at_call 72
          refine(CC.pick (by omega) 8 (by omega) (by omega)).mono ?_
          rintro e wn ⟨xp,p0,p1,rfl,CC,hc8⟩
          have hwp:IntKind.i64.wrap (1+xp)=1+xp:=ξi _ (by omega)
          have hwp2:IntKind.i64.wrap (100*(1+xp))=100*(1+xp):=ξi _ (by omega)
          skip
          clear hc8
          obtain⟨wc,hwc⟩:∃wc,wc=wn:=⟨_,rfl⟩
          subst hwc
          refine hKK.out _ _ (CC.cell) (fun hH=> ?_)
          clear hKK KK
          try simp only[Act.put,hlA,hlB,hlC]
          have R9:True:=trivial
          refine hlF 10 rfl hH ?_
          try simp only[Act.put,hlA,hlB,hlC]
          refine hlF 11 rfl hH ?_
          try simp only[Act.put,hlA,hlB,hlC]
          rotate_left 1
          go_simp
          obtain⟨g,hg⟩:∃bb,bb=wc.heap.size:=⟨_,rfl⟩
          have HG:=ξn wc (.cells #[.int .i64 0,.int .i64 0,.int .i64 0,.int .i64 1,.int .i64 2] 3)
          have hgB:g≠B:=by have:=CC.cs.1.1;have:=CC.cs.size;omega
          have hgs:w1.heap.size≤g:=by rw[hg];exact CC.cs.size
          rw[←hg] at HG ⊢
          have HG:=ξh HG
          have CC:=ξh (CC.alloc (.cells #[.int .i64 0,.int .i64 0,.int .i64 0,.int .i64 1,.int .i64 2] 3))
          clear hg
          generalize wc.alloc (.cells #[.int .i64 0,.int .i64 0,.int .i64 0,.int .i64 1,.int .i64 2] 3)=wn at *
          obtain⟨wc,hwc⟩:∃wc,wc=wn:=⟨_,rfl⟩
          subst hwc
          refine hKK.out _ _ (CC.cell) (fun hH=> ?_)
          clear hKK KK
          try simp only[Act.put,hlA,hlB,hlC]
          have R13:True:=trivial
          rotate_left 1
        | have hD:True:=(fun _ _=>trivial:True→True→True) R4 R13
          clear hD
          refine ξB (rs:=[7]) (by kernel_rfl) (by simp) ?_
          refine AllReadyL.cons rfl (fun KK hKK=> ?_) AllReadyL.nil
          go_simp
          go_at_call 166
          refine(ξbO _ _ _).mono ?_
          rintro e wn ⟨xb,rfl,hb,rfl⟩
          refine hKK.out _ _ (CC.cell) (fun hH=> ?_)
          clear hKK KK
          try simp only[Act.put,hlA,hlB,hlC]
          have R7:True:=trivial
      all_goals
       first
        | have hD:True:=(fun _ _ _=>trivial:True→True→True→True) R4 R7 R9
          clear hD
          refine ξB (rs:=[13]) (by kernel_rfl) (by simp) ?_
          refine AllReadyL.cons rfl (fun KK hKK=> ?_) AllReadyL.nil
          go_simp
          obtain⟨g,hg⟩:∃bb,bb=wc.heap.size:=⟨_,rfl⟩
          have HG:=ξn wc (.cells #[.int .i64 0,.int .i64 0,.int .i64 0,.int .i64 1,.int .i64 2] 3)
          have hgB:g≠B:=by have:=CC.cs.1.1;have:=CC.cs.size;omega
          have hgs:w1.heap.size≤g:=by rw[hg];exact CC.cs.size
          rw[←hg] at HG ⊢
          have HG:=ξh HG
          have CC:=ξh (CC.alloc (.cells #[.int .i64 0,.int .i64 0,.int .i64 0,.int .i64 1,.int .i64 2] 3))
          clear hg
          generalize wc.alloc (.cells #[.int .i64 0,.int .i64 0,.int .i64 0,.int .i64 1,.int .i64 2] 3)=wn at *
          obtain⟨wc,hwc⟩:∃wc,wc=wn:=⟨_,rfl⟩
          subst hwc
          refine hKK.out _ _ (CC.cell) (fun hH=> ?_)
          clear hKK KK
          try simp only[Act.put,hlA,hlB,hlC]
          have R13:True:=trivial
        | have hD:True:=(fun _ _ _=>trivial:True→True→True→True) R4 R7 R13
          clear hD
          refine ξB (rs:=[9]) (by kernel_rfl) (by simp) ?_
          refine AllReadyL.cons rfl (fun KK hKK=> ?_) AllReadyL.nil
          go_simp
          go_at_call 72
          refine(CC.pick (by omega) 8 (by omega) (by omega)).mono ?_
          rintro e wn ⟨xp,p0,p1,rfl,CC,hc8⟩
          have hwp:IntKind.i64.wrap (1+xp)=1+xp:=ξi _ (by omega)
          have hwp2:IntKind.i64.wrap (100*(1+xp))=100*(1+xp):=ξi _ (by omega)
          have HG:=ξh (hc8.blk HG.out hgB)
          clear hc8
          obtain⟨wc,hwc⟩:∃wc,wc=wn:=⟨_,rfl⟩
          subst hwc
          refine hKK.out _ _ (CC.cell) (fun hH=> ?_)
          clear hKK KK
          try simp only[Act.put,hlA,hlB,hlC]
          have R9:True:=trivial
          refine hlF 10 rfl hH ?_
          try simp only[Act.put,hlA,hlB,hlC]
          refine hlF 11 rfl hH ?_
          try simp only[Act.put,hlA,hlB,hlC]
      all_goals
       refine ξB (rs:=[14]) (by kernel_rfl) (by simp) ?_
       refine AllReadyL.cons rfl (fun KK hKK=> ?_) AllReadyL.nil
       go_simp
       go_at_call 73
       refine(CC.among (by omega) HG.out hgs).mono ?_
       rintro e wn ⟨xr,r0,r1,rfl,CC⟩
       clear HG hgB hgs
       obtain⟨wc,hwc⟩:∃wc,wc=wn:=⟨_,rfl⟩
       subst hwc
       refine hKK.out _ _ (CC.cell) (fun hH=> ?_)
       clear hKK KK
       try simp only[Act.put,hlA,hlB,hlC]
       have R14:True:=trivial
       refine hlF 15 rfl hH ?_
       try simp only[Act.put,hlA,hlB,hlC]
      all_goals
       refine ξG 16 rfl (by kernel_rfl) (by kernel_rfl) (fun KK hKK=> ?_)
       go_simp
       go_at_call 165
       refine(CC.l2Put _ _ _ _ (by unfold ξV;simp only;clear CC;omega) (by omega)).mono ?_
       rintro e wn ⟨a9,n9,c9,rfl,hp,CC⟩
       have y10a:=CC.cell
       have y10b:=CC.frozen
       refine hKK.out _ _ ?_
       clear hKK KK
       try simp only[Act.put,hlA,hlB,hlC]
       refine ξG 17 rfl (by kernel_rfl) (by kernel_rfl) (fun KK hKK=> ?_)
       go_simp
       refine hKK.out _ _ ?_
       clear hKK KK
       try simp only[Act.put,hlA,hlB,hlC]
       refine ξG 18 rfl (by kernel_rfl) (by kernel_rfl) (fun KK hKK=> ?_)
       go_simp
       refine hKK.out _ _ ?_
       clear hKK KK
       try simp only[Act.put,hlA,hlB,hlC]
       refine ξS (by kernel_rfl) ?_ _
      all_goals
       obtain⟨fs',hl',CC⟩:=hp.out
       have CC:=CC.mono (K':=K+2+6*(q+1)) (by omega)
       clear y10a y10b hp hsz
       go_wp2_with fail
       go_roundw
       case rel=>exact⟨q+1,_,⟨n.ns,fs'⟩,by omega,by go_num,by show fs'.length≤q+1;omega,CC⟩
       case measure=>simp[intOf];omega
    · go_wp2_with fail
      go_roundw
      case rel=>exact⟨q+1,u2,n,by omega,by go_num,by omega,CC.mono (by omega)⟩
      case measure=>simp[intOf];omega
  · obtain rfl:k=q:=by omega
    have CC:=ξh (CC.mono (K':=K+40) (by omega))
    have hqI:¬(k:Int)<(k:Int):=by omega
    go_wp2_with fail
    refine(Nb.pick CC.out (by omega) 4 (by omega) (by omega)).mono ?_
    rintro e w3 ⟨xm,xm0,xm1,rfl,CC,-⟩
    obtain⟨r,rfl⟩:=Int.eq_ofNat_of_zero_le xm0
    have hr3:r≤3:=by omega
    go_wp2_with fail
    go_loopw [7,8,9] (fun i _ _ wr=>∃(r:Nat) (u2:Value) (n:Net),r≤3∧i= .int .i64 r∧n.fs.length+r≤k+3∧Hid (Nb w1 wr B c (K+90-16*r) (w.heap.size+1+1) (.slice (some ⟨w.heap.size+1,0,none⟩) k 6) u2 n)) (fun i _ _ _=>(intOf i).toNat)
    case atStart=>exact⟨r,u2,n,hr3,rfl,by omega,CC.mono (by omega)⟩
    case round=>
     clear CC hfl xm0 xm1 hr3 hqI
     obtain⟨r,u2,n,hr,rfl,hfl,CC⟩:=hrel
     have y1:wr.cell? ⟨(w.heap.size+1+1),0,none⟩=some (.slice (some ⟨w.heap.size+1,0,none⟩) k 6):=blkc CC.box rfl
     by_cases hlt:0<r
     · have hltI:(0:Int)<(r:Int):=by omega
       have hwr:IntKind.i64.wrap ((r:Int)-1)=((r-1:Nat):Int):=by rw[ξi _ (by omega)];omega
       obtain⟨KQ,hKQ⟩:∃KQ,KQ=K+90-16*r:=⟨_,rfl⟩
       rw[←hKQ] at CC
       clear y1
       go_wp2_with fail
       refine(Nb.pick CC.out (by omega) (k:Int) (by omega) (by omega)).mono ?_
       rintro e w4 ⟨xi,xi0,xi1,rfl,CC,-⟩
       go_wp2_with fail
       refine(Nb.pick CC.out (by omega) (k:Int) (by omega) (by omega)).mono ?_
       rintro e w3 ⟨xj,xj0,xj1,rfl,CC,-⟩
       obtain⟨q,rfl⟩:=Int.eq_ofNat_of_zero_le xi0
       obtain⟨j,rfl⟩:=Int.eq_ofNat_of_zero_le xj0
       have hlt:q<k:=by omega
       have hjk:j<k:=by omega
       by_cases hqj:q=j
       · have hqjI:(q:Int)=(j:Int):=by omega
         go_wp2_with fail
         go_roundw
         case rel=>exact⟨r-1,u2,n,by omega,by go_num,by omega,CC.mono (by omega)⟩
         case measure=>simp[intOf];omega
       · have hqjI:¬(q:Int)=(j:Int):=by omega
         go_wp2_with fail
         obtain⟨a2,c2,rfl⟩:=CC.d.slices.2
         have hlB:=CC.cs.1.1
         have hsz:=CC.cs.size
         refine ξH [0,1,2,3,4,5,6,7,8,9,10,11,12,13,14,15,16] (S:=fun w'=>w'.cell? ⟨w.heap.size+1+1,1,none⟩=some (.slice a2 n.fs.length c2)) (by kernel_rfl) (CC.drew.cell) (fun hH=> ?_)
         have CC:=ξh CC.drew
         obtain⟨wc,hwc⟩:∃wc,wc=w3.drew:=⟨_,rfl⟩
         rw[←hwc] at CC hH ⊢
         clear hwc
         refine hlF 0 rfl hH ?_
         try simp only[Act.put,hlA,hlB,hlC]
         refine hlF 1 rfl hH ?_
         try simp only[Act.put,hlA,hlB,hlC]
         refine hlF 2 rfl hH ?_
         try simp only[Act.put,hlA,hlB,hlC]
         refine hlF 3 rfl hH ?_
         try simp only[Act.put,hlA,hlB,hlC]
         refine hlF 5 rfl hH ?_
         try simp only[Act.put,hlA,hlB,hlC]
         refine hlF 6 rfl hH ?_
         try simp only[Act.put,hlA,hlB,hlC]
         refine hlF 8 rfl hH ?_
         try simp only[Act.put,hlA,hlB,hlC]
         refine hlF 12 rfl hH ?_
         try simp only[Act.put,hlA,hlB,hlC]
         refine ξB (rs:=[4,13]) (by kernel_rfl) (by simp) ?_
         refine AllReadyL.cons rfl (fun KK hKK=> ?_) (AllReadyL.cons rfl (fun KK hKK=> ?_) AllReadyL.nil)
         go_simp
         go_at_call 124
         refine(ξbj _ _ _).mono ?_
         rintro e wn ⟨xa,rfl,ha,rfl⟩
         refine hKK.out _ _ (CC.cell) (fun hH=> ?_)
         clear hKK KK
         try simp only[Act.put,hlA,hlB,hlC]
         have R4:True:=trivial
         rotate_left 1
         go_simp
         obtain⟨g,hg⟩:∃bb,bb=wc.heap.size:=⟨_,rfl⟩
         have HG:=ξn wc (.cells #[.int .i64 0,.int .i64 0,.int .i64 0,.int .i64 1,.int .i64 2] 3)
         have hgB:g≠B:=by have:=CC.cs.1.1;have:=CC.cs.size;omega
         have hgs:w1.heap.size≤g:=by rw[hg];exact CC.cs.size
         rw[←hg] at HG ⊢
         have HG:=ξh HG
         have CC:=ξh (CC.alloc (.cells #[.int .i64 0,.int .i64 0,.int .i64 0,.int .i64 1,.int .i64 2] 3))
         clear hg
         generalize wc.alloc (.cells #[.int .i64 0,.int .i64 0,.int .i64 0,.int .i64 1,.int .i64 2] 3)=wn at *
         obtain⟨wc,hwc⟩:∃wc,wc=wn:=⟨_,rfl⟩
         subst hwc
         refine hKK.out _ _ (CC.cell) (fun hH=> ?_)
         clear hKK KK
         try simp only[Act.put,hlA,hlB,hlC]
         have R13:True:=trivial
         rotate_left 1
         all_goals
          first
           | have hD:True:=R4
             clear hD
             refine ξB (rs:=[7,13]) (by kernel_rfl) (by simp) ?_
             refine AllReadyL.cons rfl (fun KK hKK=> ?_) (AllReadyL.cons rfl (fun KK hKK=> ?_) AllReadyL.nil)
             go_simp
             go_at_call 166
             refine(ξbO _ _ _).mono ?_
             rintro e wn ⟨xb,rfl,hb,rfl⟩
             refine hKK.out _ _ (CC.cell) (fun hH=> ?_)
             clear hKK KK
             try simp only[Act.put,hlA,hlB,hlC]
             have R7:True:=trivial
             rotate_left 1
             go_simp
             obtain⟨g,hg⟩:∃bb,bb=wc.heap.size:=⟨_,rfl⟩
             have HG:=ξn wc (.cells #[.int .i64 0,.int .i64 0,.int .i64 0,.int .i64 1,.int .i64 2] 3)
             have hgB:g≠B:=by have:=CC.cs.1.1;have:=CC.cs.size;omega
             have hgs:w1.heap.size≤g:=by rw[hg];exact CC.cs.size
             rw[←hg] at HG ⊢
             have HG:=ξh HG
             have CC:=ξh (CC.alloc (.cells #[.int .i64 0,.int .i64 0,.int .i64 0,.int .i64 1,.int .i64 2] 3))
             clear hg
             generalize wc.alloc (.cells #[.int .i64 0,.int .i64 0,.int .i64 0,.int .i64 1,.int .i64 2] 3)=wn at *
             obtain⟨wc,hwc⟩:∃wc,wc=wn:=⟨_,rfl⟩
             subst hwc
             refine hKK.out _ _ (CC.cell) (fun hH=> ?_)
             clear hKK KK
             try simp only[Act.put,hlA,hlB,hlC]
             have R13:True:=trivial
             rotate_left 1
           | have hD:True:=R13
             clear hD
             refine ξB (rs:=[4]) (by kernel_rfl) (by simp) ?_
             refine AllReadyL.cons rfl (fun KK hKK=> ?_) AllReadyL.nil
             go_simp
             go_at_call 124
             refine(ξbj _ _ _).mono ?_
             rintro e wn ⟨xa,rfl,ha,rfl⟩
             refine hKK.out _ _ (CC.cell) (fun hH=> ?_)
             clear hKK KK
             try simp only[Act.put,hlA,hlB,hlC]
             have R4:True:=trivial
         all_goals
          first
           | have hD:True:=(fun _ _=>trivial:True→True→True) R4 R7
             clear hD
             refine ξB (rs:=[9,13]) (by kernel_rfl) (by simp) ?_
             refine AllReadyL.cons rfl (fun KK hKK=> ?_) (AllReadyL.cons rfl (fun KK hKK=> ?_) AllReadyL.nil)
             go_simp
             go_at_call 72
             refine(CC.pick (by omega) 8 (by omega) (by omega)).mono ?_
             rintro e wn ⟨xp,p0,p1,rfl,CC,hc8⟩
             have hwp:IntKind.i64.wrap (1+xp)=1+xp:=ξi _ (by omega)
             have hwp2:IntKind.i64.wrap (100*(1+xp))=100*(1+xp):=ξi _ (by omega)
             skip
             clear hc8
             obtain⟨wc,hwc⟩:∃wc,wc=wn:=⟨_,rfl⟩
             subst hwc
             refine hKK.out _ _ (CC.cell) (fun hH=> ?_)
             clear hKK KK
             try simp only[Act.put,hlA,hlB,hlC]
             have R9:True:=trivial
             refine hlF 10 rfl hH ?_
             try simp only[Act.put,hlA,hlB,hlC]
             refine hlF 11 rfl hH ?_
             try simp only[Act.put,hlA,hlB,hlC]
             rotate_left 1
             go_simp
             obtain⟨g,hg⟩:∃bb,bb=wc.heap.size:=⟨_,rfl⟩
             have HG:=ξn wc (.cells #[.int .i64 0,.int .i64 0,.int .i64 0,.int .i64 1,.int .i64 2] 3)
             have hgB:g≠B:=by have:=CC.cs.1.1;have:=CC.cs.size;omega
             have hgs:w1.heap.size≤g:=by rw[hg];exact CC.cs.size
             rw[←hg] at HG ⊢
             have HG:=ξh HG
             have CC:=ξh (CC.alloc (.cells #[.int .i64 0,.int .i64 0,.int .i64 0,.int .i64 1,.int .i64 2] 3))
             clear hg
             generalize wc.alloc (.cells #[.int .i64 0,.int .i64 0,.int .i64 0,.int .i64 1,.int .i64 2] 3)=wn at *
             obtain⟨wc,hwc⟩:∃wc,wc=wn:=⟨_,rfl⟩
             subst hwc
             refine hKK.out _ _ (CC.cell) (fun hH=> ?_)
             clear hKK KK
             try simp only[Act.put,hlA,hlB,hlC]
             have R13:True:=trivial
             rotate_left 1
           | have hD:True:=(fun _ _=>trivial:True→True→True) R4 R13
             clear hD
             refine ξB (rs:=[7]) (by kernel_rfl) (by simp) ?_
             refine AllReadyL.cons rfl (fun KK hKK=> ?_) AllReadyL.nil
             go_simp
             go_at_call 166
             refine(ξbO _ _ _).mono ?_
             rintro e wn ⟨xb,rfl,hb,rfl⟩
             refine hKK.out _ _ (CC.cell) (fun hH=> ?_)
             clear hKK KK
             try simp only[Act.put,hlA,hlB,hlC]
             have R7:True:=trivial
         all_goals
          first
           | have hD:True:=(fun _ _ _=>trivial:True→True→True→True) R4 R7 R9
             clear hD
             refine ξB (rs:=[13]) (by kernel_rfl) (by simp) ?_
             refine AllReadyL.cons rfl (fun KK hKK=> ?_) AllReadyL.nil
             go_simp
             obtain⟨g,hg⟩:∃bb,bb=wc.heap.size:=⟨_,rfl⟩
             have HG:=ξn wc (.cells #[.int .i64 0,.int .i64 0,.int .i64 0,.int .i64 1,.int .i64 2] 3)
             have hgB:g≠B:=by have:=CC.cs.1.1;have:=CC.cs.size;omega
             have hgs:w1.heap.size≤g:=by rw[hg];exact CC.cs.size
             rw[←hg] at HG ⊢
             have HG:=ξh HG
             have CC:=ξh (CC.alloc (.cells #[.int .i64 0,.int .i64 0,.int .i64 0,.int .i64 1,.int .i64 2] 3))
             clear hg
             generalize wc.alloc (.cells #[.int .i64 0,.int .i64 0,.int .i64 0,.int .i64 1,.int .i64 2] 3)=wn at *
             obtain⟨wc,hwc⟩:∃wc,wc=wn:=⟨_,rfl⟩
             subst hwc
             refine hKK.out _ _ (CC.cell) (fun hH=> ?_)
             clear hKK KK
             try simp only[Act.put,hlA,hlB,hlC]
             have R13:True:=trivial
           | have hD:True:=(fun _ _ _=>trivial:True→True→True→True) R4 R7 R13
             clear hD
             refine ξB (rs:=[9]) (by kernel_rfl) (by simp) ?_
             refine AllReadyL.cons rfl (fun KK hKK=> ?_) AllReadyL.nil
             go_simp
             go_at_call 72
             refine(CC.pick (by omega) 8 (by omega) (by omega)).mono ?_
             rintro e wn ⟨xp,p0,p1,rfl,CC,hc8⟩
             have hwp:IntKind.i64.wrap (1+xp)=1+xp:=ξi _ (by omega)
             have hwp2:IntKind.i64.wrap (100*(1+xp))=100*(1+xp):=ξi _ (by omega)
             have HG:=ξh (hc8.blk HG.out hgB)
             clear hc8
             obtain⟨wc,hwc⟩:∃wc,wc=wn:=⟨_,rfl⟩
             subst hwc
             refine hKK.out _ _ (CC.cell) (fun hH=> ?_)
             clear hKK KK
             try simp only[Act.put,hlA,hlB,hlC]
             have R9:True:=trivial
             refine hlF 10 rfl hH ?_
             try simp only[Act.put,hlA,hlB,hlC]
             refine hlF 11 rfl hH ?_
             try simp only[Act.put,hlA,hlB,hlC]
         all_goals
          refine ξB (rs:=[14]) (by kernel_rfl) (by simp) ?_
          refine AllReadyL.cons rfl (fun KK hKK=> ?_) AllReadyL.nil
          go_simp
          go_at_call 73
          refine(CC.among (by omega) HG.out hgs).mono ?_
          rintro e wn ⟨xr,r0,r1,rfl,CC⟩
          clear HG hgB hgs
          obtain⟨wc,hwc⟩:∃wc,wc=wn:=⟨_,rfl⟩
          subst hwc
          refine hKK.out _ _ (CC.cell) (fun hH=> ?_)
          clear hKK KK
          try simp only[Act.put,hlA,hlB,hlC]
          have R14:True:=trivial
          refine hlF 15 rfl hH ?_
          try simp only[Act.put,hlA,hlB,hlC]
         all_goals
          refine ξG 16 rfl (by kernel_rfl) (by kernel_rfl) (fun KK hKK=> ?_)
          go_simp
          go_at_call 165
          refine(CC.l2Put _ _ _ _ (by unfold ξV;simp only;clear CC;omega) (by omega)).mono ?_
          rintro e wn ⟨a9,n9,c9,rfl,hp,CC⟩
          have y10a:=CC.cell
          have y10b:=CC.frozen
          refine hKK.out _ _ ?_
          clear hKK KK
          try simp only[Act.put,hlA,hlB,hlC]
          refine ξG 17 rfl (by kernel_rfl) (by kernel_rfl) (fun KK hKK=> ?_)
          go_simp
          refine hKK.out _ _ ?_
          clear hKK KK
          try simp only[Act.put,hlA,hlB,hlC]
          refine ξG 18 rfl (by kernel_rfl) (by kernel_rfl) (fun KK hKK=> ?_)
          go_simp
          refine hKK.out _ _ ?_
          clear hKK KK
          try simp only[Act.put,hlA,hlB,hlC]
          refine ξS (by kernel_rfl) ?_ _
         all_goals
          obtain⟨fs',hl',CC⟩:=hp.out
          have CC:=CC.mono (K':=K+90-16*(r-1)) (by omega)
          clear y10a y10b hp hsz
          go_wp2_with fail
          go_roundw
          case rel=>exact⟨r-1,_,⟨n.ns,fs'⟩,by omega,by go_num,by show fs'.length+(r-1)≤k+3;omega,CC⟩
          case measure=>simp[intOf];omega
     · obtain rfl:r=0:=by omega
       obtain⟨a2,c2,rfl⟩:=CC.d.slices.2
       have y2:=CC.cell
       have hB:=HC1.1.1
       have hbx:=CC.cs.blk HK1.out (by omega)
       have z0:wr.cell? ⟨w.heap.size,0,none⟩=some (.slice none 0 0):=blkc hbx rfl
       have z1:wr.cell? ⟨w.heap.size,1,none⟩=some (.slice none 0 0):=blkc hbx rfl
       have f0:wr.frozen? ⟨w.heap.size,0,none⟩=false:=by simp[World.frozen?,hbx]
       have f1:wr.frozen? ⟨w.heap.size,1,none⟩=false:=by simp[World.frozen?,hbx]
       go_wp2_with fail
       subst hNP
       exact bodyPost_ret (v:= .agg #[(.slice (some ⟨w.heap.size+1,0,none⟩) k 6),.slice a2 n.fs.length c2]) (by simp[results,Tryz.results121,go_sem,z0,z1]) rfl (CC.done HC1.out HZ1.out (by omega) ⟨by omega,by obtain⟨a,c,e⟩:=CC.d.slices.1;simp only[Value.slice.injEq] at e;omega⟩)
end Go.Proofs.YtofcicomhnkocaaGreat
