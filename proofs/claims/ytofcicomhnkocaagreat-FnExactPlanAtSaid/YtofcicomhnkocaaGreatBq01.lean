/- Joined: XInt XTre XMid XNamP XDpP XRwt. -/
import Derived.Test.YtofcicomhnkocaaGreatAls
import Derived.BigQuiet
import Derived.Deep.AppendLies
import Derived.Deep.DeepFit
import Derived.Deep.DeepMust
import Derived.Deep.LoopGhost
import Derived.Deep.QuietTactic
import Derived.Deep.RegionHeld3
import Derived.Handy
import Derived.Lib.Hide
import Derived.OpenShut
import Derived.StillTailTactics
import Derived.Test.YtofcicomhnkocaaGreatProg
import Derived.WalkKit
import Derived.WalkLawsBesides
import Derived.WalkSpells
import Derived.Deep.MidRow
import Derived.Deep.Slices
import Derived.Lib.SmallJoins
import Derived.OwnWalk
set_option linter.unusedVariables false
namespace Go.Proofs.YtofcicomhnkocaaGreat
set_option maxHeartbeats 200000
open Go.RowKit
theorem int_eq {k:IntKind} {a b:Int} (h:a=b):Value.int k a=Value.int k b:=by rw[h]
theorem ret_int {k:IntKind} {a b:Int} (h:a=b):Ending.returned (.int k a)= .returned (.int k b):=by rw[h]
abbrev ints (xs:List Int):List Value:=xs.map (Value.int .i64)
def Rd (w:World) (v:Value) (xs:List Int):Prop:=
 (v= .slice none 0 0∧xs=[])∨
 ∃b off cap,v= .slice (some ⟨b,off,none⟩) xs.length cap∧xs.length≤cap∧cap≤maxLen∧b<w.heap.size∧ ∀j,j<xs.length→w.cell? ⟨b,off+j,none⟩=some (.int .i64 ((xs[j]?.getD 0)))
def Own (w:World) (base:Nat) (v:Value) (xs:List Int):Prop:=
 (v= .slice none 0 0∧xs=[])∨
 ∃g off cap cur,v= .slice (some ⟨g,off,none⟩) xs.length cap∧base≤g∧(∃T,w.heap[g]?= some (.cells cur T (0,0)))∧xs.length≤cap∧cap≤maxLen∧off+cap≤cur.size∧(cur.toList.drop off).take xs.length=ints xs
theorem Own.rd {w:World} {base:Nat} {v:Value} {xs:List Int} (h:Own w base v xs):Rd w v xs:=by
 rcases h with h | ⟨g,off,cap,cur,hv,hb,⟨T,hg⟩,hl,hm,hs,ht⟩
 · exact .inl h
 · refine .inr ⟨g,off,cap,hv,hl,hm,(ξa hg).1,fun j hj=> ?_⟩
   rw[cell_of_row w g (off+j) cur _ (0,0) hg]
   have e:((cur.toList.drop off).take xs.length)[j]?= (ints xs)[j]?:=by rw[ht]
   rw[List.getElem?_take,if_pos hj,List.getElem?_drop] at e
   rw[←Array.getElem?_toList,e]
   simp[hj]
theorem Own.lt {w:World} {base:Nat} {v:Value} {xs:List Int} (h:Own w base v xs):∀k,v.ownBlock=some k→base≤k∧k<w.heap.size:=by
 intro k hk
 rcases h with ⟨rfl,_⟩ | ⟨g,off,cap,cur,rfl,hb,⟨T,hg⟩,_⟩
 · simp[Value.ownBlock] at hk
 · simp[Value.ownBlock] at hk
   subst hk
   exact⟨hb,(ξa hg).1⟩
theorem Own.mono {w:World} {base base':Nat} {v:Value} {xs:List Int} (h:Own w base v xs) (hb:base'≤base):Own w base' v xs:=by
 rcases h with h | ⟨g,off,cap,cur,hv,hbg,rest⟩
 · exact .inl h
 · exact .inr ⟨g,off,cap,cur,hv,by omega,rest⟩
theorem Own.kept {w w':World} {base:Nat} {v:Value} {xs:List Int} (h:Own w base v xs) (hk:∀k,v.ownBlock=some k→w'.heap[k]?= w.heap[k]?):Own w' base v xs:=by
 rcases h with h | ⟨g,off,cap,cur,hv,hbg,hg,rest⟩
 · exact .inl h
 · subst hv
   obtain⟨T,hg⟩:=hg
   exact .inr ⟨g,off,cap,cur,rfl,hbg,⟨T,by rw[hk g rfl];exact hg⟩,rest⟩
theorem Own.below {B base:Nat} {w w':World} {v:Value} {xs:List Int} (h:Own w base v xs) (hb:Below B w w') (hB:∀k,v.ownBlock=some k→k<B):Own w' base v xs:=
 h.kept fun k hk=>hb.block k (hB k hk)
theorem Own.belowAll {base:Nat} {w w':World} {v:Value} {xs:List Int} (h:Own w base v xs) (hb:Below w.heap.size w w'):Own w' base v xs:=
 h.below hb fun k hk=>(h.lt k hk).2
theorem Rd.drew {w:World} {v:Value} {xs:List Int} (h:Rd w v xs):Rd w.drew v xs:=h
theorem Rd.below {B:Nat} {w w':World} {v:Value} {xs:List Int} (h:Rd w v xs) (hb:Below B w w') (hB:∀k,v.ownBlock=some k→k<B):Rd w' v xs:=by
 rcases h with h | ⟨b,off,cap,hv,h1,h2,h3,h4⟩
 · exact .inl h
 · subst hv
   exact .inr ⟨b,off,cap,rfl,h1,h2,by have:=hb.size;omega,fun j hj=>by rw[hb.cell (p:=⟨b,off+j,none⟩) (hB b rfl)];exact h4 j hj⟩
theorem Rd.belowAll {w w':World} {v:Value} {xs:List Int} (h:Rd w v xs) (hb:Below w.heap.size w w'):Rd w' v xs:=by
 refine h.below hb fun k hk=> ?_
 rcases h with ⟨rfl,_⟩ | ⟨b,off,cap,rfl,h1,h2,h3,h4⟩
 · simp[Value.ownBlock] at hk
 · simp[Value.ownBlock] at hk;omega
theorem Rd.shape {w:World} {v:Value} {xs:List Int} (h:Rd w v xs):∃a cap,v= .slice a xs.length cap∧xs.length≤cap∧cap≤maxLen∧
 (0<xs.length→ ∃b off,a=some ⟨b,off,none⟩∧b<w.heap.size∧ ∀j,j<xs.length→w.cell? ⟨b,off+j,none⟩=some (.int .i64 ((xs[j]?.getD 0)))):=by
 rcases h with ⟨rfl,rfl⟩ | ⟨b,off,cap,rfl,h1,h2,h3,h4⟩
 · exact⟨none,0,rfl,by simp,by simp,by simp⟩
 · exact⟨_,_,rfl,h1,h2,fun _=>⟨b,off,rfl,h3,h4⟩⟩
theorem _root_.Go.World.grownBy.trans' {a b c:World} {row:Option Nat} (h:a.grownBy b row) (h2:b.grownBy c row):a.grownBy c row:=
 ⟨h2.os.trans h.os,h2.tape.trans h.tape,h2.output.trans h.output,ξs h.size h2.size,fun k hk hne=>(h2.block k (by have:=h.size;omega) hne).trans (h.block k hk hne)⟩
def Dr (w w':World):Prop:=∃n,w'=w.drewN n
theorem Dr.refl (w:World):Dr w w:=⟨0,rfl⟩
theorem Dr.drewN {w w':World} (h:Dr w w') (n:Nat):Dr w (w'.drewN n):=by
 obtain⟨m,rfl⟩:=h
 exact⟨m+n,by simp⟩
theorem Dr.drew {w w':World} (h:Dr w w'):Dr w w'.drew:=h.drewN 1
theorem Dr.below {B:Nat} {a w w':World} (h:Dr w w') (hb:Below B a w):Below B a w':=by
 obtain⟨m,rfl⟩:=h
 exact hb.trans ⟨rfl,rfl,rfl,ξr _,fun _ _=>rfl⟩
theorem Rd.opn {w:World} {v:Value} {xs:List Int} (h:Rd w v xs):∃a cap n,Hid (xs.length=n)∧v= .slice a n cap∧n≤cap∧n≤9223372036854775807∧
 (0<n→ ∃b off,a=some ⟨b,off,none⟩∧b<w.heap.size∧ ∀j,j<n→w.cell? ⟨b,off+j,none⟩=some (.int .i64 ((xs[j]?.getD 0)))):=by
 obtain⟨a,cap,hv,h1,h2,h3⟩:=h.shape
 unfold maxLen at h2
 exact⟨a,cap,xs.length,rfl,hv,h1,by omega,h3⟩
theorem own_of_row {w:World} {base:Nat} {v:Value} {n:Nat} {xs:List Int} (h:w.ownsRow base 3 1 v n (ints xs)):Own w base v xs:=by
 obtain⟨hl,h⟩:=h
 have hn:n=xs.length:=by simpa using hl.symm
 subst hn
 rcases h with ⟨rfl,h0⟩ | ⟨g,cap,cur,rfl,hb,hg,h1,h2,h3,h4⟩
 · exact .inl ⟨rfl,List.eq_nil_of_length_eq_zero h0⟩
 · exact .inr ⟨g,0,cap,cur,rfl,hb,⟨_,hg⟩,h1,h2,by omega,by simpa using h4⟩
theorem Own.stored {w:World} {base:Nat} {v:Value} {xs:List Int} {g off n cap:Nat} (h:Own w base v xs) (hv:v= .slice (some ⟨g,off,none⟩) n cap) (j:Nat) (hj:j<xs.length) (u:Int):
 Own (w.setCell ⟨g,off+j,none⟩ (.int .i64 u)) base v (xs.set j u)∧w.grownBy (w.setCell ⟨g,off+j,none⟩ (.int .i64 u)) (some g):=by
 rcases h with ⟨rfl,rfl⟩ | ⟨g',off',cap',cur,hv',hb,⟨T,hg⟩,h1,h2,h3,h4⟩
 · simp at hj
 · rw[hv'] at hv
   simp only[Value.slice.injEq,Option.some.injEq,Addr.mk.injEq,and_true] at hv
   obtain⟨⟨rfl,rfl⟩,rfl,rfl⟩:=hv
   refine⟨.inr ⟨g',off',cap',cur.setIfInBounds (off'+j) (.int .i64 u),by simpa using hv',hb,⟨T,heap_setCell_same w g' (off'+j) cur _ _ hg⟩,by simpa using h1,h2,by simpa using h3,?_⟩,
    ⟨rfl,rfl,rfl,by simp,fun k _ hk=>heap_setCell_other w ⟨g',off'+j,none⟩ k _ (fun e=>hk (by simp[e]))⟩⟩
   rw[Array.toList_setIfInBounds,List.length_set]
   show List.take xs.length (List.drop off' (cur.toList.set (off'+j) (.int .i64 u)))=(xs.set j u).map (Value.int .i64)
   rw[List.map_set]
   show _=(ints xs).set j (Value.int .i64 u)
   rw[←h4,List.drop_set,if_neg (by omega),List.take_set]
   congr 1;omega
theorem Own.frozenAt {w:World} {base:Nat} {v:Value} {xs:List Int} {g off n cap:Nat} (h:Own w base v xs) (hv:v= .slice (some ⟨g,off,none⟩) n cap) (j:Nat):w.frozen? ⟨g,j,none⟩=false:=by
 rcases h with ⟨rfl,rfl⟩ | ⟨g',off',cap',cur,hv',hb,⟨T,hg⟩,h1,h2,h3,h4⟩
 · simp at hv
 · rw[hv'] at hv
   simp only[Value.slice.injEq,Option.some.injEq,Addr.mk.injEq,and_true] at hv
   obtain⟨⟨rfl,rfl⟩,rfl,rfl⟩:=hv
   exact ξz w g' j cur _ hg
theorem Own.cellAt {w:World} {base:Nat} {v:Value} {xs:List Int} {g off n cap:Nat} (h:Own w base v xs) (hv:v= .slice (some ⟨g,off,none⟩) n cap):n=xs.length∧ ∀j,j<xs.length→w.cell? ⟨g,off+j,none⟩=some (.int .i64 ((xs[j]?.getD 0))):=by
 rcases h.rd with ⟨rfl,rfl⟩ | ⟨b,off',cap',hv',h1,h2,h3,h4⟩
 · simp at hv
 · rw[hv'] at hv
   simp only[Value.slice.injEq,Option.some.injEq,Addr.mk.injEq,and_true] at hv
   obtain⟨⟨rfl,rfl⟩,rfl,rfl⟩:=hv
   exact⟨rfl,h4⟩
theorem Tryz.infoInt:(Tryz.prog.info? 3).map (fun i=>(i.zero,i.size,i.bytes))=some (some (.int .i64 0),1,8):=by kernel_rfl
theorem take_succ' (zs:List Int) (k:Nat) (hk:k<zs.length):zs.take (k+1)=zs.take k++[zs[k]?.getD 0]:=by
 rw[List.take_add_one,ξg hk];rfl
theorem take_eq_step {xs ys:List Int} {k:Nat} (hx:k<xs.length) (hy:k<ys.length) (h:xs.take k=ys.take k) (e:(xs[k]?.getD 0)=(ys[k]?.getD 0)):xs.take (k+1)=ys.take (k+1):=by
 rw[take_succ' _ _ hx,take_succ' _ _ hy,h]
 congr 1
 simpa[List.getD] using e
def eqL (xs ys:List Int):Bool:=decide (xs=ys)
theorem eqL_refl (xs:List Int):eqL xs xs=true:=by simp[eqL]
theorem eqL_of {xs ys:List Int} (h:xs=ys):eqL xs ys=true:=by simp[eqL,h]
def cnt (k:Int) (n:Nat):List Int:=(List.range n).map fun(i:Nat)=>k+(i:Int)
theorem cnt_len (k:Int) (n:Nat):(cnt k n).length=n:=by simp[cnt]
theorem cnt_getD (k:Int) (n j:Nat) (h:j<n):((cnt k n)[j]?.getD 0)=k+j:=by simp[cnt,h]
section
variable {P : Program}
end
section
variable {P : Program}
end
inductive Dt where
 | leaf (v:Value)
 | rows (size:Nat) (ds:List Dt)
inductive Rdt (w:World):Dt→Value→Prop
 | leaf (u:Value):Rdt w (.leaf u) u
 | nil (size:Nat):Rdt w (.rows size []) (.slice none 0 0)
 | mk {size n b off cap:Nat} {ds:List Dt} {us:List Value} (hl:ds.length=n*size) (hu:us.length=ds.length) (hn:n≤cap) (hc:cap≤maxLen) (hb:b<w.heap.size)
  (hcell:∀(j:Nat) (u:Value),us[j]?= some u→w.cell? ⟨b,off+j,none⟩=some u) (hd:∀(j:Nat) (d:Dt) (u:Value),ds[j]?= some d→us[j]?= some u→Rdt w d u):Rdt w (.rows size ds) (.slice (some ⟨b,off,none⟩) n cap)
inductive Odt (w:World):Dt→Value→List Nat→Prop
 | leaf (u:Value):Odt w (.leaf u) u []
 | nil (size:Nat):Odt w (.rows size []) (.slice none 0 0) []
 | mk {size n g off cap:Nat} {ds:List Dt} {us:List Value} {fs:List (List Nat)} {cur:Array Value} {T:TypeId} (hl:ds.length=n*size) (hu:us.length=ds.length) (hf:fs.length=ds.length) (hn:n≤cap) (hc:cap≤maxLen)
  (hg:w.heap[g]?= some (.cells cur T (0,0))) (hcs:off+cap*size≤cur.size) (ht:(cur.toList.drop off).take (n*size)=us)
  (hd:∀(j:Nat) (d:Dt) (u:Value) (f:List Nat),ds[j]?= some d→us[j]?= some u→fs[j]?= some f→Odt w d u f):Odt w (.rows size ds) (.slice (some ⟨g,off,none⟩) n cap) (g::fs.flatten)
theorem Rdt.leaf_inv {w:World} {u v:Value} (h:Rdt w (.leaf u) v):v=u:=by cases h;rfl
theorem Odt.leaf_inv {w:World} {u v:Value} {fp:List Nat} (h:Odt w (.leaf u) v fp):v=u∧fp=[]:=by cases h;exact⟨rfl,rfl⟩
theorem Rdt.kept {w w':World} {d:Dt} {v:Value} (h:Rdt w d v) (hs:w.heap.size≤w'.heap.size) (hk:∀p:Addr,p.block<w.heap.size→w'.cell? p=w.cell? p):Rdt w' d v:=by
 induction h with
 | leaf u=>exact .leaf u
 | nil size=>exact .nil size
 | mk hl hu hn hc hb hcell hd ih=>
   exact .mk hl hu hn hc (by omega) (fun j u hj=>(hk _ hb).trans (hcell j u hj)) (fun j d u h1 h2=>ih j d u h1 h2)
theorem Rdt.behind {w w':World} {d:Dt} {v:Value} (h:Rdt w d v) (hb:Below w.heap.size w w'):Rdt w' d v:=h.kept hb.size (fun _ hp=>hb.cell hp)
theorem Odt.kept {w w':World} {d:Dt} {v:Value} {fp:List Nat} (h:Odt w d v fp) (hk:∀b∈fp,w'.heap[b]?= w.heap[b]?):Odt w' d v fp:=by
 induction h with
 | leaf u=>exact .leaf u
 | nil size=>exact .nil size
 | @mk size n g off cap ds us fs cur T hl hu hf hn hc hg hcs ht hd ih=>
   refine .mk hl hu hf hn hc (by rw[hk g (by simp)];exact hg) hcs ht (fun j d u f h1 h2 h3=>ih j d u f h1 h2 h3 fun b hb=>hk b ?_)
   exact List.mem_cons_of_mem _ (List.mem_flatten.2 ⟨f,List.mem_of_getElem? h3,hb⟩)
theorem Odt.lt {w:World} {d:Dt} {v:Value} {fp:List Nat} (h:Odt w d v fp):∀b∈fp,b<w.heap.size:=by
 induction h with
 | leaf u=>intro b hb;cases hb
 | nil size=>intro b hb;cases hb
 | @mk size n g off cap ds us fs cur T hl hu hf hn hc hg hcs ht hd ih=>
   intro b hb
   rcases List.mem_cons.1 hb with rfl | hb
   · exact(ξa hg).1
   · obtain⟨f,hf1,hf2⟩:=List.mem_flatten.1 hb
     obtain⟨j,hj,e⟩:=List.mem_iff_getElem.1 hf1
     exact ih j (ds[j]'(by omega)) (us[j]'(by omega)) f (ξg _) (ξg _) (by rw[ξg hj,e]) b hf2
theorem Odt.behind {w w':World} {d:Dt} {v:Value} {fp:List Nat} (h:Odt w d v fp) (hb:Below w.heap.size w w'):Odt w' d v fp:=h.kept fun b hb'=>hb.block b (h.lt b hb')
theorem row_cell {w:World} {g off m:Nat} {cur:Array Value} {T:TypeId} {us:List Value} (hg:w.heap[g]?= some (.cells cur T (0,0))) (ht:(cur.toList.drop off).take m=us) {j:Nat} {u:Value} (hj:us[j]?= some u) (hm:us.length=m):w.cell? ⟨g,off+j,none⟩=some u:=by
 rw[cell_of_row _ _ _ _ _ _ hg,←Array.getElem?_toList]
 have hlt:j<m:=by have:=(ξl hj).1;omega
 have h2:((cur.toList.drop off).take m)[j]?= some u:=by rw[ht];exact hj
 rw[List.getElem?_take,if_pos hlt,List.getElem?_drop] at h2
 exact h2
theorem Odt.rd {w:World} {d:Dt} {v:Value} {fp:List Nat} (h:Odt w d v fp):Rdt w d v:=by
 induction h with
 | leaf u=>exact .leaf u
 | nil size=>exact .nil size
 | @mk size n g off cap ds us fs cur T hl hu hf hn hc hg hcs ht hd ih=>
   refine .mk (us:=us) hl hu hn hc (ξa hg).1 (fun j u hj=>row_cell hg ht hj (by omega)) (fun j d u h1 h2=> ?_)
   have hj:j<fs.length:=by have:=(ξl h1).1;omega
   exact ih j d u _ h1 h2 (ξg hj)
theorem Rdt.opn {w:World} {size:Nat} {ds:List Dt} {v:Value} (h:Rdt w (.rows size ds) v):∃a n cap,v= .slice a n cap∧Hid (ds.length=n*size)∧n≤cap∧n≤9223372036854775807∧
 (0<n→ ∃b off,a=some ⟨b,off,none⟩∧b<w.heap.size∧ ∀(j:Nat) (d:Dt),ds[j]?= some d→ ∃u,w.cell? ⟨b,off+j,none⟩=some u∧Rdt w d u):=by
 cases h with
 | nil size=>exact⟨none,0,0,rfl,by simp[Hid],by omega,by omega,fun h=>by omega⟩
 | @mk size n b off cap ds us hl hu hn hc hb hcell hd=>
   refine⟨_,n,cap,rfl,hl,hn,by unfold maxLen at hc;omega,fun _=>⟨b,off,rfl,hb,fun j d hj=> ?_⟩⟩
   have hju:j<us.length:=by have:=(ξl hj).1;omega
   exact⟨us[j],hcell j _ (ξg hju),hd j _ _ hj (ξg hju)⟩
structure Wr (w w':World) (fp:List Nat):Prop where
 os:w'.os=w.os
 tape:w'.tape=w.tape
 output:w'.output=w.output
 size:w.heap.size≤w'.heap.size
 block:∀k,k<w.heap.size→k ∉ fp→w'.heap[k]?= w.heap[k]?
theorem Wr.refl (w:World) (fp:List Nat):Wr w w fp:=⟨rfl,rfl,rfl,ξr _,fun _ _ _=>rfl⟩
theorem Wr.trans {a b c:World} {fp:List Nat} (h:Wr a b fp) (k:Wr b c fp):Wr a c fp:=
 ⟨k.os.trans h.os,k.tape.trans h.tape,k.output.trans h.output,ξs h.size k.size,fun i hi hn=>(k.block i (ξq hi h.size) hn).trans (h.block i hi hn)⟩
theorem Wr.mono {a b:World} {fp fq:List Nat} (h:Wr a b fp) (hm:∀k∈fp,k∈fq):Wr a b fq:=⟨h.os,h.tape,h.output,h.size,fun k hk hn=>h.block k hk fun e=>hn (hm k e)⟩
theorem Wr.of_below {a b:World} {fp:List Nat} (h:Below a.heap.size a b):Wr a b fp:=⟨h.os,h.tape,h.output,h.size,fun k hk _=>h.block k hk⟩
theorem Wr.of_grown {a b:World} {v:Value} {fp:List Nat} (h:a.grownBy b v.ownBlock) (hv:∀k,v.ownBlock=some k→k∈fp):Wr a b fp:=⟨h.os,h.tape,h.output,h.size,fun k hk hn=>h.block k hk fun e=>hn (hv k e.symm)⟩
theorem Wr.of_set (a:World) {g j:Nat} {u:Value} {fp:List Nat} (hg:g∈fp):Wr a (a.setCell ⟨g,j,none⟩ u) fp:=
 ⟨rfl,rfl,rfl,by simp,fun k _ hn=>heap_setCell_other a ⟨g,j,none⟩ k u fun e=>hn (by rw[show k=g from e];exact hg)⟩
theorem Wr.below {a b u:World} {fp:List Nat} {B:Nat} (h:Wr a b fp) (hb:Below B u a) (hB:B≤a.heap.size) (hf:∀k∈fp,B≤k):Below B u b:=
 ⟨h.os.trans hb.os,h.tape.trans hb.tape,h.output.trans hb.output,ξs hb.size h.size,fun k hk=>(h.block k (ξq hk hB) fun e=>by have:=hf k e;omega).trans (hb.block k hk)⟩
theorem Odt.apart {w w':World} {d:Dt} {v:Value} {fp fq:List Nat} (h:Odt w d v fp) (hw:Wr w w' fq) (hd:∀k∈fp,k ∉ fq):Odt w' d v fp:=h.kept fun b hb=>hw.block b (h.lt b hb) (hd b hb)
theorem Odt.deep {w:World} {size:Nat} {ds:List Dt} {v:Value} {fp:List Nat} (h:Odt w (.rows size ds) v fp) (hn:fp.Nodup) {j:Nat} {d:Dt} (hj:ds[j]?= some d):
 ∃g off n cap u f,v= .slice (some ⟨g,off,none⟩) n cap∧w.cell? ⟨g,off+j,none⟩=some u∧Odt w d u f∧(∀k∈f,k∈fp)∧f.Nodup∧g ∉ f∧
  ∀(w':World) (d':Dt),Odt w' d' u f→Wr w w' f→Odt w' (.rows size (ds.set j d')) v fp:=by
 cases h with
 | nil size=>simp at hj
 | @mk size n g off cap ds us fs cur T hl hu hf hnc hc hg hcs ht hd=>
   have hjl:j<ds.length:=(ξl hj).1
   have hju:us[j]?= some (us[j]'(by omega)):=ξg (by omega)
   have hjf:fs[j]?= some (fs[j]'(by omega)):=ξg (by omega)
   obtain⟨hgn,hfn⟩:=List.nodup_cons.1 hn
   have hsub:∀k∈fs[j]'(by omega),k∈fs.flatten:=fun k hk=>List.mem_flatten.2 ⟨_,List.getElem_mem _,hk⟩
   obtain⟨hf1,hf2⟩:=List.pairwise_flatten.1 (show List.Pairwise (· ≠·) fs.flatten from hfn)
   have hf2':=List.pairwise_iff_getElem.1 hf2
   refine⟨g,off,n,cap,_,_,rfl,row_cell hg ht hju (by omega),hd j d _ _ hj hju hjf,fun k hk=>List.mem_cons_of_mem _ (hsub k hk),hf1 _ (List.getElem_mem _),fun e=>hgn (hsub g e),fun w' d' h' hw=> ?_⟩
   refine .mk (by rw[List.length_set];exact hl) (by rw[List.length_set];exact hu) (by rw[List.length_set];exact hf) hnc hc (by rw[hw.block g (ξa hg).1 (fun e=>hgn (hsub g e))];exact hg) hcs ht (fun i d2 u2 f2 h1 h2 h3=> ?_)
   by_cases e:j=i
   · subst e
     rw[List.getElem?_set_self hjl] at h1
     rw[hju] at h2
     rw[hjf] at h3
     cases h1;cases h2;cases h3
     exact h'
   · rw[List.getElem?_set_ne e] at h1
     refine(hd i d2 u2 f2 h1 h2 h3).apart hw fun k hk hk2=> ?_
     have hil:i<fs.length:=(ξl h3).1
     have e3:fs[i]=f2:=(ξl h3).2
     rw[←e3] at hk
     rcases Nat.lt_or_gt_of_ne e with hlt | hgt
     · exact hf2' j i (by omega) hil hlt k hk2 k hk rfl
     · exact hf2' i j hil (by omega) hgt k hk k hk2 rfl
theorem Odt.store {w:World} {size:Nat} {ds:List Dt} {v:Value} {fp:List Nat} (h:Odt w (.rows size ds) v fp) (hn:fp.Nodup) {j:Nat} {u:Value} (hj:ds[j]?= some (.leaf u)) (u':Value):
 ∃g off n cap,v= .slice (some ⟨g,off,none⟩) n cap∧w.cell? ⟨g,off+j,none⟩=some u∧w.frozen? ⟨g,off+j,none⟩=false∧g∈fp∧
  Odt (w.setCell ⟨g,off+j,none⟩ u') (.rows size (ds.set j (.leaf u'))) v fp∧Wr w (w.setCell ⟨g,off+j,none⟩ u') fp:=by
 cases h with
 | nil size=>simp at hj
 | @mk size n g off cap ds us fs cur T hl hu hf hnc hc hg hcs ht hd=>
   have hjl:j<ds.length:=(ξl hj).1
   have hju:us[j]?= some (us[j]'(by omega)):=ξg (by omega)
   have hjf:fs[j]?= some (fs[j]'(by omega)):=ξg (by omega)
   obtain⟨hgn,hfn⟩:=List.nodup_cons.1 hn
   have hlf:=hd j _ _ _ hj hju hjf
   obtain⟨hu2,hfe⟩:=hlf.leaf_inv
   refine⟨g,off,n,cap,rfl,by rw[row_cell hg ht hju (by omega),hu2],ξz _ _ _ _ _ hg,by simp,?_,Wr.of_set w (by simp)⟩
   have hg':=heap_setCell_same w g (off+j) cur T u' hg
   refine .mk (us:=us.set j u') (by rw[List.length_set];exact hl) (by rw[List.length_set,List.length_set];exact hu) (by rw[List.length_set];exact hf) hnc hc hg' (by simpa using hcs) ?_ (fun i d2 u2 f2 h1 h2 h3=> ?_)
   · rw[Array.toList_setIfInBounds,List.drop_set,if_neg (by omega),Nat.add_sub_cancel_left,List.take_set,ht]
   · by_cases e:j=i
     · subst e
       rw[List.getElem?_set_self hjl] at h1
       rw[List.getElem?_set_self (by omega)] at h2
       rw[hjf,hfe] at h3
       cases h1;cases h2;cases h3
       exact .leaf u'
     · rw[List.getElem?_set_ne e] at h1 h2
       refine(hd i d2 u2 f2 h1 h2 h3).apart (Wr.of_set w (fp:=[g]) (by simp)) fun k hk hk2=> ?_
       have:k=g:=by simpa using hk2
       subst this
       exact hgn (List.mem_flatten.2 ⟨f2,List.mem_of_getElem? h3,hk⟩)
def inD (xs:List Int):Dt:= .rows 1 (xs.map fun x=> .leaf (.int .i64 x))
theorem Rdt.toRd {w:World} {xs:List Int} {v:Value} (h:Rdt w (inD xs) v):Rd w v xs:=by
 unfold inD at h
 generalize hD:(xs.map fun x=>Dt.leaf (.int .i64 x))=ds at h
 cases h with
 | nil size=>exact .inl ⟨rfl,by simpa using hD⟩
 | @mk size n b off cap ds us hl hu hn hc hb hcell hd=>
   have hlen:xs.length=n:=by rw[←hD] at hl;simpa using hl
   subst hlen
   refine .inr ⟨b,off,cap,rfl,hn,hc,hb,fun j hj=> ?_⟩
   have hju:j<us.length:=by omega
   have h1:=hd j (.leaf (.int .i64 xs[j])) us[j] (by rw[←hD];simp[hj]) (ξg hju)
   have h2:us[j]= .int .i64 xs[j]:=h1.leaf_inv
   rw[hcell j _ (ξg hju),h2,ξg hj];rfl
theorem Own.tree {w:World} {base:Nat} {v:Value} {xs:List Int} (h:Own w base v xs):∃fp,Odt w (inD xs) v fp∧fp.Nodup∧(∀k∈fp,v.ownBlock=some k):=by
 rcases h with ⟨rfl,rfl⟩ | ⟨g,off,cap,cur,rfl,hb,⟨T,hg⟩,h1,h2,h3,h4⟩
 · exact⟨[],.nil 1,List.nodup_nil,fun k hk=>by cases hk⟩
 · refine⟨[g],?_,by simp,fun k hk=>by simp at hk;subst hk;rfl⟩
   have hfl:(List.replicate xs.length ([]:List Nat)).flatten=[]:=by simp
   have:=Odt.mk (w:=w) (size:=1) (n:=xs.length) (g:=g) (off:=off) (cap:=cap) (ds:=xs.map fun x=>Dt.leaf (.int .i64 x)) (us:=ints xs) (fs:=List.replicate xs.length []) (by simp) (by simp) (by simp) h1 h2 hg (by omega) (by rw[Nat.mul_one];exact h4)
    (fun j d u f e1 e2 e3=>by
      have hj:j<xs.length:=by have:=(ξl e1).1;simpa using this
      simp[hj] at e1 e2 e3
      subst e1;subst e2;subst e3
      exact .leaf _)
   rw[hfl] at this
   exact this
theorem Odt.toOwn {w:World} {base:Nat} {v:Value} {xs:List Int} {fp:List Nat} (h:Odt w (inD xs) v fp) (hb:∀k∈fp,base≤k):Own w base v xs∧ ∀k,v.ownBlock=some k→k∈fp:=by
 unfold inD at h
 generalize hD:(xs.map fun x=>Dt.leaf (.int .i64 x))=ds at h
 cases h with
 | nil size=>exact⟨.inl ⟨rfl,by simpa using hD⟩,fun k hk=>by simp[Value.ownBlock] at hk⟩
 | @mk size n g off cap ds us fs cur T hl hu hf hn hc hg hcs ht hd=>
   have hlen:xs.length=n:=by rw[←hD] at hl;simpa using hl
   subst hlen
   have hus:us=ints xs:=by
    apply List.ext_getElem?
    intro j
    by_cases hj:j<xs.length
    · have hju:j<us.length:=by omega
      have hjf:j<fs.length:=by omega
      have h1:=hd j (.leaf (.int .i64 xs[j])) us[j] fs[j] (by rw[←hD];simp[hj]) (ξg hju) (ξg hjf)
      have h2:us[j]= .int .i64 xs[j]:=h1.leaf_inv.1
      rw[ξg hju,h2];simp[hj]
    · rw[List.getElem?_eq_none (by omega),List.getElem?_eq_none (by simp;omega)]
   refine⟨.inr ⟨g,off,cap,cur,rfl,hb g (by simp),⟨T,hg⟩,hn,hc,by omega,by rw[Nat.mul_one] at ht;rw[ht,hus]⟩,fun k hk=>by simp[Value.ownBlock] at hk;subst hk;simp⟩
def putA (cur:Array Value) (o:Nat):List Value→Array Value
 | []=>cur
 | u::us=>putA (cur.setIfInBounds o u) (o+1) us
theorem blk_there {w:World} {b:Nat} {cur:Array Value} {T:TypeId} (h:w.heap[b]?= some (.cells cur T (0,0))) {o n:Nat} (hn:o+n≤cur.size):w.there b o n:=fun j hj=>by
 refine⟨?_,ξz _ _ _ _ _ h⟩
 rw[cell_of_row _ _ _ _ _ _ h,Array.getElem?_eq_getElem (by omega)];rfl
theorem blk_put {b:Nat} {T:TypeId} (us:List Value):∀{w:World} {cur:Array Value} (o:Nat),w.heap[b]?= some (.cells cur T (0,0))→(w.setCells b o us).heap[b]?= some (.cells (putA cur o us) T (0,0)):=by
 induction us with
 | nil=>intro w cur o h;exact h
 | cons u us ih=>intro w cur o h;exact ih (o+1) (heap_setCell_same w b o cur T u h)
theorem blk_put_other {b k:Nat} (hk:k≠b) (us:List Value):∀(w:World) (o:Nat),(w.setCells b o us).heap[k]?= w.heap[k]?:=by
 induction us with
 | nil=>intro w o;rfl
 | cons u us ih=>intro w o;exact(ih _ (o+1)).trans (heap_setCell_other w ⟨b,o,none⟩ k u hk)
theorem blk_put_size {b:Nat} (us:List Value):∀(w:World) (o:Nat),(w.setCells b o us).heap.size=w.heap.size:=by
 induction us with
 | nil=>intro w o;rfl
 | cons u us ih=>intro w o;exact(ih _ (o+1)).trans (by simp)
theorem below_put {B b:Nat} {u:World} (hB:B≤b) (us:List Value):∀{w:World} (o:Nat),Below B u w→Below B u (w.setCells b o us):=by
 induction us with
 | nil=>intro w o h;exact h
 | cons x us ih=>intro w o h;exact ih (o+1) (h.setCell (p:=⟨b,o,none⟩) hB _)
structure Stx (w w':World) (b:Nat) (new:Array Value) (T:TypeId):Prop where
 blk:w'.heap[b]?= some (.cells new T (0,0))
 other:∀k,k≠b→w'.heap[k]?= w.heap[k]?
 size:w'.heap.size=w.heap.size
 below:∀(B:Nat) (u:World),B≤b→Below B u w→Below B u w'
theorem Stx.keep {w w':World} {b:Nat} {new:Array Value} {T:TypeId} (h:Stx w w' b new T) {k:Nat} {x:Obj} (hk:k≠b) (hx:w.heap[k]?= some x):w'.heap[k]?= some x:=(h.other k hk).trans hx
theorem Stx.odt {w w':World} {b:Nat} {new:Array Value} {T:TypeId} {d:Dt} {v:Value} {fp:List Nat} (h:Stx w w' b new T) (ho:Odt w d v fp) (hb:b ∉ fp):Odt w' d v fp:=
 ho.kept fun k hk=>h.other k (fun e=>hb (by rw[←e];exact hk))
theorem stx_cell {w:World} {b j:Nat} {cur:Array Value} {T:TypeId} (hg:w.heap[b]?= some (.cells cur T (0,0))) (u:Value):Stx w (w.setCell ⟨b,j,none⟩ u) b (cur.setIfInBounds j u) T:=
 ⟨heap_setCell_same w b j cur T u hg,fun k hk=>heap_setCell_other w ⟨b,j,none⟩ k u hk,by simp,fun B u hB hb=>hb.setCell (p:=⟨b,j,none⟩) hB _⟩
theorem wpList_stx {P:Program} {ops:Array Oper} {rest:List Oper} {op:Oper} {a:Act} {w:World} {Q:Exit→Act→World→Prop} (hgd:op.guard=none) (ty:TypeId) (x y:Operand) (ho:op.op= .store ty x y)
 (b o:Nat) (us:List Value) (hx:a.eval x= .pointer (some ⟨b,o,none⟩)) (hy:a.eval y= .agg us.toArray) {cur:Array Value} {T:TypeId} (hg:w.heap[b]?= some (.cells cur T (0,0))) (hn:o+us.length≤cur.size)
 (hi:(P.info? ty).map (·.size)=some us.length) (h1:∀v∈us,v.oneCell'=true)
 (h:∀w',Stx w w' b (putA cur o us) T→wpList P ops Q rest (a.put op.dst undef) w'):wpList P ops Q (op::rest) a w:=by
 refine wpList_store_mid hgd ty x y ho b o us.toArray hx hy (blk_there hg (by simpa using hn)) (by simpa using hi) (all_oneCell_toArray h1) ?_
 exact h _ ⟨blk_put us o hg,fun k hk=>blk_put_other hk us w o,blk_put_size us w o,fun B u hB hb=>below_put hB us o hb⟩
theorem wpList_st1 {P:Program} {ops:Array Oper} {rest:List Oper} {op:Oper} {a:Act} {w:World} {Q:Exit→Act→World→Prop} (hgd:op.guard=none) (ty:TypeId) (x y:Operand) (ho:op.op= .store ty x y)
 (b o:Nat) (u:Value) (hx:a.eval x= .pointer (some ⟨b,o,none⟩)) (hy:a.eval y=u) {cur:Array Value} {T:TypeId} (hg:w.heap[b]?= some (.cells cur T (0,0))) (hn:o<cur.size)
 (hi:(P.info? ty).map (·.size)=some 1) (h1:u.cells= #[u]∧u.oneCell'=true)
 (h:∀w',Stx w w' b (cur.setIfInBounds o u) T→wpList P ops Q rest (a.put op.dst undef) w'):wpList P ops Q (op::rest) a w:=by
 refine wpList_plain hgd fun _ hK=> ?_
 have hc:=blk_there hg (o:=o) (n:=1) (by omega)
 have hr:=run_storeCells_cells (P:=P) b o [u] 0 w (fun j hj=>by simpa using(hc j (by simpa using hj)).1) (fun j hj=>by simpa using(hc j (by simpa using hj)).2) (fun v hv=>by simp at hv;rw[hv];exact h1.2)
 unfold Oper.wp execOp
 cases hq:P.info? ty with
 | none=>simp[hq] at hi
 | some i=>
   have hs:i.size=1:=by simpa[hq] using hi
   have hst:(storeVar ty ⟨b,o,none⟩ u).run P w= .ok () (w.setCell ⟨b,o,none⟩ u):=by
    simp only[Nat.add_zero] at hr
    rw[show w.setCell ⟨b,o,none⟩ u=w.setCells b o [u] from rfl]
    simp[storeVar,sizeOf,typeInfo,hq,h1.1,hs]
    simpa using hr
   simp only[ho,hx,hy,Instr.storeAt,Instr.sureAddr,Sem.run_bind,Sem.run_pure,Result.andThen_ok,hst]
   exact hK _ _ (h _ (stx_cell hg u))
theorem wpList_ldx {P:Program} {ops:Array Oper} {rest:List Oper} {op:Oper} {a:Act} {w:World} {Q:Exit→Act→World→Prop} (hgd:op.guard=none) (ty:TypeId) (x:Operand) (ho:op.op= .load ty x)
 (b o:Nat) (hx:a.eval x= .pointer (some ⟨b,o,none⟩)) (cs:List Value) {cur:Array Value} {T:TypeId} (hg:w.heap[b]?= some (.cells cur T (0,0))) (hc:((cur.toList.drop o).take cs.length)=cs) (d:TypeDesc)
 (hu:P.underlying ty=some d) (hd:d.isRow=true) (hi:(P.info? ty).map (·.size)=some cs.length)
 (h:wpList P ops Q rest (a.put op.dst (.agg cs.toArray)) w):wpList P ops Q (op::rest) a w:=
 wpList_load_mid hgd ty x ho b o hx cs d (fun _ _ hj=>row_cell hg hc hj rfl) hu hd hi h
def letB (c:UInt8):Bool:=decide (97≤(c.toNat:Int))&&decide ((c.toNat:Int)≤122)
def digB (c:UInt8):Bool:=decide (48≤(c.toNat:Int))&&decide ((c.toNat:Int)≤57)
def sgnB (c:UInt8):Bool:=letB c || digB c
def hd0 (s:ByteArray):Bool:=match s.data.toList with | []=>false | c::_=>letB c
def nameOk (s:ByteArray):Bool:=decide (1≤s.size)&&decide (s.size≤8)&&hd0 s&&s.data.toList.all sgnB
theorem nam_snoc (s:ByteArray) (k:Nat) (h:k<s.size):s.data.toList.take (k+1)=s.data.toList.take k++[s[k]]:=by
 rw[List.take_succ_eq_append_getElem (by simpa using h)];rfl
theorem nam_all (s:ByteArray):s.data.toList.take s.size=s.data.toList:=List.take_of_length_le (by simp)
theorem nam_step {s:ByteArray} {p:UInt8→Bool} {k:Nat} (hk:k<s.size) (h:(s.data.toList.take k).all p=true) (e:p s[k]=true):(s.data.toList.take (k+1)).all p=true:=by
 rw[nam_snoc s k hk,List.all_append,h];simp[e]
theorem nam_no {s:ByteArray} {p:UInt8→Bool} {k:Nat} (hk:k<s.size) (e:p s[k]=false):s.data.toList.all p=false:=by
 rw[List.all_eq_false]
 exact⟨s[k],by rw[List.mem_iff_getElem];exact⟨k,by simpa using hk,rfl⟩,by simp[e]⟩
theorem hd0_of {s:ByteArray} (h:0<s.size):hd0 s=letB s[0]:=by
 have e:s[0]=s.data.toList[0]'(by simpa using h):=rfl
 rw[e]
 unfold hd0
 split
 · rename_i he
   have h3:s.data.toList.length=s.size:=by simp
   rw[he,List.length_nil] at h3
   omega
 · rename_i c l he
   simp[he]
theorem nameOk_sgn {s:ByteArray} (h:s.data.toList.all sgnB=false):nameOk s=false:=by unfold nameOk;rw[h];simp
theorem nameOk_hd {s:ByteArray} (h:hd0 s=false):nameOk s=false:=by unfold nameOk;rw[h];simp
theorem nameOk_len {s:ByteArray} (h:¬(1≤s.size∧s.size≤8)):nameOk s=false:=by
 unfold nameOk
 by_cases h1:1≤s.size
 · rw[ξf (show¬s.size≤8 by omega)];simp
 · rw[ξf h1];simp
theorem nameOk_yes {s:ByteArray} (h:1≤s.size∧s.size≤8) (h2:hd0 s=true) (h3:s.data.toList.all sgnB=true):nameOk s=true:=by
 unfold nameOk;rw[h2,h3,ξt h.1,ξt h.2];rfl
def Ofr (w:World) (base:Nat) (d:Dt) (v:Value):Prop:=∃fp,Odt w d v fp∧fp.Nodup∧ ∀k∈fp,base≤k
theorem Ofr.rd {w:World} {base:Nat} {d:Dt} {v:Value} (h:Ofr w base d v):Rdt w d v:=by obtain⟨fp,h,_⟩:=h;exact h.rd
theorem Ofr.below {w w':World} {base:Nat} {d:Dt} {v:Value} (h:Ofr w base d v) (hb:Below w.heap.size w w'):Ofr w' base d v:=by
 obtain⟨fp,h1,h2,h3⟩:=h;exact⟨fp,h1.behind hb,h2,h3⟩
theorem Own.ofr {w:World} {base:Nat} {v:Value} {xs:List Int} (h:Own w base v xs):Ofr w base (inD xs) v:=by
 obtain⟨fp,h1,h2,h3⟩:=h.tree
 exact⟨fp,h1,h2,fun k hk=>(h.lt k (h3 k hk)).1⟩
theorem Ofr.nil (w:World) (base size:Nat):Ofr w base (.rows size []) (.slice none 0 0):=⟨[],.nil size,List.nodup_nil,fun k hk=>by cases hk⟩
theorem nodup_flatten {fs:List (List Nat)} :fs.flatten.Nodup↔(∀f∈fs,f.Nodup)∧List.Pairwise (fun a b=>∀x∈a,∀y∈b,x≠y) fs:=by
 unfold List.Nodup;exact List.pairwise_flatten
theorem mem_flat_get {fs:List (List Nat)} {k:Nat} (h:k∈fs.flatten):∃j,∃hj:j<fs.length,k∈fs[j]:=by
 obtain⟨f,h1,h2⟩:=List.mem_flatten.1 h
 obtain⟨j,hj,e⟩:=List.mem_iff_getElem.1 h1
 exact⟨j,hj,by rw[e];exact h2⟩
theorem flat_put {fs:List (List Nat)} {f:List Nat} {lo j:Nat} (hn:fs.flatten.Nodup) (hlt:∀k∈fs.flatten,k<lo) (hf:f.Nodup) (hge:∀k∈f,lo≤k):
 (fs.set j f).flatten.Nodup∧ ∀k∈(fs.set j f).flatten,k∈fs.flatten∨k∈f:=by
 have hmem:∀k∈(fs.set j f).flatten,k∈fs.flatten∨k∈f:=fun k hk=>by
  obtain⟨i,hi,h2⟩:=mem_flat_get hk
  rw[List.length_set] at hi
  by_cases e:j=i
  · subst e;rw[List.getElem_set_self] at h2;exact .inr h2
  · rw[List.getElem_set_ne e] at h2;exact .inl (List.mem_flatten.2 ⟨_,List.getElem_mem hi,h2⟩)
 refine⟨?_,hmem⟩
 obtain⟨h1,h2⟩:=nodup_flatten.1 hn
 rw[List.pairwise_iff_getElem] at h2
 have hlt':∀i (hi:i<fs.length),∀k∈fs[i],k<lo:=fun i hi k hk=>hlt k (List.mem_flatten.2 ⟨_,List.getElem_mem hi,hk⟩)
 refine nodup_flatten.2 ⟨fun g hg=> ?_,?_⟩
 · obtain⟨i,hi,rfl⟩:=List.mem_iff_getElem.1 hg
   rw[List.length_set] at hi
   by_cases e:j=i
   · subst e;rw[List.getElem_set_self];exact hf
   · rw[List.getElem_set_ne e];exact h1 _ (List.getElem_mem hi)
 · rw[List.pairwise_iff_getElem]
   intro a b ha hb hab x hx y hy
   rw[List.length_set] at ha hb
   by_cases ea:j=a
   · subst ea
     rw[List.getElem_set_self] at hx
     rw[List.getElem_set_ne (by omega)] at hy
     have:=hge x hx;have:=hlt' b hb y hy;omega
   · rw[List.getElem_set_ne ea] at hx
     by_cases eb:j=b
     · subst eb
       rw[List.getElem_set_self] at hy
       have:=hge y hy;have:=hlt' a ha x hx;omega
     · rw[List.getElem_set_ne eb] at hy
       exact h2 a b ha hb hab x hx y hy
theorem Ofr.put {wr w1:World} {base size j:Nat} {ds:List Dt} {d:Dt} {v u:Value} (h:Ofr wr base (.rows size ds) v) (hbb:base≤wr.heap.size) (hb:Below wr.heap.size wr w1) (hu:Ofr w1 wr.heap.size d u) (hj:j<ds.length):
 ∃g off n cap,v= .slice (some ⟨g,off,none⟩) n cap∧base≤g∧g<wr.heap.size∧(∃u0,w1.cell? ⟨g,off+j,none⟩=some u0)∧w1.frozen? ⟨g,off+j,none⟩=false∧
  Ofr (w1.setCell ⟨g,off+j,none⟩ u) base (.rows size (ds.set j d)) v:=by
 obtain⟨fp,h1,h2,h3⟩:=h
 obtain⟨f,k1,k2,k3⟩:=hu
 have hlt:=h1.lt
 have h1':=h1.behind hb
 clear h1
 cases h1' with
 | nil size=>simp at hj
 | @mk size n g off cap ds us fs cur T hl hus hf hn hc hg hcs ht hd=>
   obtain⟨hgn,hfn⟩:=List.nodup_cons.1 h2
   have hg1:g<wr.heap.size:=hlt g (by simp)
   obtain⟨q1,q2⟩:=flat_put (j:=j) hfn (fun k hk=>hlt k (List.mem_cons_of_mem _ hk)) k2 k3
   have hgq:g ∉ (fs.set j f).flatten:=fun e=>by
    rcases q2 g e with e | e
    · exact hgn e
    · have:=k3 g e;omega
   have hju:j<us.length:=by omega
   refine⟨g,off,n,cap,rfl,h3 g (by simp),hg1,⟨_,row_cell hg ht (ξg hju) (by omega)⟩,ξz _ _ _ _ _ hg,g::(fs.set j f).flatten,?_,List.nodup_cons.2 ⟨hgq,q1⟩,fun k hk=> ?_⟩
   · have hg':=heap_setCell_same w1 g (off+j) cur T u hg
     refine .mk (us:=us.set j u) (by rw[List.length_set];exact hl) (by rw[List.length_set,List.length_set];exact hus) (by rw[List.length_set,List.length_set];exact hf) hn hc hg' (by simpa using hcs) ?_ (fun i d2 u2 f2 e1 e2 e3=> ?_)
     · rw[Array.toList_setIfInBounds,List.drop_set,if_neg (by omega),Nat.add_sub_cancel_left,List.take_set,ht]
     · have hset:∀k,k≠g→(w1.setCell ⟨g,off+j,none⟩ u).heap[k]?= w1.heap[k]?:=fun k hk=>heap_setCell_other w1 ⟨g,off+j,none⟩ k u hk
       by_cases e:j=i
       · subst e
         rw[List.getElem?_set_self hj] at e1
         rw[List.getElem?_set_self hju] at e2
         rw[List.getElem?_set_self (by omega)] at e3
         cases e1;cases e2;cases e3
         exact k1.kept fun k hk=>hset k (by have:=k3 k hk;omega)
       · rw[List.getElem?_set_ne e] at e1 e2 e3
         exact(hd i d2 u2 f2 e1 e2 e3).kept fun k hk=>hset k (fun e=>hgn (by rw[←e];exact List.mem_flatten.2 ⟨f2,List.mem_of_getElem? e3,hk⟩))
   · rcases List.mem_cons.1 hk with rfl | hk
     · exact h3 k (by simp)
     · rcases q2 k hk with e | e
       · exact h3 k (List.mem_cons_of_mem _ e)
       · have:=k3 k e;omega
def Grw (w:World) (base:Nat) (T:TypeId) (size:Nat) (v:Value) (n:Nat) (ds:List Dt):Prop:=
 ∃(us:List Value) (fs:List (List Nat)),w.ownsRow base T size v n us∧us.length=ds.length∧fs.length=ds.length∧(∀(j:Nat) (d:Dt) (u:Value) (f:List Nat),ds[j]?= some d→us[j]?= some u→fs[j]?= some f→Odt w d u f)∧fs.flatten.Nodup∧(∀k∈fs.flatten,base≤k)∧ ∀g,v.ownBlock=some g→g ∉ fs.flatten
theorem Grw.flt {w:World} {ds:List Dt} {us:List Value} {fs:List (List Nat)} (h1:us.length=ds.length) (h2:fs.length=ds.length) (h:∀(j:Nat) (d:Dt) (u:Value) (f:List Nat),ds[j]?= some d→us[j]?= some u→fs[j]?= some f→Odt w d u f):∀k∈fs.flatten,k<w.heap.size:=fun k hk=>by
 obtain⟨j,hj,hk⟩:=mem_flat_get hk
 exact(h j _ _ _ (ξg (by omega)) (ξg (by omega)) (ξg hj)).lt k hk
theorem Grw.own {w:World} {base size n:Nat} {T:TypeId} {v:Value} {ds:List Dt} (h:Grw w base T size v n ds):∀k,v.ownBlock=some k→base≤k∧k<w.heap.size:=by
 obtain⟨us,fs,h,_⟩:=h;exact h.lt
theorem Grw.form {w:World} {base size n:Nat} {T:TypeId} {v:Value} {ds:List Dt} (h:Grw w base T size v n ds):ds.length=n*size∧ ∃a cap,v= .slice a n cap:=by
 obtain⟨us,fs,h,h1,_⟩:=h
 refine⟨by rw[←h1];exact h.1,?_⟩
 rcases h.2 with ⟨rfl,rfl⟩ | ⟨g,cap,cur,rfl,_⟩
 · exact⟨none,0,rfl⟩
 · exact⟨_,cap,rfl⟩
theorem Grw.below {w w':World} {base size n:Nat} {T:TypeId} {v:Value} {ds:List Dt} (h:Grw w base T size v n ds) (hb:Below w.heap.size w w'):Grw w' base T size v n ds:=by
 obtain⟨us,fs,h1,h2,h3,h4,h5,h6,h7⟩:=h
 refine⟨us,fs,⟨h1.1,?_⟩,h2,h3,fun j d u f e1 e2 e3=>(h4 j d u f e1 e2 e3).behind hb,h5,h6,h7⟩
 rcases h1.2 with h | ⟨g,cap,cur,rfl,q1,q2,q3⟩
 · exact .inl h
 · exact .inr ⟨g,cap,cur,rfl,q1,by rw[hb.block g (ξa q2).1];exact q2,q3⟩
theorem Grw.ofr {w:World} {base size n:Nat} {T:TypeId} {v:Value} {ds:List Dt} (h:Grw w base T size v n ds):Ofr w base (.rows size ds) v:=by
 obtain⟨us,fs,h1,h2,h3,h4,h5,h6,h7⟩:=h
 rcases h1.2 with ⟨rfl,rfl⟩ | ⟨g,cap,cur,rfl,q1,q2,q3,q4,q5,q6⟩
 · have:ds=[]:=List.eq_nil_of_length_eq_zero (by have:=h1.1;omega)
   subst this
   exact Ofr.nil _ _ _
 · have hgn:g ∉ fs.flatten:=h7 g rfl
   refine⟨g::fs.flatten,.mk (us:=us) (by rw[←h2];exact h1.1) h2 h3 q3 q4 q2 (by omega) (by rw[List.drop_zero];exact q6) h4,List.nodup_cons.2 ⟨hgn,h5⟩,fun k hk=> ?_⟩
   rcases List.mem_cons.1 hk with rfl | hk
   · exact q1
   · exact h6 k hk
def Newd (w:World) (lo:Nat) (news:List Value) (ds:List Dt):Prop:=∃fs:List (List Nat),news.length=ds.length∧fs.length=ds.length∧(∀(j:Nat) (d:Dt) (u:Value) (f:List Nat),ds[j]?= some d→news[j]?= some u→fs[j]?= some f→Odt w d u f)∧fs.flatten.Nodup∧ ∀k∈fs.flatten,lo≤k
theorem Newd.one {w:World} {lo:Nat} {d:Dt} {u:Value} (h:Ofr w lo d u):Newd w lo [u] [d]:=by
 obtain⟨fp,h1,h2,h3⟩:=h
 refine⟨[fp],rfl,rfl,fun j d' u' f' e1 e2 e3=> ?_,by simpa using h2,by simpa using h3⟩
 match j with
 | 0=>simp at e1 e2 e3;subst e1;subst e2;subst e3;exact h1
 | j+1=>simp at e1
theorem Grw.pushed {w w2 w3:World} {base size n g cap:Nat} {T:TypeId} {v:Value} {ds ds':List Dt} {news us:List Value} {fs:List (List Nat)}
 (h2:us.length=ds.length) (h3:fs.length=ds.length) (h4:∀(j:Nat) (d:Dt) (u:Value) (f:List Nat),ds[j]?= some d→us[j]?= some u→fs[j]?= some f→Odt w d u f) (h5:fs.flatten.Nodup) (h6:∀k∈fs.flatten,base≤k) (h7:∀g,v.ownBlock=some g→g ∉ fs.flatten) (hv:∀g,v.ownBlock=some g→g<w.heap.size) (hbb:base≤w.heap.size)
 (hb:Below w.heap.size w w2) (hN:Newd w2 w.heap.size news ds') (hr:w3.ownsRow base T size (.slice (some ⟨g,0,none⟩) (n+1) cap) (n+1) (us++news)) (hg:w2.grownBy w3 v.ownBlock) (hgg:v.ownBlock=some g∨w2.heap.size≤g):
 Grw w3 base T size (.slice (some ⟨g,0,none⟩) (n+1) cap) (n+1) (ds++ds'):=by
 obtain⟨fs',k1,k2,k3,k4,k5⟩:=hN
 have hlt:∀k∈fs.flatten,k<w.heap.size:=Grw.flt h2 h3 h4
 have hlt':∀k∈fs'.flatten,k<w2.heap.size:=Grw.flt k1 k2 k3
 have hkold:∀k∈fs.flatten,w3.heap[k]?= w.heap[k]?:=fun k hk=>by
  rw[hg.block k (ξq (hlt k hk) hb.size) (fun e=>h7 k e.symm hk),hb.block k (hlt k hk)]
 have hknew:∀k∈fs'.flatten,w3.heap[k]?= w2.heap[k]?:=fun k hk=>hg.block k (hlt' k hk) (fun e=>by have:=hv k e.symm;have:=k5 k hk;omega)
 refine⟨us++news,fs++fs',hr,by simp[h2,k1],by simp[h3,k2],fun j d u f e1 e2 e3=> ?_,?_,fun k hk=> ?_,fun k hk hm=> ?_⟩
 · by_cases hj:j<ds.length
   · rw[List.getElem?_append_left (by omega)] at e1 e2 e3
     exact(h4 j d u f e1 e2 e3).kept fun k hk=>hkold k (List.mem_flatten.2 ⟨f,List.mem_of_getElem? e3,hk⟩)
   · rw[List.getElem?_append_right (by omega)] at e1 e2 e3
     rw[h2] at e2;rw[h3] at e3
     exact(k3 _ d u f e1 e2 e3).kept fun k hk=>hknew k (List.mem_flatten.2 ⟨f,List.mem_of_getElem? e3,hk⟩)
 · rw[List.flatten_append,List.nodup_append]
   exact⟨h5,k4,fun a ha b hb e=>by have:=hlt a ha;have:=k5 b hb;omega⟩
 · rw[List.flatten_append,List.mem_append] at hk
   rcases hk with hk | hk
   · exact h6 k hk
   · have:=k5 k hk;omega
 · have:g=k:=by simpa[Value.ownBlock] using hk
   subst this
   rw[List.flatten_append,List.mem_append] at hm
   rcases hgg with e | e
   · rcases hm with hm | hm
     · exact h7 g e hm
     · have:=hv g e;have:=k5 g hm;omega
   · rcases hm with hm | hm
     · have:=hlt g hm;have:=hb.size;omega
     · have:=hlt' g hm;omega
theorem wpList_grow {P:Program} {ops:Array Oper} {rest:List Oper} {o:Oper} {a:Act} {Q:Exit→Act→World→Prop} {w w2:World} (hgd:o.guard=none) (s x:Operand) (t e:TypeId)
 (ho:o.op= .call {callee:= .builtin .append,args:=#[s,x],argTypes:=#[t,t]}) (ht:P.underlying t=some (.slice e)) (z:Value) (size bytes:Nat)
 (hinfo:(P.info? e).map (fun i=>(i.zero,i.size,i.bytes))=some (some z,size,bytes)) (hzs:z.cells.size=size) (hsz:0<size) (hby:bytes≤1000)
 (base n:Nat) (v:Value) (ds ds':List Dt) (hs:a.eval s=v) (hG:Grw w base e size v n ds) (hbb:base≤w.heap.size) (hb:Below w.heap.size w w2)
 (news:List Value) (hN:Newd w2 w.heap.size news ds') (hnl:news.length=size) (h1:∀u∈news,u.oneCell'=true) (hx:a.eval x= .slice (some ⟨w2.heap.size,0,none⟩) 1 1) (hn:n≤1000000)
 (h:∀v' w3,Grw w3 base e size v' (n+1) (ds++ds')→w2.grownBy w3 v.ownBlock→(∀g,v'.ownBlock=some g→v.ownBlock=some g∨w2.heap.size≤g)→wpList P ops Q rest (a.put o.dst v') w3):
 wpList P ops Q (o::rest) a (w2.alloc (.cells news.toArray e)):=by
 obtain⟨i0,hi,hz0,hz1,hz2⟩:=info_parts hinfo
 obtain⟨us,fs,r1,r2,r3,r4,r5,r6,r7⟩:=hG
 have hr2:(w2.alloc (.cells news.toArray e)).ownsRow base e size v n us:=by
  have hq:w2.ownsRow base e size v n us:=by
   refine⟨r1.1,?_⟩
   rcases r1.2 with h | ⟨g,cap,cur,rfl,q1,q2,q3⟩
   · exact .inl h
   · exact .inr ⟨g,cap,cur,rfl,q1,by rw[hb.block g (ξa q2).1];exact q2,q3⟩
  exact hq.alloc _
 have hblk:=ξn w2 (.cells news.toArray e)
 refine wpList_append_lies _ hgd s x t ho base e i0 z size bytes ht hi hz0 hz1 hz2 hzs hsz v n us hs hr2 ⟨w2.heap.size,0,none⟩ 1 1 news hx (by omega) (fun j u hu=>World.news_of_block hblk j u (by simpa using hu)) h1 (by omega) (by unfold maxLen;omega) ?_ (ξs (ξs hbb hb.size) (by simp)) _ rfl ?_
 · have:(n+1)*bytes≤1000001*1000:=Nat.mul_le_mul (by omega) hby
   omega
 · intro g cap w3 g1 g2 g3 _
   have hgr:w2.grownBy w3 v.ownBlock:=⟨g2.os,g2.tape,g2.output,ξs (by simp) g2.size,fun k hk hne=>by
    rw[g2.block k (by simp;omega) hne];exact heap_alloc_old w2 _ hk⟩
   have hlie:v.ownBlock=some g∨w2.heap.size≤g:=by
    rcases g3 with e | e
    · exact .inl e
    · exact .inr (by rw[e];simp)
   refine h _ w3 (Grw.pushed r2 r3 r4 r5 r6 r7 (fun g hg=>(r1.lt g hg).2) hbb hb hN g1 hgr hlie) hgr (fun g' hg'=> ?_)
   have:g=g':=by simpa[Value.ownBlock] using hg'
   rw[←this];exact hlie
inductive Rwt (w:World):Dt→Value→Prop
 | leaf (u:Value):Rwt w (.leaf u) u
 | emp (size:Nat) (a:Option Addr) (cap:Nat):Rwt w (.rows size []) (.slice a 0 cap)
 | mk {size n b off cap:Nat} {ds:List Dt} {us:List Value} (hl:ds.length=n*size) (hu:us.length=ds.length) (hn:n≤cap) (hc:cap≤maxLen) (hb:b<w.heap.size)
  (hcell:∀(j:Nat) (u:Value),us[j]?= some u→w.cell? ⟨b,off+j,none⟩=some u) (hd:∀(j:Nat) (d:Dt) (u:Value),ds[j]?= some d→us[j]?= some u→Rwt w d u):Rwt w (.rows size ds) (.slice (some ⟨b,off,none⟩) n cap)
theorem Rwt.leaf_inv {w:World} {u v:Value} (h:Rwt w (.leaf u) v):v=u:=by cases h;rfl
theorem Rwt.kept {w w':World} {d:Dt} {v:Value} (h:Rwt w d v) (hs:w.heap.size≤w'.heap.size) (hk:∀p:Addr,p.block<w.heap.size→w'.cell? p=w.cell? p):Rwt w' d v:=by
 induction h with
 | leaf u=>exact .leaf u
 | emp size a cap=>exact .emp size a cap
 | mk hl hu hn hc hb hcell hd ih=>exact .mk hl hu hn hc (by omega) (fun j u hj=>(hk _ hb).trans (hcell j u hj)) (fun j d u h1 h2=>ih j d u h1 h2)
theorem Rwt.behind {w w':World} {d:Dt} {v:Value} (h:Rwt w d v) (hb:Below w.heap.size w w'):Rwt w' d v:=h.kept hb.size (fun _ hp=>hb.cell hp)
theorem Rwt.opn {w:World} {size:Nat} {ds:List Dt} {v:Value} (h:Rwt w (.rows size ds) v):∃a n cap,v= .slice a n cap∧Hid (ds.length=n*size)∧n≤9223372036854775807∧
 (0<n→ ∃b off,a=some ⟨b,off,none⟩∧b<w.heap.size∧ ∀(j:Nat) (d:Dt),ds[j]?= some d→ ∃u,w.cell? ⟨b,off+j,none⟩=some u∧Rwt w d u):=by
 cases h with
 | emp size a cap=>exact⟨a,0,cap,rfl,by simp[Hid],by omega,fun h=>by omega⟩
 | @mk size n b off cap ds us hl hu hn hc hb hcell hd=>
   refine⟨_,n,cap,rfl,hl,by unfold maxLen at hc;omega,fun _=>⟨b,off,rfl,hb,fun j d hj=> ?_⟩⟩
   have hju:j<us.length:=by have:=(ξl hj).1;omega
   exact⟨us[j],hcell j _ (ξg hju),hd j _ _ hj (ξg hju)⟩
def Opens {H:Type} (enc:TypeId × Value→H) (P:Program) (w:World) (t:TypeId) {α:Type} (F:α→List Dt):Prop:=
 ∀(fuel:Nat) (cs:List Value) (x:DataW H × List MemPlace),DataW.trod enc P w 0 (fun _=>true) true fuel t cs=some x→ ∃a:α,cs.length=(F a).length∧ ∀(r:Nat) (d:Dt),(F a)[r]?= some d→ ∃u,cs[r]?= some u∧Rwt w d u
section
variable {H : Type} {enc : TypeId × Value → H} {P : Program} {w : World}
theorem opens_int {t:TypeId} (ht:P.underlying t=some (.int .i64)):Opens enc P w t (fun x:Int=>[.leaf (.int .i64 x)]):=fun fuel cs x h=>by
 obtain⟨n,rfl,_,_⟩:=DataW.trod_int ht h
 refine⟨n,rfl,fun r d hr=> ?_⟩
 match r with
 | 0=>simp at hr;subst hr;exact⟨_,rfl,.leaf _⟩
 | r+1=>simp at hr
theorem flat_at {α:Type} {F:α→List Dt} {k:Nat} (hF:∀a,(F a).length=k):∀(xs:List α) (i r:Nat),r<k→(xs.flatMap F)[i*k+r]?= (xs[i]?).bind fun a=>(F a)[r]?
 | [],i,r,_=>by simp
 | a::xs,0,r,h=>by
   rw[List.flatMap_cons,List.getElem?_append_left (by rw[hF];omega)]
   simp
 | a::xs,i+1,r,h=>by
   rw[List.flatMap_cons,List.getElem?_append_right (by rw[hF,Nat.add_mul];omega),hF,show(i+1)*k+r-k=i*k+r by rw[Nat.add_mul];omega,flat_at hF xs i r h]
   simp
theorem flat_length {α:Type} {F:α→List Dt} {k:Nat} (hF:∀a,(F a).length=k) (xs:List α):(xs.flatMap F).length=xs.length*k:=by
 induction xs with
 | nil=>simp
 | cons a xs ih=>rw[List.flatMap_cons,List.length_append,ih,hF,List.length_cons,Nat.add_mul];omega
theorem opens_slice {t e:TypeId} {α:Type} [Inhabited α] {F:α→List Dt} {k:Nat} (ht:P.underlying t=some (.slice e)) (hc:P.cellsOf e=k) (hk:0<k) (hF:∀a,(F a).length=k) (he:Opens enc P w e F):
 Opens enc P w t (fun xs:List α=>[.rows k (xs.flatMap F)]):=fun fuel cs x h=>by
 rcases Deep.open_slice ht h with ⟨rfl,_⟩ | ⟨a,len,cap,m,n,D,Pl,rfl,_,hl,hm,hmc,_,hx⟩
 · refine⟨[],rfl,fun r d hr=> ?_⟩
   match r with
   | 0=>simp at hr;subst hr;exact⟨_,rfl,.emp k none 0⟩
   | r+1=>simp at hr
 · rw[hc] at hx
   have hmc':m=cap:=by simpa using hmc
   by_cases h0:len=0
   · subst h0
     refine⟨[],rfl,fun r d hr=> ?_⟩
     match r with
     | 0=>simp at hr;subst hr;exact⟨_,rfl,.emp k _ cap⟩
     | r+1=>simp at hr
   · obtain⟨g,hg⟩:=Deep.choose_lt (α:=α) (n:=len) (p:=fun i y=>∃cs',w.cells? 0 (a.add (i*k)) k=some cs'∧cs'.length=(F y).length∧ ∀(r:Nat) (d:Dt),(F y)[r]?= some d→ ∃u,cs'[r]?= some u∧Rwt w d u) (fun i hi=>by
      obtain⟨cs',h1,h2⟩:=hx i (by omega)
      obtain⟨y,k1,k2⟩:=he _ _ _ h2
      exact⟨y,cs',h1,k1,k2⟩)
     obtain⟨b,off,spot⟩:=a
     obtain⟨cs0,q1,q2,q3⟩:=hg 0 (by omega)
     obtain⟨d0,hd0⟩:∃d,(F (g 0))[0]?= some d:=⟨(F (g 0))[0]'(by rw[hF];exact hk),ξg _⟩
     obtain⟨u0,hu0,_⟩:=q3 0 d0 hd0
     have hc0:=(World.cells?_some q1).2.2 0 hk
     rw[hu0] at hc0
     have hspot:spot=none:=by simpa[Addr.add] using World.cell?_spot hc0
     subst hspot
     have hb:b<w.heap.size:=by
      have:=World.block_lt_of_cell? w _ hc0
      simpa[Addr.add] using this
     have hadd:∀j,(⟨b,off,none⟩:Addr).add j=⟨b,off+j,none⟩:=fun j=>by unfold Addr.add;split <;> simp_all
     have hgl:∀j,j<len*k→ ∃u,w.cell? ⟨b,off+j,none⟩=some u∧ ∀d,(((List.range len).map g).flatMap F)[j]?= some d→Rwt w d u:=fun j hj=>by
      have hjk:j%k<k:=Nat.mod_lt _ hk
      have hjl:j/k<len:=Nat.div_lt_of_lt_mul (by rw[Nat.mul_comm];exact hj)
      obtain⟨cs',r1,r2,r3⟩:=hg (j/k) hjl
      have hcj:=(World.cells?_some r1).2.2 (j%k) hjk
      have hlen:=(World.cells?_some r1).2.1
      have ej:j/k*k+j%k=j:=by rw[Nat.mul_comm];exact Nat.div_add_mod j k
      rw[hadd,show(⟨b,off+j/k*k,none⟩:Addr).add (j%k)=⟨b,off+j,none⟩ from by
       unfold Addr.add;split
       · rename_i h;rw[h,Nat.add_zero] at ej;rw[ej]
       · simp;omega,ξg (by omega)] at hcj
      refine⟨_,hcj,fun d hd=> ?_⟩
      rw[←ej,flat_at hF _ _ _ hjk] at hd
      simp[hjl] at hd
      obtain⟨u,s1,s2⟩:=r3 _ _ hd
      rw[ξg (by omega)] at s1
      cases s1
      exact s2
     obtain⟨U,hU⟩:=Deep.choose_lt (α:=Value) hgl
     refine⟨(List.range len).map g,rfl,fun r d hr=> ?_⟩
     match r with
     | 0=>
       simp only[List.getElem?_cons_zero,Option.some.injEq] at hr
       subst hr
       have hfl:=flat_length hF ((List.range len).map g)
       simp only[List.length_map,List.length_range] at hfl
       refine⟨_,rfl,.mk (us:=(List.range (len*k)).map U) hfl (by simp[hfl]) hl hm hb (fun j u hj=> ?_) (fun j d u e1 e2=> ?_)⟩
       · have hjl:j<len*k:=by have:=(ξl hj).1;simpa using this
         simp[hjl] at hj
         rw[←hj];exact(hU j hjl).1
       · have hjl:j<len*k:=by have:=(ξl e2).1;simpa using this
         simp[hjl] at e2
         rw[←e2];exact(hU j hjl).2 d e1
     | r+1=>simp at hr
theorem opens_val {t e:TypeId} {α:Type} {G:α→Dt} {r:Reach} {b0:Nat} {v:Value} {d:DataW H} {ps:List MemPlace} (ht:P.underlying t=some (.slice e)) (hval:Value.okWide P w r b0 t v) (ho:Opens enc P w t (fun a=>[G a])) (h:DataW.Trod enc P w 0 (fun _=>true) true t v d ps):∃a:α,Rwt w (G a) v:=by
 obtain⟨a,len,cap,rfl⟩:=WideShapes.okWide_slice ht hval
 obtain⟨m,hm⟩:=h
 obtain⟨x,_,hx⟩:=ho _ _ _ hm
 obtain⟨u,h1,h2⟩:=hx 0 _ rfl
 simp[Value.cells] at h1
 subst h1
 exact⟨x,h2⟩
end
section
variable {H : Type} {enc : TypeId × Value → H} {P : Program} {w : World}
end
end Go.Proofs.YtofcicomhnkocaaGreat
