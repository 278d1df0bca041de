import Derived.Test.YtofcicomhnkocaaGreatBx36
set_option linter.unusedVariables false
namespace Go.Proofs.YtofcicomhnkocaaGreat
set_option maxHeartbeats 6400000
open Go.RowKit
theorem Rd.dr {w w':World} {v:Value} {xs:List Int} (h:Rd w v xs) (hd:Dr w w'):Rd w' v xs:=by
 obtain⟨n,rfl⟩:=hd;exact h
open Go.RowKit Go.Sort
set_option maxRecDepth 100000
def useL (M:List Nat):List Int:=M.map fun m=>((popN m:Nat):Int)
theorem useL_step {M:List Nat} {k:Nat} (hk:k<M.length):useL (M.take (k+1))=useL (M.take k)++[((popN (M[k]?.getD 0):Nat):Int)]:=by
 unfold useL
 rw[List.take_add_one,List.map_append,ξg hk];rfl
theorem useL_len (M:List Nat):(useL M).length=M.length:=by simp[useL]
theorem usedOn_any (v:Value) (p:Pln) (w:World) (h:PlnR w v p) (hn2:p.n.fs.length≤1048576) (hl:p.ls.length≤1000) (hlo:∀x∈p.ls,LgO p.n.fs.length x):
 Calls Tryz.prog 85 #[v] w fun e w'=>∃v',e= .returned v'∧Own w' w.heap.size v' (useL (ξa5 p.ls p.n.fs.length))∧Below w.heap.size w w':=by
 have HFM:=ξh (fun w' (hb:Below w.heap.size w w')=>ξb7 v p w' (h.behind hb) hn2 hl hlo)
 have hMl:(ξa5 p.ls p.n.fs.length).length=p.n.fs.length:=(ξaF p.ls _).trans (by simp)
 have HLT:=ξh (fun i (hi:i<p.n.fs.length)=>orAll_lt (ls:=p.ls) hlo hi)
 obtain⟨u1,u2,u3,rfl,r1,r2,r3,hsm⟩:=h
 have hnet:NetR w (.agg #[u1,u2]) p.n:=⟨u1,u2,rfl,r1,r2,hsm⟩
 obtain⟨⟨a1,m1,c1,rfl⟩,a2,m2,c2,rfl⟩:=ξF hnet
 obtain⟨a3,m3,c3,rfl,-⟩:=Rdt.opn r3
 generalize ξa5 p.ls p.n.fs.length=M at *
 generalize p.n.fs.length=nf at *
 have HB1:=ξh ((ξb w.heap.size w).alloc (ξr _) (.cells #[.slice a1 m1 c1,.slice a2 m2 c2,.slice a3 m3 c3] 75))
 have HO1:=ξh (ξaG (w.alloc (.cells #[.slice a1 m1 c1,.slice a2 m2 c2,.slice a3 m3 c3] 75)) 3)
 have HB2:=ξh (HB1.alloc HB1.size (.cells #[] 3))
 clear hnet r1 r2 r3 hsm hlo hl
 go_enter Tryz.func85,Tryz.ntmps85
 go_wp2_with fail
 generalize hw1:w.alloc (.cells #[.slice a1 m1 c1,.slice a2 m2 c2,.slice a3 m3 c3] 75)=w1 at *
 have hz1:w1.heap.size=w.heap.size+1:=by rw[←hw1];simp
 rw[hz1] at HO1
 generalize hw2:w1.alloc (.cells #[] 3)=w2 at *
 have hz2:w2.heap.size=w.heap.size+1+1:=by rw[←hw2];simp[hz1]
 clear hw1 hw2
 refine(HFM.out _ HB2.out).mono ?_
 rintro e w3 ⟨v3,rfl,o3,b3⟩
 have hlt2:∀k,(Value.slice (some ⟨w.heap.size+1,0,none⟩) 0 0).ownBlock=some k→k<w2.heap.size:=fun k hk=>by
  obtain rfl:w.heap.size+1=k:=by simpa[Value.ownBlock] using hk
  omega
 have HO3:=ξh ((HO1.below b3 hlt2).mono (Nat.le_succ _))
 have HB3:=ξh (HB2.trans (b3.mono HB2.size))
 have HN3:=ξh (show∀g,(Value.slice (some ⟨w.heap.size+1,0,none⟩) 0 0).ownBlock=some g→v3.ownBlock≠some g from fun g hg e=>by
  have h1:=(o3.lt g e).1
  obtain rfl:w.heap.size+1=g:=by simpa[Value.ownBlock] using hg
  omega)
 have HR3:=ξh o3.rd
 obtain⟨a,c,m,HM,rfl,hmc,hm63,-⟩:=o3.rd.opn
 have hMM:M.length=m:=by have:=HM.out;rw[ξbC] at this;exact this
 have HMM:=ξh hMM
 have hmnf:m=nf:=by omega
 have HNF:=ξh hmnf
 clear hlt2 o3 b3 hz1 hz2 hMM hmnf hMl HO1 HFM
 go_wp2_with fail
 go_loopw [3,5,10] (fun s3 _ i wr=>∃(k:Nat) (ao:Option Addr) (no co:Nat),k≤m∧i= .int .i64 k∧s3= .slice ao no co∧Hid (Own wr w.heap.size (.slice ao no co) (useL (M.take k)))∧Hid (Rd wr (.slice a m c) (nats M))∧Hid (∀g,(Value.slice ao no co).ownBlock=some g→(Value.slice a m c).ownBlock≠some g)∧Hid (Below w.heap.size w wr)) (fun _ _ i _=>m-(intOf i).toNat)
 case atStart=>exact⟨0,_,_,_,ξu _,rfl,rfl,HO3.out,HR3.out,HN3.out,HB3.out⟩
 case round=>
  obtain⟨k,ao,no,co,hk,rfl,rfl,HO,HR,HN,HB⟩:=hrel
  by_cases hlt:k<m
  · have hltI:(k:Int)<(m:Int):=by omega
    obtain⟨a',c',m',HM',e',hmc',hm63',hcs⟩:=HR.opn
    cases e'
    obtain⟨b,off,rfl,hbs,hcs⟩:=hcs (by omega)
    have c0:=hcs k hlt
    rw[nats_at] at c0
    have hx:M[k]?.getD 0<16777216:=HLT.out k (by have:=HNF.out;omega)
    have HST:=ξh (useL_step (M:=M) (k:=k) (by rw[HMM.out];exact hlt))
    have HLO:=ξh (show(useL (M.take k)).length≤4000000 by rw[useL_len,List.length_take];have:=HNF.out;omega)
    generalize M[k]?.getD 0=x at *
    have hu:=u64n (a:=x) (ξq hx (by decide))
    have HX:=ξh hx
    generalize useL (M.take k)=ys at *
    clear hcs hbs hx HM' hmc'
    go_wp2_with (first
     | (go_at_call 134;refine(ones_any x HX.out _).mono ?_;rintro e w' ⟨rfl,rfl⟩)
     | (at_builtin;go_loud (refine ξa6 rfl (.tmp 14) (.tmp 18) 58 rfl Tryz.underlying58 Tryz.infoI w.heap.size (.slice ao no co) ys rfl HO.out rfl HLO.out HB.size ?_);intro v5 w5 o5 g5 l5;have HO5:=ξh o5;have HB5:=ξh (HB.grown g5 HB.size (fun q hq=>(HO.lt q hq).1));have HR5:=ξh (HR.keptB g5.size (fun q hq=>g5.block q (HR.lt q hq) (fun e=>HN.out q e.symm hq)));have HN5:=ξh (show∀g,v5.ownBlock=some g→(Value.slice (some ⟨b,off,none⟩) m c).ownBlock≠some g from fun g hg e=>(l5 g hg).elim (fun h=>HN.out g h e) (fun h=>absurd (HR.lt g e) (by omega)));obtain⟨a5,n5,c5,rfl⟩:∃a5 n5 c5,v5= .slice a5 n5 c5:=ξag o5;clear o5 g5 l5))
    go_roundw
    case rel=>exact⟨k+1,_,_,_,by omega,by go_num,rfl,by rw[HST.out];exact HO5.out,HR5.out,HN5.out,HB5.out⟩
    case measure=>simp[intOf];omega
  · obtain rfl:k=m:=by omega
    have HT:=ξh (show M.take k=M from List.take_of_length_le (Nat.le_of_eq HMM.out))
    rw[HT.out] at HO
    go_wp2_with fail
    go_ret
    exact⟨_,rfl,HO.out,HB.out⟩
theorem res_tmp4 {fn:Func} {t u v x:Tmp} (h:fn.results= #[.tmp t,.tmp u,.tmp v,.tmp x]) (tmps:Array Value) (P:Program) (w:World):
 (results fn tmps).run P w= .ok (.tuple #[tmps.getD t undef,tmps.getD u undef,tmps.getD v undef,tmps.getD x undef]) w:=by
 simp[results,h]
theorem useL_get {n:Net} {ls:List Lgt} (h:∀x∈ls,LgO n.fs.length x) {i:Nat} (hi:i<n.fs.length):(useL (ξa5 ls n.fs.length))[i]?.getD 0=((popN (ξU ls (i:Int)):Nat):Int):=by
 have hl:(ξa5 ls n.fs.length).length=n.fs.length:=(ξaF ls _).trans (by simp)
 rw[←ξaX hi (fun x hx f hf=>((h x hx).1 f hf).1)]
 unfold useL
 rw[List.getElem?_map,ξg (by omega)];rfl
def pkR (U:Nat→Int) (t:Int):Nat→Int × Int × Int→Int × Int × Int
 | 0,s=>s
 | k+1,s=>if(pkR U t k s).2.2<U k then((k:Int),t,U k) else pkR U t k s
def pkA (U:Nat→Nat→Int) (nf:Nat):Nat→Int × Int × Int→Int × Int × Int
 | 0,s=>s
 | t+1,s=>pkR (U t) (t:Int) nf (pkA U nf t s)
theorem pkR_eq {U:Nat→Int} (h:∀i,0≤U i):∀k,1≤k→pkR U 0 k (0,0,-1)=pkR U 0 k (0,0,0)
 | 1,_=>by
   have h0:=h 0
   have e1:pkR U 0 1 (0,0,-1)=(0,0,U 0):=if_pos (show(-1:Int)<U 0 by omega)
   rw[e1]
   by_cases hp:0<U 0
   · exact(if_pos (show(0:Int)<U 0 from hp)).symm
   · have e2:pkR U 0 1 (0,0,0)=(0,0,0):=if_neg (show¬(0:Int)<U 0 from hp)
     rw[e2,show U 0=0 by omega]
 | k+2,_=>by rw[pkR,pkR_eq h (k+1) (by omega)];rfl
theorem pkA_eq {U:Nat→Nat→Int} (h:∀t i,0≤U t i) {nf:Nat} (hn:1≤nf):∀t,1≤t→pkA U nf t (0,0,-1)=pkA U nf t (0,0,0)
 | 1,_=>pkR_eq (h 0) nf hn
 | t+2,_=>by rw[pkA,pkA_eq h hn (t+1) (by omega)];rfl
theorem planU_nn (n:Net) (fs:List Fmt) (gs:List Gro) (t i:Nat):0≤ξT n fs gs t i:=by
 unfold ξT
 split <;> omega
def pkK (n:Net) (fs:List Fmt) (gs:List Gro):Bool:=ξa0 n fs gs&&decide (0<n.fs.length)
def pk3 (n:Net) (fs:List Fmt) (gs:List Gro):Int × Int × Int:=if pkK n fs gs then pkA (ξT n fs gs) n.fs.length 8 (0,0,0) else(0,0,0)
def PkP (n:Net) (fs:List Fmt) (gs:List Gro) (w:World) (e:Ending) (w':World):Prop:=e= .returned (.tuple #[.int .i64 (pk3 n fs gs).1,.int .i64 (pk3 n fs gs).2.1,.int .i64 (pk3 n fs gs).2.2,.bool (pkK n fs gs)])∧Below w.heap.size w w'
theorem pls_atK {w3:World} {base:Nat} {n:Net} {ps:List (List Lgt)} {s:Value} {X:Nat→Prop} (h:GrwX w3 base 75 3 s 8 ((ps.map (Pln.mk n)).flatMap plnD) X) (hl:ps.length=8) (hs:NetSm n):
 ∃b off c,s= .slice (some ⟨b,off,none⟩) 8 c∧Hid (∀w',(∀k,base≤k→k<w3.heap.size→w'.heap[k]?= w3.heap[k]?)→ ∀t,t<8→ ∃a1 m1 c1 a2 m2 c2 a3 m3 c3,w'.cell? ⟨b,off+t * 3,none⟩=some (.slice a1 m1 c1)∧w'.cell? ⟨b,off+t * 3+1,none⟩=some (.slice a2 m2 c2)∧w'.cell? ⟨b,off+t * 3+2,none⟩=some (.slice a3 m3 c3)∧
  PlnR w' (.agg #[.slice a1 m1 c1,.slice a2 m2 c2,.slice a3 m3 c3]) ⟨n,ps[t]?.getD []⟩):=by
 obtain⟨b,off,c,rfl,-,-⟩:=pls_at h hl hs
 refine⟨b,off,c,rfl,fun w' hk t ht=> ?_⟩
 obtain⟨b',off',c',e,-,H⟩:=pls_at (h.kept (w':=w') (Y:=X) (fun k h1 h2 _=>hk k h1 h2) (fun _ _ h=>h)) hl hs
 cases e
 exact H.out t ht
theorem planU_bd (n:Net) (fs:List Fmt) (gs:List Gro) (t i:Nat):0≤ξT n fs gs t i∧ξT n fs gs t i≤24:=by
 unfold ξT
 split
 · omega
 · rename_i ps r _
   have:=popN_le (ξU (ps[t]?.getD []) (i:Int))
   omega
def fwd (V:Nat→Int) (l:Int):Nat→Int
 | 0=> -1
 | t+1=>if l<V t∧fwd V l t<0 then(t:Int) else fwd V l t
def bwd (V:Nat→Int) (l:Int):Nat→Int
 | 0=> -1
 | d+1=>if l<V (7-d) then((7-d:Nat):Int) else bwd V l d
theorem ξb9 {V:Nat→Int} {l:Int} :∀{t:Nat},(∀i,i<t→ ¬l<V i)→fwd V l t= -1
 | 0,_=>rfl
 | t+1,h=>by rw[fwd,if_neg (fun e=>h t (by omega) e.1)];exact ξb9 fun i hi=>h i (by omega)
theorem fwd_kept {V:Nat→Int} {l:Int} {t:Nat} (h:0≤fwd V l t):∀k,fwd V l (t+k)=fwd V l t
 | 0=>rfl
 | k+1=>by
   have:=fwd_kept h k
   rw[←Nat.add_assoc,fwd,if_neg (fun e=>by have:=e.2;omega),this]
theorem fwd_bwd {V:Nat→Int} {l:Int} :∀{d t:Nat},t+d=8→(∀i,i<t→ ¬l<V i)→fwd V l 8=bwd V l d
 | 0,t,e,h=>by
   obtain rfl:t=8:=by omega
   rw[ξb9 h];rfl
 | d+1,t,e,h=>by
   rw[bwd,show 7-d=t by omega]
   by_cases hc:l<V t
   · rw[if_pos hc]
     have h1:fwd V l (t+1)=(t:Int):=by rw[fwd,if_pos ⟨hc,by rw[ξb9 h];decide⟩]
     have h2:=fwd_kept (t:=t+1) (by rw[h1];omega) d
     rw[show t+1+d=8 by omega,h1] at h2
     exact h2
   · rw[if_neg hc]
     exact fwd_bwd (d:=d) (t:=t+1) (by omega) fun i hi=>by
      rcases Nat.lt_succ_iff_lt_or_eq.1 hi with h1 | h1
      · exact h i h1
      · rw[h1];exact hc
theorem fwd_eq (V:Nat→Int) (l:Int):fwd V l 8=bwd V l 8:=fwd_bwd (d:=8) (t:=0) rfl fun i hi=>absurd hi (by omega)
def upT (n:Net) (fs:List Fmt) (gs:List Gro) (l:Int) (k:Nat):List Int:=(List.range k).map fun i=>bwd (fun t=>ξT n fs gs t i) l 8
theorem upT_step (n:Net) (fs:List Fmt) (gs:List Gro) (l:Int) (k:Nat):upT n fs gs l (k+1)=upT n fs gs l k++[bwd (fun t=>ξT n fs gs t k) l 8]:=by
 unfold upT;rw[List.range_succ,List.map_append];rfl
theorem upT_len (n:Net) (fs:List Fmt) (gs:List Gro) (l:Int) (k:Nat):(upT n fs gs l k).length=k:=by simp[upT]
def upK (n:Net) (fs:List Fmt) (gs:List Gro) (l:Int):Bool:=ξa0 n fs gs&&inB l 0 24
def upL (n:Net) (fs:List Fmt) (gs:List Gro) (l:Int):List Int:=if upK n fs gs l then upT n fs gs l n.fs.length else[]
def UpP (n:Net) (fs:List Fmt) (gs:List Gro) (l:Int) (w:World) (e:Ending) (w':World):Prop:=∃v,e= .returned (.tuple #[v,.bool (upK n fs gs l)])∧Ofr w' w.heap.size (inD (upL n fs gs l)) v∧Below w.heap.size w w'
def pkCov (t k t' i:Nat):Prop:=t'<t∨(t'=t∧i<k)
structure PkI (U:Nat→Nat→Int) (nf t k:Nat) (s:Int × Int × Int):Prop where
 nn:0≤s.2.2
 top:∀t' i,i<nf→pkCov t k t' i→U t' i≤s.2.2
 at_:(s.1=0∧s.2.1=0∧s.2.2=0)∨ ∃f tt:Nat,s.1=(f:Int)∧s.2.1=(tt:Int)∧f<nf∧pkCov t k tt f∧U tt f=s.2.2∧0<s.2.2∧ ∀t' i,t'<tt→i<nf→U t' i<s.2.2
theorem PkI.row {U:Nat→Nat→Int} {nf t:Nat} {s:Int × Int × Int} (h:PkI U nf t 0 s):∀k,k≤nf→PkI U nf t k (pkR (U t) (t:Int) k s)
 | 0,_=>h
 | k+1,hk=>by
   have h1:=h.row k (by omega)
   have e:pkR (U t) (t:Int) (k+1) s=if(pkR (U t) (t:Int) k s).2.2<U t k then((k:Int),(t:Int),U t k) else pkR (U t) (t:Int) k s:=rfl
   rw[e]
   generalize pkR (U t) (t:Int) k s=r at *
   by_cases hc:r.2.2<U t k
   · rw[if_pos hc]
     have hn:=h1.nn
     refine⟨by show 0≤U t k;omega,fun t' i hi hv=> ?_,.inr ⟨k,t,rfl,rfl,by omega,.inr ⟨rfl,by omega⟩,rfl,by show 0<U t k;omega,fun t' i ht hi=> ?_⟩⟩
     · show U t' i≤U t k
       by_cases hx:pkCov t k t' i
       · have:=h1.top t' i hi hx;omega
       · have:t'=t∧i=k:=by unfold pkCov at hv hx;omega
         rw[this.1,this.2];exact Int.le_refl _
     · show U t' i<U t k
       have:=h1.top t' i hi (.inl ht);omega
   · rw[if_neg hc]
     refine⟨h1.nn,fun t' i hi hv=> ?_,h1.at_.imp id ?_⟩
     · by_cases hx:pkCov t k t' i
       · exact h1.top t' i hi hx
       · have:t'=t∧i=k:=by unfold pkCov at hv hx;omega
         rw[this.1,this.2];omega
     · rintro⟨f,tt,a,b,c,d,e⟩
       exact⟨f,tt,a,b,c,by unfold pkCov at d ⊢;omega,e⟩
theorem PkI.next {U:Nat→Nat→Int} {nf t:Nat} {s:Int × Int × Int} (h:PkI U nf t nf s):PkI U nf (t+1) 0 s:=
 ⟨h.nn,fun t' i hi hv=>h.top t' i hi (by unfold pkCov at hv ⊢;omega),h.at_.imp id fun⟨f,tt,a,b,c,d,e⟩=>⟨f,tt,a,b,c,by unfold pkCov at d ⊢;omega,e⟩⟩
theorem pkA_I (U:Nat→Nat→Int) (nf:Nat):∀t,PkI U nf t 0 (pkA U nf t (0,0,0))
 | 0=>⟨Int.le_refl _,fun t' i _ hv=>by unfold pkCov at hv;omega,.inl ⟨rfl,rfl,rfl⟩⟩
 | t+1=>((pkA_I U nf t).row nf (ξr _)).next
theorem fwd_first {V:Nat→Int} {l:Int} {T:Nat} (hT:T<8) (h0:∀t,t<T→ ¬l<V t) (h1:l<V T):fwd V l 8=(T:Int):=by
 have e1:fwd V l (T+1)=(T:Int):=by rw[fwd,if_pos ⟨h1,by rw[ξb9 h0];decide⟩]
 have h2:=fwd_kept (t:=T+1) (by rw[e1];omega) (7-T)
 rw[show T+1+(7-T)=8 by omega,e1] at h2
 exact h2
theorem fwd_neg {V:Nat→Int} {l:Int} (h:fwd V l 8= -1):∀t,t<8→ ¬l<V t:=by
 have hx:∀T,T≤8→ ∀t,t<T→ ¬l<V t:=by
  intro T
  induction T with
  | zero=>intro _ t ht;omega
  | succ T ih=>
    intro hT t ht
    rcases Nat.lt_succ_iff_lt_or_eq.1 ht with h1 | h1
    · exact ih (by omega) t h1
    · subst h1
      intro hc
      have:=fwd_first (by omega) (ih (by omega)) hc
      omega
 exact hx 8 (ξr _)
theorem fwd_ge (V:Nat→Int) (l:Int):∀t,-1≤fwd V l t
 | 0=>Int.le_refl _
 | t+1=>by
   have:=fwd_ge V l t
   rw[fwd];split <;> omega
def rM (L:List Int):Int:=L.foldl (fun o x=>if o<x then x else o) (-1)
theorem rM_step (L:List Int) {k:Nat} (h:k<L.length):rM (L.take (k+1))=if rM (L.take k)<L[k]?.getD 0 then L[k]?.getD 0 else rM (L.take k):=by
 unfold rM
 rw[List.take_add_one,List.foldl_append,ξg h];rfl
theorem rM_iff:∀(L:List Int) (o:Int),-1≤o→(L.foldl (fun o x=>if o<x then x else o) o= -1↔o= -1∧ ∀x∈L,x≤ -1)
 | [],o,_=>by simp
 | y::L,o,ho=>by
   rw[List.foldl_cons]
   by_cases hc:o<y
   · rw[if_pos hc,rM_iff L y (by omega)]
     constructor
     · rintro⟨a,-⟩;omega
     · rintro⟨a,b⟩;have:=b y (List.mem_cons_self ..);omega
   · rw[if_neg hc,rM_iff L o ho]
     constructor
     · rintro⟨a,b⟩
       exact⟨a,fun x hx=>by rcases List.mem_cons.1 hx with rfl | hx;· omega
                            · exact b x hx⟩
     · rintro⟨a,b⟩;exact⟨a,fun x hx=>b x (List.mem_cons_of_mem _ hx)⟩
theorem upT_get (n:Net) (fs:List Fmt) (gs:List Gro) (l:Int) (k i:Nat) (h:i<k):(upT n fs gs l k)[i]?.getD 0=fwd (fun t=>ξT n fs gs t i) l 8:=by
 unfold upT
 rw[List.getElem?_map,List.getElem?_range h,fwd_eq];rfl
theorem upT_mem {n:Net} {fs:List Fmt} {gs:List Gro} {l:Int} {k:Nat} {x:Int} :x∈upT n fs gs l k↔ ∃i,i<k∧fwd (fun t=>ξT n fs gs t i) l 8=x:=by
 unfold upT
 rw[List.mem_map]
 constructor
 · rintro⟨i,hi,rfl⟩;exact⟨i,List.mem_range.1 hi,by rw[fwd_eq]⟩
 · rintro⟨i,hi,rfl⟩;exact⟨i,List.mem_range.2 hi,by rw[fwd_eq]⟩
theorem upg_law {n:Net} {fs:List Fmt} {gs:List Gro} {l:Int} {F T M:Int} (hk:ξa0 n fs gs=true) (hn:0<n.fs.length) (hp:pk3 n fs gs=(F,T,M)) (hl:inB l 0 24=true):
 upK n fs gs M=true∧(∀x∈upT n fs gs M n.fs.length,x= -1)∧0≤F∧F<n.fs.length∧0≤M∧M≤24∧
 (M≠0→upK n fs gs (M-1)=true∧(upT n fs gs (M-1) n.fs.length)[F.toNat]?.getD 0=T)∧(decide (M≤l)=(rM (upT n fs gs l n.fs.length) == -1)):=by
 have hpk:pkK n fs gs=true:=by unfold pkK;rw[hk];simpa using hn
 unfold pk3 at hp
 rw[if_pos hpk] at hp
 have hI:=pkA_I (ξT n fs gs) n.fs.length 8
 rw[hp] at hI
 have hnn:0≤M:=hI.nn
 have htop:∀t i,i<n.fs.length→t<8→ξT n fs gs t i≤M:=fun t i hi ht=>hI.top t i hi (.inl ht)
 have hM:M≤24:=by
  rcases hI.at_ with ⟨-,-,h⟩ | ⟨f,tt,-,-,-,-,h,-⟩
  · show M≤24;have:M=0:=h;omega
  · have h':ξT n fs gs tt f=M:=h
    have:=(planU_bd n fs gs tt f).2;omega
 have hinM:inB M 0 24=true:=by unfold inB;simp;omega
 refine⟨by unfold upK;rw[hk,hinM];rfl,fun x hx=> ?_,?_,?_,hnn,hM,fun hM0=> ?_,?_⟩
 · obtain⟨i,hi,rfl⟩:=upT_mem.1 hx
   exact ξb9 fun t ht=>by have:=htop t i hi ht;omega
 · rcases hI.at_ with ⟨h,-⟩ | ⟨f,tt,h,-⟩
   · show 0≤F;have:F=0:=h;omega
   · show 0≤F;have:F=f:=h;omega
 · rcases hI.at_ with ⟨h,-⟩ | ⟨f,tt,h,-,hf,-⟩
   · have:F=0:=h;omega
   · have:F=f:=h;omega
 · rcases hI.at_ with ⟨-,-,h⟩ | ⟨f,tt,h1,h2,hf,hc,h,h0,hb⟩
   · exact absurd h hM0
   · have e1:F=f:=h1
     have e2:T=tt:=h2
     have e3:ξT n fs gs tt f=M:=h
     have e4:0<M:=h0
     have ht8:tt<8:=by unfold pkCov at hc;omega
     refine⟨by unfold upK;rw[hk];have:inB (M-1) 0 24=true:=by unfold inB;simp;omega
               rw[this];rfl,?_⟩
     rw[e1,Int.toNat_natCast,upT_get _ _ _ _ _ _ hf,e2]
     refine fwd_first ht8 (fun t ht=> ?_) ?_
     · have:ξT n fs gs t f<M:=hb t f ht hf
       omega
     · show M-1<ξT n fs gs tt f;omega
 · have hiff:(rM (upT n fs gs l n.fs.length)= -1)↔M≤l:=by
    have hl0:0≤l:=by unfold inB at hl;simp at hl;omega
    unfold rM
    rw[rM_iff _ _ (Int.le_refl _)]
    constructor
    · rintro⟨-,ha⟩
      rcases hI.at_ with ⟨-,-,h⟩ | ⟨f,tt,h1,h2,hf,hc,h,h0,hb⟩
      · have:M=0:=h;omega
      · have e3:ξT n fs gs tt f=M:=h
        have ht8:tt<8:=by unfold pkCov at hc;omega
        have hx:=ha _ (upT_mem.2 ⟨f,hf,rfl⟩)
        have hg:=fwd_ge (fun t=>ξT n fs gs t f) l 8
        have hne:=fwd_neg (V:=fun t=>ξT n fs gs t f) (l:=l) (by omega) tt ht8
        have:¬l<ξT n fs gs tt f:=hne
        omega
    · intro hle
      refine⟨rfl,fun x hx=> ?_⟩
      obtain⟨i,hi,rfl⟩:=upT_mem.1 hx
      rw[ξb9 fun t ht=>by have:=htop t i hi ht;omega]
      exact Int.le_refl _
   by_cases hc:M≤l
   · rw[ξt hc,hiff.2 hc];rfl
   · rw[ξf hc]
     have:¬rM (upT n fs gs l n.fs.length)= -1:=fun e=>hc (hiff.1 e)
     simpa using this
theorem rMost_any (v:Value) (xs:List Int) (w:World) (h:Rd w v xs):
 Calls Tryz.prog 43 #[v] w fun e w'=>e= .returned (.int .i64 (rM xs))∧w=w':=by
 obtain⟨a,c,m,HM,rfl,hmc,hm63,ha⟩:=h.opn
 have HA:=ξh ha
 have HST:=ξh (fun k (hk:k<m)=>rM_step xs (k:=k) (by rw[HM.out];exact hk))
 have HALL:=ξh (show rM (xs.take m)=rM xs by rw[List.take_of_length_le (Nat.le_of_eq HM.out)])
 clear ha h
 go_enter Tryz.func43,Tryz.ntmps43
 go_wp2
 go_loop [3,4] (fun x i=>∃k:Nat,k≤m∧i= .int .i64 k∧x= .int .i64 (rM (xs.take k))) (fun _ i=>m-(intOf i).toNat)
 case atStart=>exact⟨0,by omega,rfl,rfl⟩
 case round=>
  obtain⟨k,hk,rfl,rfl⟩:=hrel
  by_cases hlt:k<m
  · have hltI:(k:Int)<(m:Int):=by omega
    obtain⟨b,off,rfl,hb,hcs⟩:=HA.out (by omega)
    have c0:=hcs k hlt
    have HS:=ξh (HST.out k hlt)
    generalize xs[k]?.getD 0=x at *
    generalize rM (xs.take k)=y at *
    by_cases hgt:y<x
    · rw[if_pos hgt] at HS
      have hgd:decide (x>y)=true:=ξt hgt
      clear hcs hb
      go_wp2
      go_round
      · exact⟨k+1,by omega,by go_num,by rw[HS.out]⟩
      · simp[intOf];omega
    · rw[if_neg hgt] at HS
      have hgd:decide (x>y)=false:=ξf hgt
      clear hcs hb
      go_wp2
      go_round
      · exact⟨k+1,by omega,by go_num,by rw[HS.out]⟩
      · simp[intOf];omega
  · have hltI:¬(k:Int)<(m:Int):=by omega
    obtain rfl:k=m:=by omega
    have hr:=HALL.out
    generalize rM (xs.take k)=y at *
    have HR:=ξh hr
    clear hr
    go_wp2
    go_ret
    exact⟨by rw[←HR.out];rfl,rfl⟩
def rp (x:Int) (n m:Nat):List Value:=List.replicate n (.int .i64 x)++List.replicate (m-n) (.int .i64 0)
theorem rp_len (x:Int) {n m:Nat} (h:n≤m):(rp x n m).length=m:=by unfold rp;simp;omega
theorem rp_step (x:Int) {n k m:Nat} (h:n+k≤m):(rp x n m).take n++(List.replicate k (.int .i64 x)++(rp x n m).drop (n+k))=rp x (n+k) m:=by
 unfold rp
 rw[List.take_append_of_le_length (by simp),List.take_of_length_le (by simp),List.drop_append,List.drop_of_length_le (by simp),List.drop_replicate,List.length_replicate,List.nil_append,←List.append_assoc,List.replicate_append_replicate]
 congr 2
 omega
theorem rp_copy (x:Int) {n k m:Nat} (tl:List Value) (h:n+k≤m):((rp x n m++tl).toArray.toList.take n++(List.replicate k (Value.int .i64 x)++(rp x n m++tl).toArray.toList.drop (n+(List.replicate k (Value.int .i64 x)).length))).toArray=(rp x (n+k) m++tl).toArray:=by
 rw[←rp_step x h]
 have hl:=rp_len x (n:=n) (m:=m) (by omega)
 simp only[List.length_replicate]
 rw[List.take_append_of_le_length (by omega),List.drop_append_of_le_length (by omega),List.append_assoc,List.append_assoc]
theorem rp_head (x:Int) {n m j:Nat} {v:Value} {k:Nat} (hk:k≤n) (h:(List.replicate k (Value.int .i64 x))[j]?= some v):(rp x n m)[j]?= some v:=by
 rw[List.getElem?_replicate] at h
 split at h
 · unfold rp
   rw[List.getElem?_append_left (by simp;omega),List.getElem?_replicate,if_pos (by omega)]
   exact h
 · cases h
theorem repeat_any (v:Value) (x:Int) (c:Nat) (w:World) (h:Rd w v [x]) (hc:c≤1000):
 Calls Tryz.prog 89 #[v,.int .i64 (c:Int)] w fun e w'=>∃v',e= .returned v'∧Own w' w.heap.size v' (List.replicate c x)∧Below w.heap.size w w':=by
 obtain⟨i0,hi,hz0,hz1,hz2⟩:=info_parts Tryz.infoInt
 obtain⟨a,ca,n,HN,rfl,-,-,ha⟩:=h.opn
 obtain rfl:n=1:=HN.symm
 obtain⟨b,off,rfl,hb,hcs⟩:=ha (by omega)
 have c0:=hcs 0 (by omega)
 have HM:=ξh (show∀w,Calls Tryz.prog 138 #[.int .u64 (1:Int),.int .u64 (c:Int)] w fun e w'=>e= .returned (.tuple #[.int .u64 (0:Int),.int .u64 (c:Int)])∧w'=w from fun w=>by
  have:=Tryz.bits_Mul 1 c (by omega) (by omega) w
  rw[show 1*c/18446744073709551616=0 by omega,show 1*c%18446744073709551616=c by omega] at this
  exact this)
 clear hcs ha h
 go_enter Tryz.func89,Tryz.ntmps89
 go_wp2_with fail
 refine(HM.out _).mono ?_
 rintro e w1 ⟨rfl,rfl⟩
 have h1:¬(c:Int)>9223372036854775807:=by omega
 have h2:decide ((c:Int)>9223372036854775807)=false:=ξf h1
 have h3:IntKind.i64.wrap (c:Int)=(c:Int):=ξi _ (by omega)
 have h4:wrap64 (c:Int)=(c:Int):=ξw _ (by omega)
 go_upto_region 7 with (refine wpList_make_full _ rfl _ _ 58 rfl w1.heap.size 3 i0 (.int .i64 0) 1 Tryz.underlying58 hi hz0 hz1 _ _ _ _ c rfl rfl rfl rfl (by rw[hz2];omega) (by unfold maxLen;omega) (ξr _) ?_;intro w2 hown1 hgrow1)
 obtain⟨g,hg⟩:∃g,g=w1.heap.size:=⟨_,rfl⟩
 have HB2:=ξh ((ξb w1.heap.size w1).grown hgrow1 (ξr _) (by simp):Below w1.heap.size w1 w2)
 have e0:(madeCells (Value.int .i64 0).cells (c*1)).toList=List.replicate c (Value.int .i64 0):=by
  rw[Nat.mul_one]
  have:=toList_madeCells_one (.int .i64 0) c
  simpa[Value.cells] using this
 rw[e0] at hown1
 have HG2:∃tl T,w2.heap[g]?= some (.cells (rp x 0 c++tl).toArray T (0,0)):=by
  rcases hown1.2 with ⟨e,-⟩ | ⟨g',cap,cur,e,q1,q2,q3,q4,q5,q6⟩
  · cases e
  · cases e
    refine⟨cur.toList.drop c,3,?_⟩
    rw[hg,q2]
    have:rp x 0 c++cur.toList.drop c=cur.toList:=by
     unfold rp
     rw[List.replicate_zero,List.nil_append,Nat.sub_zero,←q6,Nat.mul_one,List.take_append_drop]
    rw[this]
 have cb:=(HB2.cell (p:=⟨b,off+0,none⟩) hb).trans c0
 obtain⟨tl,T,hg2⟩:=HG2
 have HGE:=ξh hg
 rw[←hg]
 obtain⟨K,hK⟩:∃K,K=Nat.min 1 c:=⟨_,rfl⟩
 have hK1:K≤1:=by rw[hK];exact Nat.min_le_left _ _
 have hml:K≤c:=by rw[hK];exact Nat.min_le_right _ _
 have hm1:0<c→0<K:=fun h=>by rw[hK,show Nat.min 1 c=min 1 c from rfl];omega
 have hsrc:∀j v,(List.replicate K (Value.int .i64 x))[j]?= some v→w2.cell? ((⟨b,off,none⟩:Addr).add j)=some v:=fun j v hj=>by
  rw[List.getElem?_replicate] at hj
  split at hj
  · rename_i hlt
    obtain rfl:j=0:=by omega
    rw[addr_add,cb];exact hj
  · cases hj
 have HSRC:=ξh hsrc
 have HG2:=ξh hg2
 have HML:=ξh hml
 have HM1:=ξh hm1
 have HKE:=ξh hK
 have HCP:=ξh (show(List.replicate K (Value.int .i64 x)++List.drop K (rp x 0 c++tl)).toArray=(rp x K c++tl).toArray from by
  have:=rp_copy x (n:=0) (k:=K) (m:=c) tl (by omega)
  simpa using this)
 clear hsrc hg2 hown1 hgrow1 e0 cb c0 hg h1 h2 h3 h4 hml hm1 hK1 hK
 go_upto_region 8 with (refine wpList_copy_own (o:=⟨some 33,_,_,_,_,_⟩) rfl (.tmp 31) (.tmp 32) 58 58 rfl 3 Tryz.underlying58 (by kernel_rfl) g 0 c c ⟨b,off,none⟩ 1 ca (by rfl) (by rfl) _ T HG2.out (List.replicate K (.int .i64 x)) (by rw[List.length_replicate];exact HKE.out) HSRC.out (by have:=HML.out;have:=rp_len x (n:=0) (m:=c) (by omega);simp;omega) (fun u hu=>by rw[List.eq_of_mem_replicate hu];rfl) ?_)
 rw[HCP.out]
 have HG3:=ξh (show(w2.setRow g (rp x K c++tl).toArray).heap[g]?= some (.cells (rp x K c++tl).toArray T (0,0)) from setRow_heap w2 g _ _ _ _ HG2.out)
 have HB3:=ξh (below_setRow HB2.out (show w1.heap.size≤g by rw[HGE.out];exact ξr _) (rp x K c++tl).toArray)
 generalize w2.setRow g (rp x K c++tl).toArray=w3 at *
 go_loopw [8] (fun s8 wr=>∃n:Nat,n≤c∧s8= .int .i64 n∧Hid (0<c→0<n)∧Hid (wr.heap[g]?= some (.cells (rp x n c++tl).toArray T (0,0)))∧Hid (Below w1.heap.size w1 wr)) (fun s8 _=>c-(intOf s8).toNat)
 case atStart=>exact⟨K,HML.out,rfl,HM1.out,HG3.out,HB3.out⟩
 case round=>
  obtain⟨n,hn,rfl,HN0,HG,HB⟩:=hrel
  by_cases hlt:n<c
  · have hltI:(n:Int)<(c:Int):=by omega
    have hne:¬c=n:=by omega
    have hn0:0<n:=HN0.out (by omega)
    have hnI:(0:Int)≤(n:Int):=by omega
    have hnc:(n:Int)≤(c:Int):=by omega
    have hnc2:¬(c:Int)<(n:Int):=by omega
    obtain⟨k,hk⟩:∃k,k=Nat.min n (c-n):=⟨_,rfl⟩
    have hk1:k≤n:=by rw[hk];exact Nat.min_le_left _ _
    have hk2:n+k≤c:=by have:k≤c-n:=by rw[hk];exact Nat.min_le_right _ _
                       omega
    have hk3:0<k:=by rw[hk,show Nat.min n (c-n)=min n (c-n) from rfl];omega
    have HK1:=ξh hk1
    have HK2:=ξh hk2
    have HK3:=ξh hk3
    have HK:=ξh hk
    have HSR:=ξh (show∀j v,(List.replicate k (Value.int .i64 x))[j]?= some v→wr.cell? ((⟨g,0,none⟩:Addr).add j)=some v from fun j v hj=>by
     have hr:=rp_head x (m:=c) hk1 hj
     have hr2:(rp x n c++tl)[j]?= some v:=by
      rw[List.getElem?_append_left (by have:=(ξl hr).1;exact this)];exact hr
     rw[addr_add,Nat.zero_add]
     exact blkc HG.out (by simpa using hr2))
    have HCQ:=ξh (rp_copy x (n:=n) (k:=k) (m:=c) tl hk2)
    have f1:wrap64 ((n:Int)+(k:Int))=((n+k:Nat):Int):=(ξw _ (by omega)).trans (by omega)
    clear hk hk1 hk2 hk3
    have HB5:=ξh (below_setRow (HB.drew) (show w1.heap.size≤g by rw[HGE.out];exact ξr _) (rp x (n+k) c++tl).toArray)
    have HG5:=ξh (show(wr.drew.setRow g (rp x (n+k) c++tl).toArray).heap[g]?= some (.cells (rp x (n+k) c++tl).toArray T (0,0)) from setRow_heap wr.drew g _ _ _ _ HG.out)
    have F1:=ξh (show IntKind.i64.wrap ((n:Int)+(k:Int))=((n+k:Nat):Int) from(ξi _ (by have:=HK2.out;omega)).trans (by omega))
    have HLN:=ξh (rp_len x hn)
    have hnN:¬c<n:=by omega
    go_upto_region 9 with fail
    refine ξH [0,1,2,3,4,5,6,7,8,9] (S:=fun _=>True) (by kernel_rfl) (trivial) (fun hH=> ?_)
    refine hlF 0 rfl hH ?_
    try simp only[Act.put,hlA,hlB,hlC]
    refine hlF 1 rfl hH ?_
    try simp only[Act.put,hlA,hlB,hlC]
    refine hlF 2 rfl hH ?_
    try simp only[Act.put,hlA,hlB,hlC]
    refine hlF 3 rfl hH ?_
    try simp only[Act.put,hlA,hlB,hlC]
    refine hlF 4 rfl hH ?_
    try simp only[Act.put,hlA,hlB,hlC]
    refine hlF 5 rfl hH ?_
    try simp only[Act.put,hlA,hlB,hlC]
    refine hlF 6 rfl hH ?_
    try simp only[Act.put,hlA,hlB,hlC]
    refine ξB (rs:=[7]) (by kernel_rfl) (by simp) ?_
    refine AllReadyL.cons rfl (fun KK hKK=> ?_) AllReadyL.nil
    refine step_of_list rfl ?_
    refine wpList_copy_own rfl (.tmp 41) (.tmp 44) 58 58 rfl 3 Tryz.underlying58 (by kernel_rfl) g n (c-n) (c-n) ⟨g,0,none⟩ n c (by rfl) (by rfl) _ T HG.out (List.replicate k (.int .i64 x)) (by rw[List.length_replicate];exact HK.out) HSR.out (by have:=HK2.out;have:=HLN.out;simp;omega) (fun u hu=>by rw[List.eq_of_mem_replicate hu];rfl) ?_
    rw[HCQ.out]
    unfold wpList
    refine⟨rfl,?_⟩
    refine hKK.out _ _ (trivial) (fun hH=> ?_)
    clear hKK KK
    try simp only[Act.put,hlA,hlB,hlC]
    refine ξB (rs:=[8]) (by kernel_rfl) (by simp) ?_
    refine AllReadyL.cons rfl (fun KK hKK=> ?_) AllReadyL.nil
    go_simp
    refine hKK.out _ _ (trivial) (fun hH=> ?_)
    clear hKK KK
    try simp only[Act.put,hlA,hlB,hlC]
    refine ξG 9 rfl (by kernel_rfl) (by kernel_rfl) (fun KK hKK=> ?_)
    go_simp
    refine hKK.out _ _ ?_
    clear hKK KK
    try simp only[Act.put,hlA,hlB,hlC]
    refine ξS (by kernel_rfl) ?_ _
    rotate_left 1
    rw[F1.out]
    generalize wr.drew.setRow g (rp x (n+k) c++tl).toArray=w5 at *
    go_roundw
    case rel=>exact⟨_,_,_,_,_,_,_,_,_,_,_,_,_,_,⟨n+k,HK2.out,rfl,fun _=>by have:=HK3.out;omega,HG5.out,HB5.out⟩,rfl⟩
    case measure=>simp[intOf];have:=HK3.out;omega
  · obtain rfl:n=c:=by omega
    have HOF:=ξh (show Own wr w1.heap.size (.slice (some ⟨g,0,none⟩) n n) (List.replicate n x) from by
     refine .inr ⟨g,0,n,(rp x n n++tl).toArray,by rw[List.length_replicate],by rw[HGE.out];exact ξr _,⟨T,HG.out⟩,by rw[List.length_replicate];exact ξr _,by unfold maxLen;omega,?_,?_⟩
     · have:=rp_len x (n:=n) (m:=n) (ξr _)
       simp;omega
     · unfold rp
       simp[ints])
    go_wp2_with fail
    go_ret
    exact⟨_,rfl,HOF.out,HB.out⟩
def fwR (U:Nat→Nat→Int) (l:Int) (nf t k:Nat):List Int:=(List.range nf).map fun i=>fwd (fun t=>U t i) l (if i<k then t+1 else t)
theorem ξba (U:Nat→Nat→Int) (l:Int) (nf t k:Nat):(fwR U l nf t k).length=nf:=by simp[fwR]
theorem fwR_at (U:Nat→Nat→Int) (l:Int) {nf i:Nat} (t k:Nat) (h:i<nf):(fwR U l nf t k)[i]?.getD 0=fwd (fun t=>U t i) l (if i<k then t+1 else t):=by
 unfold fwR;rw[List.getElem?_map,List.getElem?_range h];rfl
theorem fwR_zero (U:Nat→Nat→Int) (l:Int) (nf:Nat):fwR U l nf 0 0=List.replicate nf (-1):=by
 unfold fwR
 apply List.ext_getElem?
 intro i
 by_cases h:i<nf
 · rw[List.getElem?_map,List.getElem?_range h,List.getElem?_replicate,if_pos h];rfl
 · rw[List.getElem?_eq_none (by simp;omega),List.getElem?_eq_none (by simp;omega)]
theorem fwR_next (U:Nat→Nat→Int) (l:Int) (nf t:Nat):fwR U l nf t nf=fwR U l nf (t+1) 0:=by
 unfold fwR
 refine List.map_congr_left fun i hi=> ?_
 rw[if_pos (List.mem_range.1 hi),if_neg (by omega)]
theorem fwR_ext {U:Nat→Nat→Int} {l:Int} {nf t k:Nat} {L:List Int} (hL:L.length=nf) (h:∀i,i<nf→L[i]?.getD 0=fwd (fun t=>U t i) l (if i<k then t+1 else t)):L=fwR U l nf t k:=by
 apply List.ext_getElem?
 intro i
 by_cases hi:i<nf
 · have h1:=h i hi
   rw[←fwR_at U l t k hi] at h1
   rw[ξg (by omega),ξg (by rw[ξba];exact hi)] at h1 ⊢
   simpa using h1
 · rw[List.getElem?_eq_none (by omega),List.getElem?_eq_none (by rw[ξba];omega)]
theorem fwR_set {U:Nat→Nat→Int} {l:Int} {nf t k:Nat} (hk:k<nf) (h1:l<U t k) (h2:(fwR U l nf t k)[k]?.getD 0<0):(fwR U l nf t k).set k (t:Int)=fwR U l nf t (k+1):=by
 refine fwR_ext (by rw[List.length_set,ξba]) fun i hi=> ?_
 rw[fwR_at U l t k hk,if_neg (by omega)] at h2
 by_cases e:i=k
 · subst e
   rw[List.getElem?_set_self (by rw[ξba];exact hi),if_pos (by omega)]
   exact(if_pos (show l<U t i∧fwd (fun t=>U t i) l t<0 from⟨h1,h2⟩)).symm
 · rw[List.getElem?_set_ne (fun x=>e x.symm),fwR_at U l t k hi]
   by_cases hik:i<k
   · rw[if_pos hik,if_pos (by omega)]
   · rw[if_neg hik,if_neg (by omega)]
theorem fwR_same {U:Nat→Nat→Int} {l:Int} {nf t k:Nat} (hk:k<nf) (h:¬(l<U t k∧(fwR U l nf t k)[k]?.getD 0<0)):fwR U l nf t k=fwR U l nf t (k+1):=by
 refine fwR_ext (ξba U l nf t k) fun i hi=> ?_
 rw[fwR_at U l t k hk,if_neg (by omega)] at h
 rw[fwR_at U l t k hi]
 by_cases e:i=k
 · subst e
   rw[if_neg (by omega),if_pos (by omega)]
   exact(if_neg h).symm
 · by_cases hik:i<k
   · rw[if_pos hik,if_pos (by omega)]
   · rw[if_neg hik,if_neg (by omega)]
theorem fwR_all (n:Net) (fs:List Fmt) (gs:List Gro) (l:Int) (nf:Nat):fwR (ξT n fs gs) l nf 8 0=upT n fs gs l nf:=by
 unfold fwR upT
 refine List.map_congr_left fun i _=> ?_
 rw[if_neg (by omega),fwd_eq]
theorem ξbU (l:Int) (v vf vg:Value) (n:Net) (fs:List Fmt) (gs:List Gro) (w:World) (h:NetR w v n) (hf:Rdt w (flt 2 fmE fs) vf) (hg:Rdt w (flt 6 groE gs) vg):
 Calls Tryz.prog 40 #[v,vf,vg,.int .i64 l] w (UpP n fs gs l w):=by
 obtain⟨NP,hNP⟩:∃NP,NP=UpP n fs gs l w:=⟨_,rfl⟩
 rw[←hNP]
 have HNP:=ξh hNP
 have HP:=ξh (fun w' (hb:Below w.heap.size w w')=>ξaZ v vf vg n fs gs w' (h.behind hb) (hf.behind hb) (hg.behind hb))
 have hnet:=h
 obtain⟨u1,u2,rfl,r1,r2,hsm⟩:=h
 obtain⟨⟨a1,m1,c1,rfl⟩,-⟩:=ξF hnet
 obtain⟨a2,m2,c2,rfl,HN2,hc2,hm2,-⟩:=ξC (m:=4) (enc:=fibE) (fun _=>rfl) (by omega) nilB r2
 obtain⟨af,mf,cf,rfl,-,-,-,-⟩:=ξC (m:=2) (enc:=fmE) (fun _=>rfl) (by omega) ξJ hf
 obtain⟨ag,mg,cg,rfl,-,-,-,-⟩:=ξC (m:=6) (enc:=groE) (fun _=>rfl) (by omega) nilG hg
 have HSM:=ξh (show NetSm n from hsm)
 have HB1:=ξh ((ξb w.heap.size w).alloc (ξr _) (.cells #[.slice a1 m1 c1,.slice a2 m2 c2] 35))
 have HX1:=ξh (ξn w (.cells #[.slice a1 m1 c1,.slice a2 m2 c2] 35))
 clear hnet hf hg hNP r1 r2 hsm
 go_enter Tryz.func40,Tryz.ntmps40
 go_wp2_with fail
 obtain⟨bx,hbx⟩:∃bx,bx=w.heap.size:=⟨_,rfl⟩
 rw[←hbx] at HX1 ⊢
 clear hbx
 generalize w.alloc (.cells #[.slice a1 m1 c1,.slice a2 m2 c2] 35)=w1 at *
 refine(HP.out w1 HB1.out).mono ?_
 rintro e w2 ⟨b2,aw,ms,cs,a,m,c,rfl,hpl,hno⟩
 have HB2:=ξh (HB1.trans (b2.mono HB1.size))
 have HX2:=ξh (ξA HX1.out b2)
 cases hO:ξR n fs gs with
 | none=>
   obtain⟨-,k2⟩:=ξap hO
   have HE:=ξh (⟨by unfold upK;rw[k2];rfl,by unfold upL upK;rw[k2];rfl⟩:upK n fs gs l=false∧upL n fs gs l=[])
   rw[k2]
   clear b2 hpl hO hno k2
   go_wp2
   rw[HNP.out]
   exact⟨.slice none 0 0,by rw[HE.1];rfl,by rw[HE.2];exact Ofr.nil _ _ _,HB2.out⟩
 | some x=>
   obtain⟨ps,r⟩:=x
   have k3:=(ξaf hO).2.2
   rw[k3]
   obtain⟨hg8,-,-⟩:=hpl ps r hO
   obtain⟨hl8,hnok,hlsk⟩:=pls_ok hO
   obtain⟨bs,offs,cc,es,hbs,HPL⟩:=pls_at hg8 hl8 HSM.out
   cases es
   have HLS:=ξh hlsk
   have HNOK:=ξh hnok
   have HU:=ξh (show∀t i,ξT n fs gs t i=((popN (ξU (ps[t]?.getD []) (i:Int)):Nat):Int) from fun t i=>by unfold ξT;rw[hO])
   cases hin:inB l 0 24 with
   | false=>
     have HE:=ξh (⟨by unfold upK;rw[k3,hin];rfl,by unfold upL upK;rw[k3,hin];rfl⟩:upK n fs gs l=false∧upL n fs gs l=[])
     clear b2 hpl hno k3 hg8 hl8 hnok hlsk hO HP hbs
     go_wp2_with (go_at_call 74;refine(ξE _ _ _ _).mono ?_;rintro e w' ⟨rfl,rfl⟩;rw[hin])
     rw[HNP.out]
     exact⟨.slice none 0 0,by rw[HE.1];rfl,by rw[HE.2];exact Ofr.nil _ _ _,HB2.out⟩
   | true=>
     have HE:=ξh (⟨by unfold upK;rw[k3,hin];rfl,by unfold upL upK;rw[k3,hin];rfl⟩:upK n fs gs l=true∧upL n fs gs l=upT n fs gs l n.fs.length)
     clear b2 hpl hno k3 hg8 hl8 hnok hlsk hO HP
     have h14:m2≤14:=by have:=(ξM HNOK.out).2.2.1;have:=HN2.out;omega
     have HUO:=ξh (fun t (ht:t<8) (vp:Value) w' (hp:PlnR w' vp ⟨n,ps[t]?.getD []⟩)=>usedOn_any vp ⟨n,ps[t]?.getD []⟩ w' hp (by show n.fs.length≤1048576;rw[HN2.out];omega) (ξs (HLS.out t ht).1 (by decide)) ((HLS.out t ht).lgo HNOK.out))
     have HUG:=ξh (fun t (ht:t<8) i (hi:i<m2)=>(useL_get (n:=n) (ls:=ps[t]?.getD []) ((HLS.out t ht).lgo HNOK.out) (i:=i) (by rw[HN2.out];exact hi)).trans (HU.out t i).symm)
     have HUL:=ξh (fun(t:Nat)=>show(useL (ξa5 (ps[t]?.getD []) n.fs.length)).length=m2 by rw[useL_len];exact((ξaF (ps[t]?.getD []) _).trans (by simp)).trans HN2.out)
     have HRS:=ξh (show fwR (ξT n fs gs) l m2 8 0=upT n fs gs l n.fs.length by rw[fwR_all,HN2.out])
     generalize ξT n fs gs=U at *
     have HBS:=ξh hbs
     have HB3:=ξh ((ξb w2.heap.size w2).alloc (ξr _) (.cells #[.int .i64 (-1)] 3))
     have HRP:=ξh (repeat_any (.slice (some ⟨w2.heap.size,0,none⟩) 1 1) (-1) m2 (w2.alloc (.cells #[.int .i64 (-1)] 3)) (own_one w2 (-1) 3).rd (by omega))
     have z1:=blkc (ξA HX2.out HB3.out) (j:=1) (u:= .slice a2 m2 c2) rfl
     clear hbs
     go_wp2_with (go_at_call 74;refine(ξE _ _ _ _).mono ?_;rintro e w' ⟨rfl,rfl⟩;rw[hin])
     refine HRP.mono ?_
     rintro e w4 ⟨v4,rfl,o4,b4⟩
     have HB4:=ξh (HB3.trans (b4.mono HB3.size))
     have HO4:=ξh (show Own w4 w2.heap.size v4 (fwR U l m2 0 0) by rw[fwR_zero];exact o4.mono HB3.size)
     clear o4 b4 z1 HRP
     obtain⟨a4,c4,n4,HM4,rfl,-,-,ha4⟩:=HO4.rd.opn
     have hn4:n4=m2:=by have:=HM4.out;rw[ξba] at this;exact this.symm
     rw[hn4] at HO4 ha4 ⊢
     have HA4:=ξh (show 0<m2→ ∃b off,a4=some ⟨b,off,none⟩ from fun h=>by obtain⟨b,off,e,-⟩:=ha4 h;exact⟨b,off,e⟩)
     clear hn4 HM4 ha4
     go_wp2_with fail
     go_loopw [40] (fun i wr=>∃t:Nat,t≤8∧i= .int .i64 t∧Hid (Own wr w2.heap.size (.slice a4 m2 c4) (fwR U l m2 t 0))∧Hid (Below w2.heap.size w2 wr)) (fun i _=>8-(intOf i).toNat)
     case atStart=>exact⟨0,by omega,rfl,HO4.out,HB4.out⟩
     case round=>
      obtain⟨t,ht,rfl,HO,HB⟩:=hrel
      by_cases hlt:t<8
      · have hltI:(t:Int)<8:=by omega
        obtain⟨p1,q1,d1,p2,q2,d2,p3,q3,d3,k0,k1,k2,hpr⟩:=HPL.out t hlt
        have c0:=(HB.cell (p:=⟨bs,offs+t * 3,none⟩) HBS.out).trans k0
        have c1:=(HB.cell (p:=⟨bs,offs+t * 3+1,none⟩) HBS.out).trans k1
        have c2:=(HB.cell (p:=⟨bs,offs+t * 3+2,none⟩) HBS.out).trans k2
        have HPR:=ξh (hpr.behind HB.out)
        clear k0 k1 k2 hpr
        go_upto_region 8 with fail
        have n2':=ξn wr (.cells #[.slice p1 q1 d1,.slice p2 q2 d2,.slice p3 q3 d3] 75)
        have HB5:=ξh ((ξb wr.heap.size wr).alloc (ξr _) (.cells #[.slice p1 q1 d1,.slice p2 q2 d2,.slice p3 q3 d3] 75))
        obtain⟨bq,hbq⟩:∃bq,bq=wr.heap.size:=⟨_,rfl⟩
        rw[←hbq] at n2' ⊢
        clear hbq c0 c1 c2
        generalize wr.alloc (.cells #[.slice p1 q1 d1,.slice p2 q2 d2,.slice p3 q3 d3] 75)=w5 at *
        have y0:=blkc n2' (j:=0) (u:= .slice p1 q1 d1) rfl
        have y1:=blkc n2' (j:=1) (u:= .slice p2 q2 d2) rfl
        have y2:=blkc n2' (j:=2) (u:= .slice p3 q3 d3) rfl
        have HL:=ξh (HUL.out t)
        have HG:=ξh (HUG.out t hlt)
        have HUS:=ξh (HUO.out t hlt _ w5 (HPR.behind HB5.out))
        have HB6:=ξh (HB.trans (HB5.mono HB.size))
        have HO5:=ξh (HO.belowAll HB5.out)
        try dsimp only at HUS
        generalize useL (ξa5 (ps[t]?.getD []) n.fs.length)=L at *
        clear n2'
        go_wp2_with fail
        refine HUS.mono ?_
        rintro e w6 ⟨v6,rfl,o6,b6⟩
        obtain⟨a6,c6,m6,HM6,rfl,hc6,hm6,hcs⟩:=o6.rd.opn
        have hm6':m6=m2:=by rw[←HM6.out];exact HL.out
        rw[hm6'] at hcs o6 ⊢
        have HB7:=ξh (HB6.trans (b6.mono HB6.size))
        have HO7:=ξh (HO5.belowAll b6)
        have HCS:=ξh hcs
        have HLO:=ξh (show∀k,(Value.slice a6 m2 c6).ownBlock=some k→w5.heap.size≤k∧k<w6.heap.size from o6.lt)
        have HGO:=ξh (show∀k,(Value.slice a4 m2 c4).ownBlock=some k→w2.heap.size≤k∧k<w5.heap.size from HO5.lt)
        clear o6 b6 y0 y1 y2 hcs HUS HO HO5 HM6 hm6' hc6 hm6
        go_wp2_with fail
        go_loopw [48] (fun i wq=>∃k:Nat,k≤m2∧i= .int .i64 k∧Hid (Own wq w2.heap.size (.slice a4 m2 c4) (fwR U l m2 t k))∧Hid (Below w2.heap.size w2 wq)∧Hid (∀b,w5.heap.size≤b→b<w6.heap.size→wq.heap[b]?= w6.heap[b]?)) (fun i _=>m2-(intOf i).toNat)
        case atStart=>exact⟨0,by omega,rfl,HO7.out,HB7.out,fun _ _ _=>rfl⟩
        case round=>
         obtain⟨k,hk,rfl,HO,HBK,HKP⟩:=hrel
         by_cases hlk:k<m2
         · have hlkI:(k:Int)<(m2:Int):=by omega
           obtain⟨b,off,rfl,hb6,hcs⟩:=HCS.out (by omega)
           obtain⟨g,og,rfl⟩:=HA4.out (by omega)
           have hgo:=HGO.out g rfl
           have hlo:=HLO.out b rfl
           have c0:=(World.cell?_of_block (w:=w6) (w':=wr) (a:=⟨b,off+k,none⟩) (HKP.out b hlo.1 hlo.2)).trans (hcs k hlk)
           have HGK:=ξh (HG.out k hlk)
           rw[HGK.out] at c0
           have hkl:k<(fwR U l m2 t k).length:=by rw[ξba];exact hlk
           have d0:=(HO.cellAt rfl).2 k hkl
           have fz:=HO.frozenAt rfl (og+k)
           have HST:=ξh (HO.stored rfl k hkl (t:Int))
           have HYES:=ξh (fun(h1:l<U t k) (h2:(fwR U l m2 t k)[k]?.getD 0<0)=>fwR_set (U:=U) (l:=l) hlk h1 h2)
           have HNO:=ξh (fun(h1:¬(l<U t k∧(fwR U l m2 t k)[k]?.getD 0<0))=>fwR_same (U:=U) (l:=l) hlk h1)
           generalize U t k=u at *
           generalize fwR U l m2 t k=X at *
           generalize X[k]?.getD 0=r at *
           clear hcs hb6
           by_cases hgt:l<u
           · have hgd:decide (u>l)=true:=ξt hgt
             by_cases hr0:r<0
             · have hrd:decide (r<0)=true:=ξt hr0
               have HY:=ξh (HYES.out hgt hr0)
               go_wp2_with fail
               have HO9:=ξh HST.1
               have HB9:=ξh (HBK.grown HST.2 HBK.size (fun q hq=>by have:g=q:=ξo hq;have:=hgo.1;omega))
               have HK9:=ξh (show∀b,w5.heap.size≤b→b<w6.heap.size→(wr.setCell ⟨g,og+k,none⟩ (.int .i64 (t:Int))).heap[b]?= w6.heap[b]? from fun b h1 h2=>(ξm wr ⟨g,og+k,none⟩ b _ (by show b≠g;have:=hgo.2;omega)).trans (HKP.out b h1 h2))
               rw[HY.out] at HO9
               generalize wr.setCell ⟨g,og+k,none⟩ (.int .i64 (t:Int))=w9 at *
               clear c0 d0 fz
               go_wp2_with fail
               go_roundw
               case rel=>exact⟨k+1,by omega,by go_num,HO9.out,HB9.out,HK9.out⟩
               case measure=>simp[intOf];omega
             · have hrd:decide (r<0)=false:=ξf hr0
               have HN:=ξh (HNO.out (fun e=>hr0 e.2))
               go_wp2_with fail
               go_roundw
               case rel=>exact⟨k+1,by omega,by go_num,by rw[←HN.out];exact HO.out,HBK.out,HKP.out⟩
               case measure=>simp[intOf];omega
           · have hgd:decide (u>l)=false:=ξf hgt
             have HN:=ξh (HNO.out (fun e=>hgt e.1))
             go_wp2_with fail
             go_roundw
             case rel=>exact⟨k+1,by omega,by go_num,by rw[←HN.out];exact HO.out,HBK.out,HKP.out⟩
             case measure=>simp[intOf];omega
         · have hlkI:¬(k:Int)<(m2:Int):=by omega
           obtain rfl:k=m2:=by omega
           have HO9:=ξh HO.out
           rw[fwR_next] at HO9
           go_wp2_with fail
           go_roundw
           case rel=>exact⟨t+1,by omega,by go_num,HO9.out,HBK.out⟩
           case measure=>simp[intOf];omega
      · obtain rfl:t=8:=by omega
        have HOF:=ξh (HO.mono (show w.heap.size≤w2.heap.size from HB2.size))
        rw[HRS.out] at HOF
        go_wp2_with fail
        rw[HNP.out]
        exact⟨_,by rw[HE.1];rfl,by rw[HE.2];exact HOF.ofr,HB2.trans (HB.mono HB2.size)⟩
theorem Mv.grown8 {w w6 w8:World} {bo:Nat} {row:Option Nat} (h:Mv (QQ bo) (QQ bo) w w6) (g:w6.grownBy w8 row) (hr:∀q,row=some q→q=bo∨w.heap.size≤q):Mv (QQ bo) (QQ bo) w w8:=
 ⟨g.os.trans h.os,g.tape.trans h.tape,g.output.trans h.output,ξs h.size g.size,fun k hk hn=>(g.block k (ξq hk h.size) (fun e=>by
  rcases hr k e.symm with h1 | h1
  · exact hn h1
  · omega)).trans (h.block k hk hn),fun k hk=> .inl hk⟩
end Go.Proofs.YtofcicomhnkocaaGreat
