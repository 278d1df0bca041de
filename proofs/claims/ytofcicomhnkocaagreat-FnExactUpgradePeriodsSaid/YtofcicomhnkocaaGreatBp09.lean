/- Joined: XVst XHld XRtb XChs XLgt XVpl XSus XSpd XCerP XDrd XDrf. -/
import Derived.Test.YtofcicomhnkocaaGreatBp08
import Derived.Test.YtofcicomhnkocaaGreatBp01
import Derived.Deep.RegionHeld3
import Derived.Test.YtofcicomhnkocaaGreatBp07
import Derived.Test.YtofcicomhnkocaaGreatBp02
import Derived.Maps.AppendAt
import Derived.Test.YtofcicomhnkocaaGreatBp06
import Derived.Deep.RegionLaw
import Derived.Test.YtofcicomhnkocaaGreatBp04
import Derived.Lib.QuietBelow
import Derived.StillTailTactics
import Derived.Test.YtofcicomhnkocaaGreatBp03
set_option linter.unusedVariables false
namespace Go.Proofs.YtofcicomhnkocaaGreat
set_option maxHeartbeats 3200000
open Go.RowKit Go.Sort
set_option maxRecDepth 100000
structure Mv (T T':Nat→Prop) (w w':World):Prop where
 os:w'.os=w.os
 tape:w'.tape=w.tape
 output:w'.output=w.output
 size:w.heap.size≤w'.heap.size
 block:∀g,g<w.heap.size→ ¬T g→w'.heap[g]?= w.heap[g]?
 old:∀g,T' g→T g∨w.heap.size≤g
theorem Mv.refl (T:Nat→Prop) (w:World):Mv T T w w:=⟨rfl,rfl,rfl,Nat.le_refl _,fun _ _ _=>rfl,fun _ h=> .inl h⟩
theorem Mv.trans {T T' T'':Nat→Prop} {a b c:World} (h:Mv T T' a b) (k:Mv T' T'' b c):Mv T T'' a c:=
 ⟨k.os.trans h.os,k.tape.trans h.tape,k.output.trans h.output,Nat.le_trans h.size k.size,fun g hg hn=>by
  rw[k.block g (Nat.lt_of_lt_of_le hg h.size) (fun e=>(h.old g e).elim hn (fun e=>by omega)),h.block g hg hn],fun g hg=>by
  rcases k.old g hg with e | e
  · exact h.old g e
  · exact .inr (Nat.le_trans h.size e)⟩
theorem Mv.of_below {T:Nat→Prop} {a b:World} (h:Below a.heap.size a b):Mv T T a b:=⟨h.os,h.tape,h.output,h.size,fun k hk _=>h.block k hk,fun _ h=> .inl h⟩
theorem Mv.below {T T':Nat→Prop} {a b u:World} {N:Nat} (h:Mv T T' a b) (hb:Below N u a) (hN:N≤a.heap.size) (hT:∀g,T g→N≤g):Below N u b:=
 ⟨h.os.trans hb.os,h.tape.trans hb.tape,h.output.trans hb.output,Nat.le_trans hb.size h.size,fun k hk=>by rw[h.block k (Nat.lt_of_lt_of_le hk hN) (fun e=>by have:=hT k e;omega),hb.block k hk]⟩
theorem ints_get {ys:List Int} {j:Nat} {v:Value} (h:(ints ys)[j]?= some v):j<ys.length∧v= .int .i64 (ys[j]?.getD 0):=by
 have hj:j<ys.length:=by
  have:=(List.getElem?_eq_some_iff.1 h).1
  simpa using this
 refine⟨hj,?_⟩
 simp only[ints,List.getElem?_map,List.getElem?_eq_getElem hj,Option.map_some,Option.some.injEq] at h
 simp[List.getElem?_eq_getElem hj,h.symm]
theorem full_ok {w:World} {v:Value} {xs:List Int} (h:Rd w v xs):∃a cap,v= .slice a xs.length cap∧xs.length≤cap∧(a=none→xs.length=0∧cap=0)∧ ∀b,a=some b→ ∀j u,(ints xs)[j]?= some u→w.cell? (b.add j)=some u:=by
 rcases h with ⟨rfl,rfl⟩ | ⟨b,off,cap,rfl,h1,h2,h3,h4⟩
 · exact⟨none,0,rfl,by simp,by simp,by simp⟩
 · refine⟨_,cap,rfl,h1,by simp,fun b' hb j u hu=> ?_⟩
   simp only[Option.some.injEq] at hb
   subst hb
   obtain⟨hj,rfl⟩:=ints_get hu
   rw[show(⟨b,off,none⟩:Addr).add j=⟨b,off+j,none⟩ by simp[Addr.add]]
   exact h4 j hj
theorem full_opn {w:World} {v:Value} {xs:List Int} (h:Rd w v xs):∃a cap n,Hid (xs.length=n)∧v= .slice a n cap∧n≤cap∧(a=none→n=0∧cap=0):=by
 obtain⟨a,cap,hv,h1,h2,_⟩:=full_ok h
 exact⟨a,cap,xs.length,rfl,hv,h1,h2⟩
theorem Rd.cellsOf {w:World} {a:Option Addr} {n cap:Nat} {xs:List Int} (h:Rd w (.slice a n cap) xs):∀b,a=some b→ ∀j u,(ints xs)[j]?= some u→w.cell? (b.add j)=some u:=by
 obtain⟨a',cap',hv,_,_,h4⟩:=full_ok h
 simp only[Value.slice.injEq] at hv
 obtain⟨rfl,_,_⟩:=hv
 exact h4
open Go.RowKit
section
variable {P : Program} {ops : Array Oper} {Q : Exit → Act → World → Prop} {md : Region.Mode} {S : World → Prop} {U : List Nat}
def lft (U:List Nat) (listed:Array Bool):Bool:=U.any fun k=>!listed.getD k true
def waits (md:Region.Mode) (ops:Array Oper) (U:List Nat) (listed:Array Bool) (i:Nat):Bool:=U.any fun m=>!listed.getD m true&&m != i&&((ops[m]?).map (·.after.any fun e=>Region.binds md e&&e.on==i)).getD false
theorem lft_of {listed:Array Bool} {m:Nat} (hm:m∈U) (hl:listed.getD m true=false):lft U listed=true:=by
 unfold lft
 exact List.any_eq_true.2 ⟨m,hm,by rw[hl];rfl⟩
theorem waits_iff {listed:Array Bool} {i:Nat} :waits md ops U listed i=true↔ ∃m om,m∈U∧ops[m]?= some om∧m≠i∧listed.getD m true=false∧ ∃e∈om.after,Region.binds md e=true∧e.on=i:=by
 unfold waits
 rw[List.any_eq_true]
 constructor
 · rintro⟨m,h1,h2⟩
   simp only[Bool.and_eq_true,Bool.not_eq_true',bne_iff_ne,ne_eq] at h2
   obtain⟨⟨h3,h4⟩,h5⟩:=h2
   cases ho:ops[m]? with
   | none=>rw[ho] at h5;cases h5
   | some om=>
     rw[ho] at h5
     obtain⟨e,he,hb⟩:=Array.any_eq_true'.1 (show om.after.any (fun e=>Region.binds md e&&e.on==i)=true from h5)
     simp only[Bool.and_eq_true,beq_iff_eq] at hb
     exact⟨m,om,h1,ho,h4,h3,e,he,hb.1,hb.2⟩
 · rintro⟨m,om,h1,ho,h4,h3,e,he,hb1,hb2⟩
   refine⟨m,h1,?_⟩
   simp only[Bool.and_eq_true,Bool.not_eq_true',bne_iff_ne,ne_eq]
   refine⟨⟨h3,h4⟩,?_⟩
   rw[ho]
   show om.after.any (fun e=>Region.binds md e&&e.on==i)=true
   exact Array.any_eq_true'.2 ⟨e,he,by simp[hb1,hb2]⟩
def wpAnyL (P:Program) (md:Region.Mode) (ops:Array Oper) (U:List Nat) (Q:Exit→Act→World→Prop) (S:World→Prop):Nat→Array Bool→Act→World→Prop
 | 0,listed,a,w=>Region.ready md ops listed=[]∧Q .normal a w
 | fuel+1,listed,a,w=>
   (Region.ready md ops listed=[]→Q .normal a w)∧
   ∀i∈Region.ready md ops listed,wpOp P ops Q i (fun a' w'=>(lft U (listed.setIfInBounds i true)=true→S w')∧wpAnyL P md ops U Q S fuel (listed.setIfInBounds i true) a' w') a w
theorem wpAny_of_L:∀(fuel:Nat) (listed:Array Bool) (a:Act) (w:World),wpAnyL P md ops U Q S fuel listed a w→wpAny P md ops Q fuel listed a w
 | 0,_,_,_,h=>h
 | fuel+1,_,_,_,h=>⟨h.1,fun i hi=>wpOp_mono (fun a' w' h'=>wpAny_of_L fuel _ a' w' h'.2) (h.2 i hi)⟩
theorem wpAnyL_first {i:Nat} {oi:Oper} {v:Value} (hi:ops[i]?= some oi) (hsel:∀(j:Nat) (o:Oper) cs b,ops[j]?= some o→o.op≠ .select cs b)
 (hQ:∀c a w,Q (.panic c) (a.put oi.dst v) w→Q (.panic c) a w):
 ∀(fuel:Nat) (listed:Array Bool) (a:Act) (w:World),
  (∀j oj,ops[j]?= some oj→j≠i→listed.getD j true=false→(∀e∈oj.after,Region.binds md e=true→e.on≠i)→oi.apart ops oj=true)→
  i∈Region.ready md ops listed→waits md ops U listed i=true→YieldsIf P ops S oi v a→S w→
  wpAnyL P md ops U Q S fuel (listed.setIfInBounds i true) (a.put oi.dst v) w→wpAnyL P md ops U Q S (fuel+1) listed a w:=by
 intro fuel
 induction fuel with
 | zero=>
   intro listed a w _ hr _ hy hS H
   refine⟨fun h=>(by rw[h] at hr;cases hr),fun j hj=> ?_⟩
   by_cases hji:j=i
   · subst hji;exact hy.wpOp hi hS ⟨fun _=>hS,H⟩
   · have:=ready_mono hj hji
     rw[H.1] at this
     cases this
 | succ fuel ih=>
   intro listed a w hfree hr hwt hy hS H
   refine⟨fun h=>(by rw[h] at hr;cases hr),fun j hj=> ?_⟩
   by_cases hji:j=i
   · subst hji;exact hy.wpOp hi hS ⟨fun _=>hS,H⟩
   · have h1:=H.2 j (ready_mono hj hji)
     obtain⟨hjun,oj,hoj,hall⟩:=mem_ready.1 hj
     have hnot:∀e∈oj.after,Region.binds md e=true→e.on≠i:=fun e he hb heq=>by
      have h1:=hall e he hb
      have h0:=(mem_ready.1 hr).1
      rw[heq] at h1
      rcases Nat.lt_or_ge i listed.size with h' | h'
      · simp[h'] at h0 h1;rw[h0] at h1;cases h1
      · simp[Array.getElem?_eq_none h'] at h1
     have h2:=wpOp_putIf hoj (hfree j oj hoj hji hjun hnot) (fun cs b=>hsel i oi cs b hi) (fun cs b=>hsel j oj cs b hoj) hQ hy h1
     have hfree':∀k ok,ops[k]?= some ok→k≠i→(listed.setIfInBounds j true).getD k true=false→
      (∀e∈ok.after,Region.binds md e=true→e.on≠i)→oi.apart ops ok=true:=fun k ok hk hki hun hno=>by
      refine hfree k ok hk hki ?_ hno
      by_cases hjk:j=k
      · subst hjk;exact hjun
      · rw[getD_set_ne true hjk] at hun;exact hun
     obtain⟨m,om,hmU,hom,hmi,hml,e,he,hb1,hb2⟩:=waits_iff.1 hwt
     have hmj:j≠m:=fun h=>by
      subst h
      rw[hoj] at hom
      cases hom
      exact hnot e he hb1 hb2
     have hml2:(listed.setIfInBounds j true).getD m true=false:=by rw[getD_set_ne true hmj];exact hml
     have hwt2:waits md ops U (listed.setIfInBounds j true) i=true:=waits_iff.2 ⟨m,om,hmU,hom,hmi,hml2,e,he,hb1,hb2⟩
     have hl2:lft U ((listed.setIfInBounds i true).setIfInBounds j true)=true:=
      lft_of hmU (by rw[getD_set_ne true hmj,getD_set_ne true (Ne.symm hmi)];exact hml)
     refine wpOp_mono (fun a' w' h3=>⟨fun _=>h3.2.1 hl2,ih (listed.setIfInBounds j true) a' w' hfree' (ready_mono hr (Ne.symm hji)) hwt2 h3.1 (h3.2.1 hl2) ?_⟩) h2
     rw[Array.setIfInBounds_comm _ _ hji]
     exact h3.2.2
theorem get_of_drop {i:Nat} {o:Oper} {tl:List Oper} (h:ops.toList.drop i=o::tl):ops[i]?= some o:=by
 have:(ops.toList.drop i)[0]?= some o:=by rw[h];rfl
 rw[List.getElem?_drop,Nat.add_zero] at this
 simpa using this
theorem hlTake (i:Nat) {oi:Oper} {v:Value} {fuel:Nat} {listed:Array Bool} {a:Act} {w:World} {tl:List Oper} (hi:ops.toList.drop i=oi::tl)
 (hs:Region.noSelect ops=true) (hf:Region.free md ops listed i=true) (hr:(Region.ready md ops listed).contains i=true) (hwt:waits md ops U listed i=true)
 (hQ:∀c a w,Q (.panic c) (a.put oi.dst v) w→Q (.panic c) a w) (hw:Region.wanted oi (yielded ops a.tmps)=true) (hy:∀w,S w→(execOp a.eval oi).run P w= .ok (.value v) w) (hS:S w)
 (h:wpAnyL P md ops U Q S fuel (listed.setIfInBounds i true) (a.put oi.dst v) w):wpAnyL P md ops U Q S (fuel+1) listed a w:=
 wpAnyL_first (get_of_drop hi) (Region.noSelect_spec hs) hQ fuel listed a w (Region.free_spec (get_of_drop hi) hf) (by simpa using hr) hwt (.inl ⟨hw,hy⟩) hS h
def AllReadyL (P:Program) (md:Region.Mode) (ops:Array Oper) (U:List Nat) (Q:Exit→Act→World→Prop) (S:World→Prop) (fuel:Nat) (listed:Array Bool) (a:Act) (w:World) (rs:List Nat):Prop:=
 ∀i∈rs,wpOp P ops Q i (fun a' w'=>(lft U (listed.setIfInBounds i true)=true→S w')∧wpAnyL P md ops U Q S fuel (listed.setIfInBounds i true) a' w') a w
theorem AllReadyL.nil {fuel:Nat} {listed:Array Bool} {a:Act} {w:World} :AllReadyL P md ops U Q S fuel listed a w []:=fun _ h=>by cases h
theorem AllReadyL.cons {fuel:Nat} {listed:Array Bool} {a:Act} {w:World} {i:Nat} {o:Oper} {rs:List Nat} {tl:List Oper} (ho:ops.toList.drop i=o::tl)
 (h:∀K':Act→World→Prop,Shut (∀a w,S w→(S w→wpAnyL P md ops U Q S fuel (listed.setIfInBounds i true) a w)→K' a w)→if Region.wanted o (yielded ops a.tmps)=true then Oper.wp P o a w K' Q else K' (a.put o.dst undef) w)
 (hs:AllReadyL P md ops U Q S fuel listed a w rs):AllReadyL P md ops U Q S fuel listed a w (i::rs):=fun j hj=>by
 rcases List.mem_cons.1 hj with rfl | hj
 · exact wpOp_step (get_of_drop ho) (fun K' hK=>h K' (fun a w hS hW=>hK a w ⟨fun _=>hS,hW hS⟩))
 · exact hs j hj
theorem hlReady {rs:List Nat} {fuel:Nat} {listed:Array Bool} {a:Act} {w:World} (hr:Region.ready md ops listed=rs) (hne:rs≠[])
 (h:AllReadyL P md ops U Q S fuel listed a w rs):wpAnyL P md ops U Q S (fuel+1) listed a w:=
 ⟨fun h0=>absurd (hr▸h0) hne,hr▸h⟩
theorem hlStep (i:Nat) {fuel:Nat} {listed:Array Bool} {a:Act} {w:World} {o:Oper} {tl:List Oper} (ho:ops.toList.drop i=o::tl) (hr:Region.ready md ops listed=[i]) (hl:lft U (listed.setIfInBounds i true)=false)
 (h:∀K':Act→World→Prop,Shut (∀a w,wpAnyL P md ops U Q S fuel (listed.setIfInBounds i true) a w→K' a w)→if Region.wanted o (yielded ops a.tmps)=true then Oper.wp P o a w K' Q else K' (a.put o.dst undef) w):wpAnyL P md ops U Q S (fuel+1) listed a w:=
 hlReady hr (by simp) fun j hj=>by
  obtain rfl:j=i:=by simpa using hj
  exact wpOp_step (get_of_drop ho) (fun K' hK=>h K' (fun a w hW=>hK a w ⟨fun h=>(by rw[hl] at h;cases h),hW⟩))
theorem hlDone {listed:Array Bool} {a:Act} {w:World} (hr:Region.ready md ops listed=[]) (h:Q .normal a w):∀fuel,wpAnyL P md ops U Q S fuel listed a w
 | 0=>⟨hr,h⟩
 | _+1=>⟨fun _=>h,by rw[hr];simp⟩
theorem wp_region_L (U:List Nat) {id:Nat} {a:Act} {w:World} (hm:P.follows .mixedOrders=true) (hS:S w.drew)
 (h:S w.drew→wpAnyL P .any ops U Q S ops.size (Array.replicate ops.size false) a w.drew):(Code.region id ops true).wp P Q a w:=
 wp_region_any hm (wpAny_of_L _ _ _ _ (h hS))
end
theorem Rd.keptM {w w':World} {v:Value} {xs:List Int} {T T':Nat→Prop} (h:Rd w v xs) (hm:Mv T T' w w') (hT:∀g,v.ownBlock=some g→ ¬T g):Rd w' v xs:=by
 rcases h with h | ⟨b,off,cap,rfl,h1,h2,h3,h4⟩
 · exact .inl h
 · refine .inr ⟨b,off,cap,rfl,h1,h2,Nat.lt_of_lt_of_le h3 hm.size,fun j hj=> ?_⟩
   rw[World.cell?_of_block (w:=w) (hm.block b h3 (hT b rfl))];exact h4 j hj
theorem Rd.lt {w:World} {v:Value} {xs:List Int} (h:Rd w v xs):∀g,v.ownBlock=some g→g<w.heap.size:=fun g hg=>by
 rcases h with ⟨rfl,_⟩ | ⟨b,off,cap,rfl,h1,h2,h3,h4⟩
 · cases hg
 · have:b=g:=by simpa[Value.ownBlock] using hg
   subst this;exact h3
def rcs (st:Int) (ps:List (List Int × Value)):List Value:=ps.flatMap fun p=>[.int .i64 st,p.2]
theorem rcs_app (st:Int) (ps qs:List (List Int × Value)):rcs st (ps++qs)=rcs st ps++rcs st qs:=by unfold rcs;rw[List.flatMap_append]
def TQ (q1:Nat) (v:Value):Nat→Prop:=fun g=>g=q1∨v.ownBlock=some g
structure RbE (w:World) (q0 q1 q2 q3 q4:Nat) (fr tn:Int) (u1 u2:Value):Prop where
 c0:w.cell? ⟨q0,0,none⟩=some (.int .i64 tn)
 c2:w.cell? ⟨q2,0,none⟩=some (.int .i64 fr)
 c3:w.cell? ⟨q3,0,none⟩=some u1
 c5:w.cell? ⟨q3,1,none⟩=some u2
 c4:w.cell? ⟨q4,0,none⟩=some (.func (.func 238) #[] #[ptr q0,ptr q1,ptr q2,ptr q3,ptr q4])
structure RbS (w:World) (base q0 q1 q2 q3 q4:Nat) (st:Int) (v:Value) (ps:List (List Int × Value)):Prop where
 box:w.heap[q1]?= some (.cells #[v] 176 (0,0))
 row:w.ownsRow base 82 2 v ps.length (rcs st ps)
 els:∀p∈ps,Rd w p.2 p.1∧ ∀g,p.2.ownBlock=some g→ ¬TQ q1 v g
 vq:∀g,v.ownBlock=some g→g≠q0∧g≠q1∧g≠q2∧g≠q3∧g≠q4
 some_:v.ownBlock≠none
theorem RbE.mv {w w':World} {q0 q1 q2 q3 q4:Nat} {fr tn:Int} {u1 u2 v:Value} {T':Nat→Prop} (h:RbE w q0 q1 q2 q3 q4 fr tn u1 u2) (hm:Mv (TQ q1 v) T' w w') (hv:∀g,v.ownBlock=some g→g≠q0∧g≠q1∧g≠q2∧g≠q3∧g≠q4) (hd:q0≠q1∧q2≠q1∧q3≠q1∧q4≠q1):
 RbE w' q0 q1 q2 q3 q4 fr tn u1 u2:=by
 have key:∀(q j:Nat) (u:Value),q≠q1→(∀g,v.ownBlock=some g→g≠q)→w.cell? ⟨q,j,none⟩=some u→w'.cell? ⟨q,j,none⟩=some u:=fun q j u h1 h2 hc=>by
  rw[World.cell?_of_block (w:=w) (hm.block q (World.block_lt_of_cell? _ _ hc) (fun e=>e.elim h1 (fun e=>h2 q e rfl)))];exact hc
 exact⟨key _ _ _ hd.1 (fun g e=>(hv g e).1) h.c0,key _ _ _ hd.2.1 (fun g e=>(hv g e).2.2.1) h.c2,key _ _ _ hd.2.2.1 (fun g e=>(hv g e).2.2.2.1) h.c3,key _ _ _ hd.2.2.1 (fun g e=>(hv g e).2.2.2.1) h.c5,key _ _ _ hd.2.2.2 (fun g e=>(hv g e).2.2.2.2) h.c4⟩
theorem RbE.below {w w':World} {q0 q1 q2 q3 q4:Nat} {fr tn:Int} {u1 u2:Value} (h:RbE w q0 q1 q2 q3 q4 fr tn u1 u2) (hb:Below w.heap.size w w'):RbE w' q0 q1 q2 q3 q4 fr tn u1 u2:=by
 have key:∀(q j:Nat) (u:Value),w.cell? ⟨q,j,none⟩=some u→w'.cell? ⟨q,j,none⟩=some u:=fun q j u hc=>by
  rw[hb.cell (p:=⟨q,j,none⟩) (World.block_lt_of_cell? _ _ hc)];exact hc
 exact⟨key _ _ _ h.c0,key _ _ _ h.c2,key _ _ _ h.c3,key _ _ _ h.c5,key _ _ _ h.c4⟩
theorem owr_below {w w':World} {base n m:Nat} {T:TypeId} {v:Value} {us:List Value} (h:w.ownsRow base T m v n us) (hb:Below w.heap.size w w'):w'.ownsRow base T m v n us:=
 ⟨h.1,h.2.imp id fun⟨g,cap,cur,k1,k2,k3,k4⟩=>⟨g,cap,cur,k1,k2,by rw[hb.block g (Array.getElem?_eq_some_iff.1 k3).1];exact k3,k4⟩⟩
theorem RbS.below {w w':World} {base q0 q1 q2 q3 q4:Nat} {st:Int} {v:Value} {ps:List (List Int × Value)} (h:RbS w base q0 q1 q2 q3 q4 st v ps) (hb:Below w.heap.size w w'):RbS w' base q0 q1 q2 q3 q4 st v ps:=
 ⟨by rw[hb.block q1 (Array.getElem?_eq_some_iff.1 h.box).1];exact h.box,owr_below h.row hb,fun p hp=>⟨(h.els p hp).1.belowAll hb,(h.els p hp).2⟩,h.vq,h.some_⟩
theorem RbS.push {w W2 W3:World} {base q0 q1 q2 q3 q4 lo:Nat} {st:Int} {v v' vc:Value} {ps:List (List Int × Value)} {fb:List Int} (h:RbS w base q0 q1 q2 q3 q4 st v ps) (hq:q0<w.heap.size∧q2<w.heap.size∧q3<w.heap.size∧q4<w.heap.size) (hb:Below w.heap.size w W2)
 (hr:W3.ownsRow base 82 2 v' (ps.length+1) (rcs st ps++[.int .i64 st,vc])) (hg:W2.grownBy W3 v.ownBlock) (hl:v'.ownBlock=v.ownBlock∨v'.ownBlock=some W2.heap.size) (hc:Own W2 lo vc fb) (hlo:w.heap.size≤lo):
 RbS (W3.setCell ⟨q1,0,none⟩ v') base q0 q1 q2 q3 q4 st v' (ps++[(fb,vc)])∧Mv (TQ q1 v) (TQ q1 v') w (W3.setCell ⟨q1,0,none⟩ v'):=by
 have hq1:q1<w.heap.size:=(Array.getElem?_eq_some_iff.1 h.box).1
 have hv1:∀g,v.ownBlock=some g→g<w.heap.size:=fun g e=>(h.row.lt g e).2
 have hs2:=hb.size
 have hs3:=hg.size
 have hne:∀g,v'.ownBlock=some g→g≠q0∧g≠q1∧g≠q2∧g≠q3∧g≠q4:=fun g e=>by
  rcases hl with hl | hl
  · exact h.vq g (hl▸e)
  · rw[hl] at e
    have:=Option.some.inj e
    omega
 have hset:∀g,g≠q1→(W3.setCell ⟨q1,0,none⟩ v').heap[g]?= W3.heap[g]?:=fun g hg=>heap_setCell_other W3 ⟨q1,0,none⟩ g v' hg
 have hbox3:W3.heap[q1]?= some (.cells #[v] 176 (0,0)):=by
  rw[hg.block q1 (by omega) (fun e=>(h.vq q1 e.symm).2.1 rfl),hb.block q1 hq1];exact h.box
 have hold:∀g,g<w.heap.size→ ¬TQ q1 v g→(W3.setCell ⟨q1,0,none⟩ v').heap[g]?= w.heap[g]?:=fun g h1 h2=>by
  rw[hset g (fun e=>h2 (.inl e)),hg.block g (by omega) (fun e=>h2 (.inr e.symm)),hb.block g h1]
 have hMv:Mv (TQ q1 v) (TQ q1 v') w (W3.setCell ⟨q1,0,none⟩ v'):=by
  refine⟨?_,?_,?_,?_,hold,fun g e=> ?_⟩
  · show W3.os=_;rw[hg.os,hb.os]
  · show W3.tape=_;rw[hg.tape,hb.tape]
  · show W3.output=_;rw[hg.output,hb.output]
  · show _≤(W3.setCell ⟨q1,0,none⟩ v').heap.size
    simp;omega
  · rcases e with e | e
    · exact .inl (.inl e)
    · rcases hl with hl | hl
      · exact .inl (.inr (hl▸e))
      · rw[hl] at e
        have:=Option.some.inj e
        right;omega
 have hlen:(ps++[(fb,vc)]).length=ps.length+1:=by simp
 refine⟨⟨?_,?_,fun p hp=> ?_,hne,(by rcases hl with hl | hl <;> rw[hl];exact h.some_;simp)⟩,hMv⟩
 · have:=heap_setCell_same W3 q1 0 #[v] 176 v' hbox3
   simpa using this
 · rw[hlen,rcs_app]
   refine⟨hr.1,hr.2.imp id fun⟨g,cap,cur,k1,k2,k3,k4⟩=>⟨g,cap,cur,k1,k2,?_,k4⟩⟩
   rw[hset g (hne g (by rw[k1];rfl)).2.1];exact k3
 · rcases List.mem_append.1 hp with hp | hp
   · obtain⟨e1,e2⟩:=h.els p hp
     refine⟨e1.keptM hMv e2,fun g e3 e4=> ?_⟩
     rcases hMv.old g e4 with e5 | e5
     · exact e2 g e3 e5
     · have:=e1.lt g e3;omega
   · obtain rfl:=List.mem_singleton.1 hp
     have hcl:∀g,vc.ownBlock=some g→w.heap.size≤g∧g<W2.heap.size:=fun g e=>by
      have:=hc.lt g e;omega
     have hm2:Mv (TQ q1 v) (TQ q1 v') W2 (W3.setCell ⟨q1,0,none⟩ v'):=⟨hg.os,hg.tape,hg.output,(by simp;omega),fun g h1 h2=>by rw[hset g (fun e=>h2 (.inl e)),hg.block g h1 (fun e=>h2 (.inr e.symm))],fun g e=>by
      rcases e with e | e
      · exact .inl (.inl e)
      · rcases hl with hl | hl
        · exact .inl (.inr (hl▸e))
        · rw[hl] at e
          have:=Option.some.inj e
          right;omega⟩
     refine⟨hc.rd.keptM hm2 (fun g e3 e4=> ?_),fun g e3 e4=> ?_⟩
     · have h1:=hcl g e3
       rcases e4 with e4 | e4
       · omega
       · have:=hv1 g e4;omega
     · have h1:=hcl g e3
       rcases e4 with e4 | e4
       · omega
       · rcases hl with hl | hl
         · rw[hl] at e4;have:=hv1 g e4;omega
         · rw[hl] at e4;have:=Option.some.inj e4;omega
theorem rowf {w:World} {base n:Nat} {T:TypeId} {v:Value} {us:List Value} {m:Nat} (h:w.ownsRow base T m v n us):∃a c,v= .slice a n c:=by
 rcases h.2 with ⟨rfl,rfl⟩ | ⟨g,cap,cur,rfl,_⟩
 · exact⟨none,0,rfl⟩
 · exact⟨_,cap,rfl⟩
theorem new_cells {w:World} {us:List Value} {T:TypeId} :∀ad:Addr,(some ⟨w.heap.size,0,none⟩:Option Addr)=some ad→ ∀j u,us[j]?= some u→(w.alloc (.cells us.toArray T)).cell? (ad.add j)=some u:=fun ad e j u hu=>by
 cases e
 rw[addr_add,cell_of_row _ _ _ _ _ _ (heap_alloc_new w _),Nat.zero_add]
 simpa using hu
theorem own_slice {w:World} {base:Nat} {v:Value} {xs:List Int} (h:Own w base v xs):∃a m c,v= .slice a m c:=by
 obtain⟨a,c,m,-,e,-⟩:=h.rd.opn
 exact⟨a,m,c,e⟩
theorem Tryz.infoRou:(Tryz.prog.info? 82).map (fun i=>(i.zero,i.size,i.bytes))=some (some (.agg #[.int .i64 0,.slice none 0 0]),2,32):=by kernel_rfl
theorem extR_bd {n:Net} (hf:n.fs.length≤14) {tn:Int} :∀(f:Nat) (t:Int) (seen fb:List Int),(extR n tn f t seen fb).length≤14 ^ f
 | 0,_,_,_=>by simp[extR]
 | f+1,t,seen,fb=>by
   have h1:1≤14 ^ (f+1):=Nat.pow_le_pow_right (n:=14) (by omega) (Nat.zero_le (f+1))
   rw[extR]
   split
   · simpa using h1
   · rw[List.length_flatMap]
     have key:∀(l:List Nat),(List.map (fun i=>(if 0≤othE (fbA n i) t∧othE (fbA n i) t ∉ seen then extR n tn f (othE (fbA n i) t) (seen++[othE (fbA n i) t]) (fb++[(i:Int)]) else[]).length) l).sum≤l.length*14 ^ f:=by
      intro l
      induction l with
      | nil=>simp
      | cons i l ih=>
        rw[List.map_cons,List.sum_cons,List.length_cons,Nat.add_mul,Nat.one_mul]
        have:(if 0≤othE (fbA n i) t∧othE (fbA n i) t ∉ seen then extR n tn f (othE (fbA n i) t) (seen++[othE (fbA n i) t]) (fb++[(i:Int)]) else[]).length≤14 ^ f:=by
         split
         · exact extR_bd hf f _ _ _
         · simp
        omega
     refine Nat.le_trans (key _) ?_
     rw[List.length_range,Nat.pow_succ,Nat.mul_comm (14 ^ f)]
     exact Nat.mul_le_mul_right _ hf
theorem l1OwnE_any (v:Value) (xs:List Int) (w:World) (h:Rd w v xs) (hl:xs.length≤900000):
 Calls Tryz.prog 187 #[v] w fun e w'=>∃v',e= .returned v'∧w'.ownsRow w.heap.size 3 1 v' xs.length (ints xs)∧Below w.heap.size w w':=by
 have hb0:=((Below.refl w.heap.size w).alloc (Nat.le_refl _) (.cells #[] 3))
 have HOWN0:=Lib.hid (World.ownsRow_lit (base:=w.heap.size) (e:=3) (size:=1) w #[] 0 (Nat.le_refl _) (by simp) rfl)
 have hrd:=h.belowAll hb0
 obtain⟨a,cap,n,HN,rfl,hcap,hnone⟩:=full_opn h
 obtain⟨a',cap',n',HN',e,_,_,hc⟩:=hrd.opn
 simp only[Value.slice.injEq] at e
 obtain⟨rfl,rfl,rfl⟩:=e
 have HC:=Lib.hid (fun h0=>by
  obtain⟨b,off,e1,e2,e3⟩:=hc h0
  exact(⟨b,off,e1,e3⟩:∃b off,a=some ⟨b,off,none⟩∧ ∀j,j<n→(w.alloc (.cells #[] 3)).cell? ⟨b,off+j,none⟩=some (.int .i64 (xs[j]?.getD 0))))
 have HNO:=Lib.hid hnone
 have HB0:=Lib.hid hb0
 have hn:n≤900000:=by have:=HN.out;omega
 rw[HN.out]
 clear hc hrd h hb0 hl HN' hnone
 go_enter Tryz.func187,Tryz.ntmps187
 go_wp2_with (at_builtin;go_loud (refine wpList_catA rfl (.tmp 3) (.tmp 4) 58 rfl Tryz.underlying58 Tryz.infoInt w.heap.size (.slice (some ⟨w.heap.size,0,none⟩) 0 0) 0 [] rfl HOWN0.out a n cap xs rfl HN.out HNO.out HC.out (by omega) (by simp) ?_);intro v' w1 hown1 hgrow1)
 go_ret
 exact⟨_,rfl,by simpa using hown1,HB0.out.grown hgrow1 (by simp) (fun k hk=>by have e:w.heap.size=k:=(by simpa[Value.ownBlock] using hk);exact Nat.le_of_eq e)⟩
theorem slice_of_net {w:World} {u1 u2:Value} {n:Net} (h:NetR w (.agg #[u1,u2]) n):(∃a m c,u1= .slice a m c)∧ ∃a m c,u2= .slice a m c:=by
 obtain⟨x1,x2,e,r1,r2,_⟩:=h
 simp only[Value.agg.injEq,Array.mk.injEq,List.cons.injEq,and_true] at e
 obtain⟨rfl,rfl⟩:=e
 exact⟨Rdt.slice' r1,Rdt.slice' r2⟩
theorem isLight_any (u1 u2 v:Value) (n:Net) (x:Lgt) (w:World) (h:NetR w (.agg #[u1,u2]) n) (hr:Rd w v x.fb) (hl:x.fb.length≤1100000):
 Calls Tryz.prog 91 #[.agg #[u1,u2],.agg #[.int .i64 x.id,.int .i64 x.st,v,.int .i64 x.fi,.int .i64 x.ct]] w fun e w'=>e= .returned (.bool (lgtOk n x))∧Below w.heap.size w w':=by
 have HV:=Lib.hid (fun w' (hb:Below w.heap.size w w')=>visited_any u1 u2 v n ⟨x.st,x.fb⟩ w' (h.behind hb) (hr.belowAll hb) hl)
 obtain⟨⟨a1,m1,c1,rfl⟩,a2,m2,c2,rfl⟩:=slice_of_net h
 obtain⟨a3,c3,m3,-,rfl,-,-,-⟩:=hr.opn
 have HF:=Lib.hid (show lgtOk n x=((rouN n ⟨x.st,x.fb⟩).isSome&&inB x.id 1 999&&blkOk x.fi x.ct) from rfl)
 obtain⟨bx,bc,blt,-⟩:=box_facts w #[.slice a1 m1 c1,.slice a2 m2 c2] 35
 obtain⟨by',bd,bmt,-⟩:=box_facts (w.alloc (.cells #[.slice a1 m1 c1,.slice a2 m2 c2] 35)) #[.int .i64 x.id,.int .i64 x.st,.slice a3 m3 c3,.int .i64 x.fi,.int .i64 x.ct] 86
 have q0:=(by'.cell (p:=⟨w.heap.size,0,none⟩) blt).trans (bc 0 _ rfl)
 have q1:=(by'.cell (p:=⟨w.heap.size,1,none⟩) blt).trans (bc 1 _ rfl)
 have l0:=bd 0 _ rfl
 have l1:=bd 1 _ rfl
 have l2:=bd 2 _ rfl
 have l3:=bd 3 _ rfl
 have l4:=bd 4 _ rfl
 have hs1:(w.alloc (.cells #[.slice a1 m1 c1,.slice a2 m2 c2] 35)).heap.size=w.heap.size+1:=by simp
 rw[hs1] at l0 l1 l2 l3 l4 bmt
 have HBX:=Lib.hid (bx.trans (by'.mono bx.size))
 clear bc bd bx by' hs1 blt h hr
 generalize lgtOk n x=q at *
 go_enter Tryz.func91,Tryz.ntmps91
 go_wp2_with fail
 generalize (w.alloc (.cells #[.slice a1 m1 c1,.slice a2 m2 c2] 35)).alloc (.cells #[.int .i64 x.id,.int .i64 x.st,.slice a3 m3 c3,.int .i64 x.fi,.int .i64 x.ct] 86)=w2 at *
 refine(HV.out w2 HBX.out).mono ?_
 rintro e w3 ⟨v',rfl,-,⟨a4,m4,c4,rfl⟩,b3⟩
 have p0:=(b3.cell bmt).trans l0
 have p3:=(b3.cell bmt).trans l3
 have p4:=(b3.cell bmt).trans l4
 have HB3:=Lib.hid (HBX.out.trans (b3.mono HBX.out.size))
 clear b3 l0 l1 l2 l3 l4 q0 q1 HV
 generalize (rouN n ⟨x.st,x.fb⟩).isSome=o at *
 have HIN:=Lib.hid (fun w=>within_any x.id 1 999 w)
 have HBK:=Lib.hid (fun w=>IsValidBlock_any x.fi x.ct w)
 generalize inB x.id 1 999=i at *
 generalize blkOk x.fi x.ct=k at *
 cases o
 · go_wp2
   go_ret
   exact⟨by rw[HF.out];rfl,HB3.out⟩
 cases i
 · go_wp2_with (go_at_call 74;refine(HIN.out _).mono ?_;rintro e w' ⟨rfl,rfl⟩)
   go_ret
   exact⟨by rw[HF.out];rfl,HB3.out⟩
 go_wp2_with (go_at_call 74;refine(HIN.out _).mono ?_;rintro e w' ⟨rfl,rfl⟩)
 refine(HBK.out _).mono ?_
 rintro e w4 ⟨rfl,b4⟩
 have HB4:=Lib.hid (HB3.out.trans (b4.mono HB3.out.size))
 clear b4
 go_wp2
 go_ret
 exact⟨by rw[HF.out];rfl,HB4.out⟩
theorem planBad_any (y:Lgt) (u:Value) (z:Lgt) (b0:Nat) (v:Value) (w:World) (hu:Rd w u z.fb) (hv:Rd w v y.fb)
 (hz:blkOk z.fi z.ct=true) (hy:blkOk y.fi y.ct=true) (hl:z.fb.length≤1100000)
 (c0:w.cell? ⟨b0,0,none⟩=some (.int .i64 y.id)) (c1:w.cell? ⟨b0,1,none⟩=some (.int .i64 y.st)) (c2:w.cell? ⟨b0,2,none⟩=some v) (c3:w.cell? ⟨b0,3,none⟩=some (.int .i64 y.fi)) (c4:w.cell? ⟨b0,4,none⟩=some (.int .i64 y.ct)):
 Calls Tryz.prog 93 #[.agg #[.int .i64 z.id,.int .i64 z.st,u,.int .i64 z.fi,.int .i64 z.ct],ptr b0] w fun e w'=>e= .returned (.bool (collB z y))∧Below w.heap.size w w':=by
 have HC:=Lib.hid (fun w' (hb:Below w.heap.size w w')=>collide_any u v z y w' (hu.belowAll hb) (hv.belowAll hb) hz hy hl)
 obtain⟨a1,k1,m1,-,rfl,-,-,-⟩:=hu.opn
 obtain⟨a2,k2,m2,-,rfl,-,-,-⟩:=hv.opn
 obtain⟨bx,bc,blt,-⟩:=box_facts w #[.int .i64 z.id,.int .i64 z.st,.slice a1 m1 k1,.int .i64 z.fi,.int .i64 z.ct] 86
 have q0:=bc 0 _ rfl
 have q1:=bc 1 _ rfl
 have q2:=bc 2 _ rfl
 have q3:=bc 3 _ rfl
 have q4:=bc 4 _ rfl
 have hlt:=World.block_lt_of_cell? _ _ c0
 have d0:=(bx.cell (p:=⟨b0,0,none⟩) hlt).trans c0
 have d1:=(bx.cell (p:=⟨b0,1,none⟩) hlt).trans c1
 have d2:=(bx.cell (p:=⟨b0,2,none⟩) hlt).trans c2
 have d3:=(bx.cell (p:=⟨b0,3,none⟩) hlt).trans c3
 have d4:=(bx.cell (p:=⟨b0,4,none⟩) hlt).trans c4
 have HBX:=Lib.hid bx
 clear c0 c1 c2 c3 c4 bc bx hu hv
 go_enter Tryz.func93,Tryz.ntmps93
 go_wp2_with fail
 refine(HC.out _ HBX.out).mono ?_
 rintro e w3 ⟨rfl,b3⟩
 have HB3:=Lib.hid (HBX.out.trans (b3.mono HBX.out.size))
 clear b3
 go_wp2
 go_ret
 exact⟨rfl,HB3.out⟩
theorem plnOk_net {p:Pln} (h:netOk p.n=false):plnOk p=false:=by unfold plnOk;rw[h];rfl
theorem plnOk_len {p:Pln} (h:¬p.ls.length≤12):plnOk p=false:=by unfold plnOk;rw[decide_eq_false h];simp
theorem plnOk_at {p:Pln} {i:Nat} (hi:i<p.ls.length) (h:ltOk p i=false):plnOk p=false:=by unfold plnOk;rw[rng_no hi h];simp
theorem plnOk_all {p:Pln} (h1:netOk p.n=true) (h2:p.ls.length≤12) (h3:∀i,i<p.ls.length→ltOk p i=true):plnOk p=true:=by unfold plnOk;rw[rng_yes h3,h1,decide_eq_true h2];rfl
theorem ltOk_blk {p:Pln} {i:Nat} (h:ltOk p i=true):blkOk (lgA p i).fi (lgA p i).ct=true:=by
 unfold ltOk lgtOk at h
 simp only[Bool.and_eq_true] at h
 exact h.1.2
theorem IsValidPlan_any (v:Value) (p:Pln) (w:World) (h:PlnR w v p) (hfb:∀i:Nat,(lgA p i).fb.length≤1100000):
 Calls Tryz.prog 48 #[v] w fun e w'=>e= .returned (.bool (plnOk p))∧Below w.heap.size w w':=by
 obtain⟨u1,u2,u3,rfl,r1,r2,r3,hsm⟩:=h
 have hnet:NetR w (.agg #[u1,u2]) p.n:=⟨u1,u2,rfl,r1,r2,hsm⟩
 obtain⟨⟨a1,m1,c1,rfl⟩,a2,m2,c2,rfl⟩:=slice_of_net hnet
 obtain⟨a3,m3,c3,rfl,HN3,hc3,hm3,ha3⟩:=lgt_opn r3
 have HNV:=Lib.hid (fun w' (hb:Below w.heap.size w w')=>IsValidNetwork_any _ p.n w' (hnet.behind hb))
 have HNE:=Lib.hid hnet
 have HA:=Lib.hid ha3
 have HR3:=Lib.hid r3
 have HFB:=Lib.hid hfb
 have HX1:=Lib.hid (@plnOk_net p)
 have HX2:=Lib.hid (@plnOk_len p)
 have HX3:=Lib.hid (fun i hi h=>@plnOk_at p i hi h)
 have HX4:=Lib.hid (@plnOk_all p)
 rw[HN3.out] at HX2 HX3 HX4
 obtain⟨bx,bc,blt,-⟩:=box_facts w #[.slice a1 m1 c1,.slice a2 m2 c2,.slice a3 m3 c3] 75
 have q0:=bc 0 _ rfl
 have q1:=bc 1 _ rfl
 have q2:=bc 2 _ rfl
 have HBX:=Lib.hid bx
 clear bx bc ha3 r1 r2 r3 hsm hnet hfb
 generalize plnOk p=q at *
 go_enter Tryz.func48,Tryz.ntmps48
 go_wp2_with fail
 generalize w.alloc (.cells #[.slice a1 m1 c1,.slice a2 m2 c2,.slice a3 m3 c3] 75)=w1 at *
 have HNV1:=Lib.hid (HNV.out w1 HBX.out)
 cases hok:netOk p.n
 · have HF:=Lib.hid (HX1.out hok)
   rw[hok] at HNV1
   refine HNV1.out.mono ?_
   rintro e w2 ⟨rfl,b2⟩
   have HB2:=Lib.hid (HBX.out.trans (b2.mono HBX.out.size))
   clear b2 hok
   go_wp2
   go_ret
   exact⟨by rw[HF.out];rfl,HB2.out⟩
 rw[hok] at HNV1
 refine HNV1.out.mono ?_
 rintro e w2 ⟨rfl,b2⟩
 have p2:=(b2.cell blt).trans q2
 have HB2:=Lib.hid b2
 clear b2
 by_cases h12:m3≤12
 case neg=>
  have HF:=Lib.hid (HX2.out h12)
  have hd:decide (12<(m3:Int))=true:=decide_eq_true (by omega)
  have hd2:decide (12<m3)=true:=decide_eq_true (by omega)
  clear h12
  go_wp2
  go_ret
  exact⟨by rw[HF.out];rfl,HBX.out.trans (HB2.out.mono HBX.out.size)⟩
 have hd:decide (12<(m3:Int))=false:=decide_eq_false (by omega)
 have hd2:decide (12<m3)=false:=decide_eq_false (by omega)
 go_wp2
 clear hd hd2
 go_loopw [3,4,18] (fun _ _ i wr=>∃k:Nat,k≤m3∧i= .int .i64 k∧Hid (∀i,i<k→ltOk p i=true)∧Hid (Below w1.heap.size w1 wr)) (fun _ _ i _=>m3-(intOf i).toNat)
 case atStart=>exact⟨0,Nat.zero_le _,rfl,fun i hi=>by omega,HB2.out⟩
 case round=>
  obtain⟨k,hk,rfl,HK,HB⟩:=hrel
  by_cases hlt:k<m3
  · have hltI:(k:Int)<(m3:Int):=by omega
    obtain⟨b,off,rfl,hbs,hcs⟩:=HA.out (by omega)
    have HCS:=Lib.hid hcs
    obtain⟨u,e0,e1,e2,e3,e4,hru⟩:=hcs k hlt
    have BW:=HBX.out.trans (HB.out.mono HBX.out.size)
    have HBW:=Lib.hid BW
    have x0:=(BW.cell (p:=⟨b,off+k*5,none⟩) hbs).trans e0
    have x1:=(BW.cell (p:=⟨b,off+k*5+1,none⟩) hbs).trans e1
    have x2:=(BW.cell (p:=⟨b,off+k*5+2,none⟩) hbs).trans e2
    have x3:=(BW.cell (p:=⟨b,off+k*5+3,none⟩) hbs).trans e3
    have x4:=(BW.cell (p:=⟨b,off+k*5+4,none⟩) hbs).trans e4
    have p0:=(HB.out.cell (p:=⟨w.heap.size,0,none⟩) blt).trans q0
    have p1:=(HB.out.cell (p:=⟨w.heap.size,1,none⟩) blt).trans q1
    have p2:=(HB.out.cell (p:=⟨w.heap.size,2,none⟩) blt).trans q2
    have HRU:=Lib.hid hru
    obtain⟨au,cu,nu,-,rfl,-,-,-⟩:=hru.opn
    have HV:=Lib.hid (show ltOk p k=(lgtOk p.n (p.ls[k]?.getD nilL)&&(!(decide (0<k)&&decide ((p.ls[k]?.getD nilL).id≤(p.ls[k-1]?.getD nilL).id)) && !((p.ls.take k).any fun y=>collB y (p.ls[k]?.getD nilL)))) from rfl)
    have HNO:=Lib.hid (HX3.out k hlt)
    have HST:=Lib.hid (fun h=>upto_succ HK.out (k:=k) h)
    have HFK:=Lib.hid (show(p.ls[k]?.getD nilL).fb.length≤1100000 from HFB.out k)
    clear hcs e0 e1 e2 e3 e4 BW hru
    generalize p.ls[k]?.getD nilL=l at *
    obtain⟨by',bd,bmt,-⟩:=box_facts wr #[.int .i64 l.id,.int .i64 l.st,.slice au nu cu,.int .i64 l.fi,.int .i64 l.ct] 86
    have HBY:=Lib.hid by'
    have y0:=(by'.cell (p:=⟨w.heap.size,0,none⟩) (World.block_lt_of_cell? _ _ p0)).trans p0
    have y1:=(by'.cell (p:=⟨w.heap.size,1,none⟩) (World.block_lt_of_cell? _ _ p1)).trans p1
    have y2:=(by'.cell (p:=⟨w.heap.size,2,none⟩) (World.block_lt_of_cell? _ _ p2)).trans p2
    have z0:=bd 0 _ rfl
    have z1:=bd 1 _ rfl
    have z2:=bd 2 _ rfl
    have z3:=bd 3 _ rfl
    have z4:=bd 4 _ rfl
    have HBZ:=Lib.hid (HBW.out.trans (by'.mono HBW.out.size))
    have HIL:=Lib.hid (fun wx (hb:Below w.heap.size w wx)=>isLight_any (.slice a1 m1 c1) (.slice a2 m2 c2) (.slice au nu cu) p.n l wx (HNE.out.behind hb) (HRU.out.belowAll hb) HFK.out)
    clear bd by'
    cases hlo:lgtOk p.n l
    · have HF:=Lib.hid (HNO.out (by rw[HV.out,hlo];rfl))
      rw[hlo] at HIL
      go_wp2
      generalize wr.alloc (.cells #[.int .i64 l.id,.int .i64 l.st,.slice au nu cu,.int .i64 l.fi,.int .i64 l.ct] 86)=w4 at *
      have j0:=rg y0
      have j1:=rg y1
      have j2:=rg y2
      have k0:=rg z0
      have k1:=rg z1
      have k2:=rg z2
      have k3:=rg z3
      have k4:=rg z4
      have HIL2:=Lib.hid (fun d os=>HIL.out (grow (redrawn w4 d) os) (HBZ.out.trans ((below_regrown w4 d os).mono HBZ.out.size)))
      clear x0 x1 x2 x3 x4 p0 p1 p2 y0 y1 y2 z0 z1 z2 z3 z4
      refine wp_region_quiet_below (by kernel_rfl) (by kernel_rfl) ?_
      repeat (go_big_quiet_step (first | (go_at_call 91;exact Calls.regrown_of (HIL2.out _ _))))
      refine wpQuiet_nil ?_
      rintro _ ⟨⟨dq,osq⟩,rfl⟩
      go_wp2
      go_ret
      exact⟨by rw[HF.out];rfl,HBZ.out.trans ((below_regrown _ dq osq).mono HBZ.out.size)⟩
    have hbl:blkOk l.fi l.ct=true:=by unfold lgtOk at hlo;simp only[Bool.and_eq_true] at hlo;exact hlo.2
    rw[hlo] at HIL HV
    have HFN:=Lib.hid (show IsFn 93 from isFn_of rfl rfl rfl)
    have HCF0:=Lib.hid (fun(wx:World) (hx:Below w.heap.size w wx) (c0:wx.cell? ⟨wr.heap.size,0,none⟩=some (.int .i64 l.id)) (c1:wx.cell? ⟨wr.heap.size,1,none⟩=some (.int .i64 l.st)) (c2:wx.cell? ⟨wr.heap.size,2,none⟩=some (.slice au nu cu)) (c3':wx.cell? ⟨wr.heap.size,3,none⟩=some (.int .i64 l.fi)) (c4:wx.cell? ⟨wr.heap.size,4,none⟩=some (.int .i64 l.ct))=>
     containsFuncLgt_any (.slice (some ⟨b,off,none⟩) k c3) (p.ls.take k) 93 wr.heap.size (fun y=>collB y l) wx (rws_take (fun _=>rfl) (by omega) nilL (HR3.out.behind hx) hk) HFN.out
      (fun i w' hi hb z u hz hru=>by
        have hik:i<k:=by rw[List.length_take] at hi;omega
        have hze:z=lgA p i:=by rw[hz,List.getElem?_take,if_pos hik]
        subst hze
        have hl:=World.block_lt_of_cell? _ _ c0
        exact planBad_any l u _ wr.heap.size (.slice au nu cu) w' hru (HRU.out.belowAll (hx.trans (hb.mono hx.size))) (ltOk_blk (HK.out i hik)) hbl (HFB.out i) ((hb.cell (p:=⟨wr.heap.size,0,none⟩) hl).trans c0) ((hb.cell (p:=⟨wr.heap.size,1,none⟩) hl).trans c1) ((hb.cell (p:=⟨wr.heap.size,2,none⟩) hl).trans c2) ((hb.cell (p:=⟨wr.heap.size,3,none⟩) hl).trans c3') ((hb.cell (p:=⟨wr.heap.size,4,none⟩) hl).trans c4)))
    generalize (p.ls.take k).any (fun y=>collB y l)=any at *
    have i1:(0:Int)≤(k:Int):=by omega
    have i2:(k:Int)≤(c3:Int):=by omega
    have i3:k≤c3:=by omega
    have i4:(k:Int)≤(m3:Int):=by omega
    clear hbl hlo
    by_cases hk0:k=0
    · have hk0b:decide (0<k)=false:=decide_eq_false (by omega)
      have hk0c:decide (0<(k:Int))=false:=decide_eq_false (by omega)
      have hv:=HV.out
      rw[hk0b] at hv
      have HV2:=Lib.hid hv
      clear hk0 hv HV
      cases any
      · have HS:=Lib.hid (HST.out (by rw[HV2.out];rfl))
        clear HV2 HST HNO
        go_wp2
        generalize wr.alloc (.cells #[.int .i64 l.id,.int .i64 l.st,.slice au nu cu,.int .i64 l.fi,.int .i64 l.ct] 86)=w4 at *
        have j0:=rg y0
        have j1:=rg y1
        have j2:=rg y2
        have k0:=rg z0
        have k1:=rg z1
        have k2:=rg z2
        have k3:=rg z3
        have k4:=rg z4
        have HIL2:=Lib.hid (fun d os=>HIL.out (grow (redrawn w4 d) os) (HBZ.out.trans ((below_regrown w4 d os).mono HBZ.out.size)))
        have HCF:=Lib.hid (fun d os=>HCF0.out (grow (redrawn w4 d) os) (HBZ.out.trans ((below_regrown w4 d os).mono HBZ.out.size)) (k0 d os) (k1 d os) (k2 d os) (k3 d os) (k4 d os))
        clear x0 x1 x2 x3 x4 p0 p1 p2 y0 y1 y2 z0 z1 z2 z3 z4 HCF0 HIL
        refine wp_region_quiet_below (by kernel_rfl) (by kernel_rfl) ?_
        repeat (go_big_quiet_step (first | (go_at_call 91;exact Calls.regrown_of (HIL2.out _ _)) | (go_at_call 92;exact Calls.regrown_of (HCF.out _ _))))
        refine wpQuiet_nil ?_
        rintro _ ⟨⟨dq,osq⟩,rfl⟩
        go_wp2
        go_roundw
        case rel=>exact⟨k+1,hlt,by go_num,HS.out,(HB.out.trans (HBY.out.mono HB.out.size)).trans ((below_regrown _ dq osq).mono (HB.out.trans (HBY.out.mono HB.out.size)).size)⟩
        case measure=>simp[intOf];omega
      · have HF:=Lib.hid (HNO.out (by rw[HV2.out];rfl))
        clear HV2 HST HNO
        go_wp2
        generalize wr.alloc (.cells #[.int .i64 l.id,.int .i64 l.st,.slice au nu cu,.int .i64 l.fi,.int .i64 l.ct] 86)=w4 at *
        have j0:=rg y0
        have j1:=rg y1
        have j2:=rg y2
        have k0:=rg z0
        have k1:=rg z1
        have k2:=rg z2
        have k3:=rg z3
        have k4:=rg z4
        have HIL2:=Lib.hid (fun d os=>HIL.out (grow (redrawn w4 d) os) (HBZ.out.trans ((below_regrown w4 d os).mono HBZ.out.size)))
        have HCF:=Lib.hid (fun d os=>HCF0.out (grow (redrawn w4 d) os) (HBZ.out.trans ((below_regrown w4 d os).mono HBZ.out.size)) (k0 d os) (k1 d os) (k2 d os) (k3 d os) (k4 d os))
        clear x0 x1 x2 x3 x4 p0 p1 p2 y0 y1 y2 z0 z1 z2 z3 z4 HCF0 HIL
        refine wp_region_quiet_below (by kernel_rfl) (by kernel_rfl) ?_
        repeat (go_big_quiet_step (first | (go_at_call 91;exact Calls.regrown_of (HIL2.out _ _)) | (go_at_call 92;exact Calls.regrown_of (HCF.out _ _))))
        refine wpQuiet_nil ?_
        rintro _ ⟨⟨dq,osq⟩,rfl⟩
        go_wp2
        go_ret
        exact⟨by rw[HF.out];rfl,HBZ.out.trans ((below_regrown _ dq osq).mono HBZ.out.size)⟩
    · obtain⟨k',hk'⟩:∃k',k=k'+1:=⟨k-1,by omega⟩
      have hkk:k-1=k':=by omega
      have hk0b:decide (0<k)=true:=decide_eq_true (by omega)
      have hk0c:decide (0<(k:Int))=true:=decide_eq_true (by omega)
      have hkp:(0:Int)<(k:Int):=by omega
      have f1w:IntKind.i64.wrap ((k:Int)-1)=(k':Int):=by rw[IntWalk.i64_in _ (by omega)];omega
      have f2w:(k':Int)<(m3:Int):=by omega
      have f3w:k'<m3:=by omega
      obtain⟨u',t0,-,-,-,-,-⟩:=HCS.out k' f3w
      have t0:=(HBZ.out.cell (p:=⟨b,off+k'*5,none⟩) hbs).trans t0
      have hv:=HV.out
      rw[hkk,hk0b] at hv
      generalize (p.ls[k']?.getD nilL).id=pid at *
      have HV2:=Lib.hid hv
      clear hk0 hv HV hk' hkk
      cases hge:decide (l.id≤pid)
      case true=>
       have HF:=Lib.hid (HNO.out (by rw[HV2.out,hge];rfl))
       clear HV2 HST HNO
       go_wp2
       generalize wr.alloc (.cells #[.int .i64 l.id,.int .i64 l.st,.slice au nu cu,.int .i64 l.fi,.int .i64 l.ct] 86)=w4 at *
       have j0:=rg y0
       have j1:=rg y1
       have j2:=rg y2
       have k0:=rg z0
       have k1:=rg z1
       have k2:=rg z2
       have k3:=rg z3
       have k4:=rg z4
       have jt:=rg t0
       have HIL2:=Lib.hid (fun d os=>HIL.out (grow (redrawn w4 d) os) (HBZ.out.trans ((below_regrown w4 d os).mono HBZ.out.size)))
       have HCF:=Lib.hid (fun d os=>HCF0.out (grow (redrawn w4 d) os) (HBZ.out.trans ((below_regrown w4 d os).mono HBZ.out.size)) (k0 d os) (k1 d os) (k2 d os) (k3 d os) (k4 d os))
       clear x0 x1 x2 x3 x4 p0 p1 p2 y0 y1 y2 z0 z1 z2 z3 z4 HCF0 HIL
       refine wp_region_quiet_below (by kernel_rfl) (by kernel_rfl) ?_
       repeat (go_big_quiet_step (first | (go_at_call 91;exact Calls.regrown_of (HIL2.out _ _)) | (go_at_call 92;exact Calls.regrown_of (HCF.out _ _))))
       refine wpQuiet_nil ?_
       rintro _ ⟨⟨dq,osq⟩,rfl⟩
       go_wp2
       go_ret
       exact⟨by rw[HF.out];rfl,HBZ.out.trans ((below_regrown _ dq osq).mono HBZ.out.size)⟩
      rw[hge] at HV2
      cases any
      · have HS:=Lib.hid (HST.out (by rw[HV2.out];rfl))
        clear HV2 HST HNO
        go_wp2
        generalize wr.alloc (.cells #[.int .i64 l.id,.int .i64 l.st,.slice au nu cu,.int .i64 l.fi,.int .i64 l.ct] 86)=w4 at *
        have j0:=rg y0
        have j1:=rg y1
        have j2:=rg y2
        have k0:=rg z0
        have k1:=rg z1
        have k2:=rg z2
        have k3:=rg z3
        have k4:=rg z4
        have jt:=rg t0
        have HIL2:=Lib.hid (fun d os=>HIL.out (grow (redrawn w4 d) os) (HBZ.out.trans ((below_regrown w4 d os).mono HBZ.out.size)))
        have HCF:=Lib.hid (fun d os=>HCF0.out (grow (redrawn w4 d) os) (HBZ.out.trans ((below_regrown w4 d os).mono HBZ.out.size)) (k0 d os) (k1 d os) (k2 d os) (k3 d os) (k4 d os))
        clear x0 x1 x2 x3 x4 p0 p1 p2 y0 y1 y2 z0 z1 z2 z3 z4 HCF0 HIL
        refine wp_region_quiet_below (by kernel_rfl) (by kernel_rfl) ?_
        repeat (go_big_quiet_step (first | (go_at_call 91;exact Calls.regrown_of (HIL2.out _ _)) | (go_at_call 92;exact Calls.regrown_of (HCF.out _ _))))
        refine wpQuiet_nil ?_
        rintro _ ⟨⟨dq,osq⟩,rfl⟩
        go_wp2
        go_roundw
        case rel=>exact⟨k+1,hlt,by go_num,HS.out,(HB.out.trans (HBY.out.mono HB.out.size)).trans ((below_regrown _ dq osq).mono (HB.out.trans (HBY.out.mono HB.out.size)).size)⟩
        case measure=>simp[intOf];omega
      · have HF:=Lib.hid (HNO.out (by rw[HV2.out];rfl))
        clear HV2 HST HNO
        go_wp2
        generalize wr.alloc (.cells #[.int .i64 l.id,.int .i64 l.st,.slice au nu cu,.int .i64 l.fi,.int .i64 l.ct] 86)=w4 at *
        have j0:=rg y0
        have j1:=rg y1
        have j2:=rg y2
        have k0:=rg z0
        have k1:=rg z1
        have k2:=rg z2
        have k3:=rg z3
        have k4:=rg z4
        have jt:=rg t0
        have HIL2:=Lib.hid (fun d os=>HIL.out (grow (redrawn w4 d) os) (HBZ.out.trans ((below_regrown w4 d os).mono HBZ.out.size)))
        have HCF:=Lib.hid (fun d os=>HCF0.out (grow (redrawn w4 d) os) (HBZ.out.trans ((below_regrown w4 d os).mono HBZ.out.size)) (k0 d os) (k1 d os) (k2 d os) (k3 d os) (k4 d os))
        clear x0 x1 x2 x3 x4 p0 p1 p2 y0 y1 y2 z0 z1 z2 z3 z4 HCF0 HIL
        refine wp_region_quiet_below (by kernel_rfl) (by kernel_rfl) ?_
        repeat (go_big_quiet_step (first | (go_at_call 91;exact Calls.regrown_of (HIL2.out _ _)) | (go_at_call 92;exact Calls.regrown_of (HCF.out _ _))))
        refine wpQuiet_nil ?_
        rintro _ ⟨⟨dq,osq⟩,rfl⟩
        go_wp2
        go_ret
        exact⟨by rw[HF.out];rfl,HBZ.out.trans ((below_regrown _ dq osq).mono HBZ.out.size)⟩
  · obtain rfl:m3=k:=by omega
    have HE:=Lib.hid (HX4.out hok h12 HK.out)
    go_wp2
    go_ret
    exact⟨by rw[HE.out];rfl,HBX.out.trans (HB.out.mono HBX.out.size)⟩
theorem lightAt_any (v:Value) (p:Pln) (id:Int) (w:World) (h:PlnR w v p):
 Calls Tryz.prog 112 #[v,.int .i64 id] w fun e w'=>e= .returned (.int .i64 (lix p id))∧Below w.heap.size w w':=by
 obtain⟨u1,u2,u3,rfl,r1,r2,r3,hsm⟩:=h
 have hnet:NetR w (.agg #[u1,u2]) p.n:=⟨u1,u2,rfl,r1,r2,hsm⟩
 obtain⟨⟨a1,m1,c1,rfl⟩,a2,m2,c2,rfl⟩:=slice_of_net hnet
 have HR3:=Lib.hid r3
 obtain⟨a3,m3,c3,rfl,-,-,-,-⟩:=lgt_opn r3
 obtain⟨bx,bc,blt,-⟩:=box_facts w #[.slice a1 m1 c1,.slice a2 m2 c2,.slice a3 m3 c3] 75
 have q2:=bc 2 _ rfl
 have hs1:(w.alloc (.cells #[.slice a1 m1 c1,.slice a2 m2 c2,.slice a3 m3 c3] 75)).heap.size=w.heap.size+1:=by simp
 obtain⟨by1,bd,bl2,-⟩:=box_facts (w.alloc (.cells #[.slice a1 m1 c1,.slice a2 m2 c2,.slice a3 m3 c3] 75)) #[.int .i64 id] 3
 have d0:=bd 0 _ rfl
 have e2:=(by1.cell (p:=⟨w.heap.size,2,none⟩) blt).trans q2
 rw[hs1] at d0 bl2
 have HB0:=Lib.hid (bx.trans (by1.mono bx.size))
 have HFN:=Lib.hid (show IsFn 154 from isFn_of rfl rfl rfl)
 have HL1:=Lib.hid (fun z u w' hu h0=>lightAt1_any z u id (w.heap.size+1) w' hu h0)
 have HIX:=Lib.hid (fun(w2:World) (hb:Below w.heap.size w w2) hp=>indexFuncLgt_any (.slice a3 m3 c3) p.ls 154 (w.heap.size+1) (fun x=>x.id==id) w2 (HR3.out.behind hb) HFN.out hp)
 unfold lix
 generalize idxG p.ls (fun x=>x.id==id)=R at *
 clear bx bc by1 bd r1 r2 r3 hsm hnet hs1 q2 HR3
 go_enter Tryz.func112,Tryz.ntmps112
 go_wp2_with fail
 generalize (w.alloc (.cells #[.slice a1 m1 c1,.slice a2 m2 c2,.slice a3 m3 c3] 75)).alloc (.cells #[.int .i64 id] 3)=w2 at *
 refine(HIX.out w2 HB0.out (fun i w' hi hb z u hz hu=>HL1.out z u w' hu ((hb.cell bl2).trans d0))).mono ?_
 rintro e w3 ⟨rfl,b3⟩
 have HB3:=Lib.hid (HB0.out.trans (b3.mono HB0.out.size))
 clear b3
 go_wp2
 go_ret
 exact⟨rfl,HB3.out⟩
theorem l9Find_any (v:Value) (p:Pln) (id:Int) (w:World) (h:PlnR w v p):
 Calls Tryz.prog 103 #[v,.int .i64 id] w fun e w'=>e= .returned (.int .i64 (lix p id))∧Below w.heap.size w w':=by
 obtain⟨u1,u2,u3,rfl,r1,r2,r3,hsm⟩:=h
 have hnet:NetR w (.agg #[u1,u2]) p.n:=⟨u1,u2,rfl,r1,r2,hsm⟩
 obtain⟨⟨a1,m1,c1,rfl⟩,a2,m2,c2,rfl⟩:=slice_of_net hnet
 obtain⟨a3,m3,c3,rfl,HN3,hc3,hm3,ha3⟩:=lgt_opn r3
 have HA:=Lib.hid ha3
 have HI:=Lib.hid (fun k hk h e=>idxG_some (zs:=p.ls) (p:=fun x=>x.id==id) (nil:=nilL) (k:=k) hk h e)
 have HO:=Lib.hid (idxG_none (zs:=p.ls) (p:=fun x=>x.id==id))
 have HM:=Lib.hid (fun k hk h e=>anyG_more (zs:=p.ls) (p:=fun x=>x.id==id) (nil:=nilL) (k:=k) hk h e)
 rw[HN3.out] at HI HM
 have HTK:=Lib.hid (show p.ls.take m3=p.ls from List.take_of_length_le (Nat.le_of_eq HN3.out))
 unfold lix
 generalize idxG p.ls (fun x=>x.id==id)=r at *
 obtain⟨bx,bc,blt,-⟩:=box_facts w #[.slice a1 m1 c1,.slice a2 m2 c2,.slice a3 m3 c3] 75
 have q2:=bc 2 _ rfl
 have HBX:=Lib.hid bx
 clear bx bc ha3 r1 r2 r3 hsm hnet
 go_enter Tryz.func103,Tryz.ntmps103
 go_wp2_with fail
 generalize w.alloc (.cells #[.slice a1 m1 c1,.slice a2 m2 c2,.slice a3 m3 c3] 75)=w1 at *
 go_loopw [5] (fun i wr=>∃k:Nat,k≤m3∧i= .int .i64 k∧Hid ((p.ls.take k).any (fun x=>x.id==id)=false)∧Hid (Below w1.heap.size w1 wr)) (fun i _=>m3-(intOf i).toNat)
 case atStart=>exact⟨0,Nat.zero_le _,rfl,by simp[Hid],Below.refl _ _⟩
 case round=>
  obtain⟨k,hk,rfl,HT,HB⟩:=hrel
  have t2:=(HB.out.cell (p:=⟨w.heap.size,2,none⟩) blt).trans q2
  by_cases hlt:k<m3
  · have hltI:(k:Int)<(m3:Int):=by omega
    obtain⟨b,off,rfl,hbs,hcs⟩:=HA.out (by omega)
    obtain⟨u,x0,-⟩:=hcs k hlt
    have y0:=((HBX.out.trans (HB.out.mono HBX.out.size)).cell (p:=⟨b,off+k*5,none⟩) hbs).trans x0
    have HIK:=Lib.hid (HI.out k hlt HT.out)
    have HMK:=Lib.hid (HM.out k hlt HT.out)
    clear hcs x0
    generalize p.ls[k]?.getD nilL=x at *
    by_cases he:x.id=id
    · have heb:(x.id==id)=true:=by simpa using he
      have HE:=Lib.hid (HIK.out heb)
      clear he
      go_wp2
      go_ret
      exact⟨by rw[HE.out];rfl,HBX.out.trans (HB.out.mono HBX.out.size)⟩
    · have heb:(x.id==id)=false:=by simpa using he
      have HE:=Lib.hid (HMK.out heb)
      clear he
      go_wp2
      go_roundw
      case rel=>exact⟨k+1,hlt,by go_num,HE.out,HB.out⟩
      case measure=>simp[intOf];omega
  · obtain rfl:m3=k:=by omega
    have hh:=HT.out
    rw[HTK.out] at hh
    have HE:=Lib.hid (HO.out hh)
    clear hh
    go_wp2
    go_ret
    exact⟨by rw[HE.out];rfl,HBX.out.trans (HB.out.mono HBX.out.size)⟩
def Apt (u v:Value):Prop:=∀q,u.ownBlock=some q→v.ownBlock≠some q
/-! ### Counting, as the reference does -/
theorem row_kept0 {w w':World} {base:Nat} {e:TypeId} {size:Nat} {v:Value} {n:Nat} {xs:List Value} (h:w.ownsRow base e size v n xs) (hk:∀g,v.ownBlock=some g→w'.heap[g]?= w.heap[g]?):w'.ownsRow base e size v n xs:=by
 refine⟨h.1,?_⟩
 rcases h.2 with q | ⟨g,cap,cur,rfl,q1,q2,q3⟩
 · exact .inl q
 · exact .inr ⟨g,cap,cur,rfl,q1,by rw[hk g rfl];exact q2,q3⟩
theorem row_form0 {w:World} {base n:Nat} {T:TypeId} {v:Value} {us:List Value} {m:Nat} (h:w.ownsRow base T m v n us):∃a c,v= .slice a n c:=by
 rcases h.2 with ⟨h,h2⟩ | ⟨g,cap,cur,h,_⟩
 · exact⟨none,0,by rw[h,h2]⟩
 · exact⟨_,_,h⟩
def OwR (w:World) (base:Nat) (v:Value) (xs:List Int):Prop:=w.ownsRow base 3 1 v xs.length (ints xs)
theorem OwR.kept {w w':World} {base:Nat} {v:Value} {xs:List Int} (h:OwR w base v xs) (hk:∀g,v.ownBlock=some g→w'.heap[g]?= w.heap[g]?):OwR w' base v xs:=row_kept0 h hk
theorem OwR.lt {w:World} {base:Nat} {v:Value} {xs:List Int} (h:OwR w base v xs):∀g,v.ownBlock=some g→base≤g∧g<w.heap.size:=World.ownsRow.lt h
theorem OwR.own {w:World} {base:Nat} {v:Value} {xs:List Int} (h:OwR w base v xs):Own w base v xs:=own_of_row h
theorem OwR.below {w w':World} {base:Nat} {v:Value} {xs:List Int} (h:OwR w base v xs) (hb:Below w.heap.size w w'):OwR w' base v xs:=h.kept fun g hg=>hb.block g (h.lt g hg).2
theorem OwR.base {w:World} {base base':Nat} {v:Value} {xs:List Int} (h:OwR w base v xs) (hb:base'≤base):OwR w base' v xs:=
 ⟨h.1,h.2.imp id fun⟨g,cap,cur,k1,k2,k3⟩=>⟨g,cap,cur,k1,Nat.le_trans hb k2,k3⟩⟩
theorem OwR.oth {w:World} {base b j:Nat} {v u:Value} {xs:List Int} (h:OwR w base v xs) (hb:∀k,v.ownBlock=some k→k≠b):OwR (w.setCell ⟨b,j,none⟩ u) base v xs:=
 h.kept fun k hk=>heap_setCell_other w ⟨b,j,none⟩ k u (hb k hk)
section
variable {b0 : Nat} {n : Net} {w wr w' : World} {B K K' b6 : Nat} {c u1 u2 v sv : Value} {st : Int} {xs sn : List Int}
end
end Go.Proofs.YtofcicomhnkocaaGreat
