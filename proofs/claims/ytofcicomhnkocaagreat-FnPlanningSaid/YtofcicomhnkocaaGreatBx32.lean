import Derived.Test.YtofcicomhnkocaaGreatBx29
set_option linter.unusedVariables false
namespace Go.Proofs.YtofcicomhnkocaaGreat
set_option maxHeartbeats 200000
open Go.RowKit Go.Sort
set_option maxRecDepth 100000
theorem Nb.app {w wr w':World} {B K bN:Nat} {c u1 u2 v':Value} {n:Net} {fs':List Fib} (h:Nb w wr B c K bN u1 u2 n) (hr:w'.ownsRow w.heap.size 146 4 v' fs'.length (fbs fs')) (hg:wr.grownBy w' u2.ownBlock) (hl:v'.ownBlock=u2.ownBlock∨v'.ownBlock=some wr.heap.size) (hs:∀f∈fs',ξV f) (hl2:fs'.length≤40):
 Nb w (w'.setCell ⟨bN,1,none⟩ v') B c K bN u1 v' ⟨n.ns,fs'⟩:=by
 have lbN:=(ξa h.box).1
 have hbx:w'.heap[bN]?= some (.cells #[u1,u2] 35 (0,0)):=(hg.block bN lbN fun e=>h.ne.2 e.symm).trans h.box
 have hne:v'.ownBlock≠some bN:=fun e=>by
  rcases hl with hl | hl
  · exact h.ne.2 (hl.symm.trans e)
  · rw[hl] at e;have:=ξo e;omega
 have hap:Apt u1 v':=fun q hq e=>by
  rcases hl with hl | hl
  · exact h.d.ap q hq (hl.symm.trans e)
  · have:=(h.d.ns.lt q hq).2
    rw[hl] at e;have:=ξo e;omega
 have hcs:CS w B c K w':=h.cs.grown hg fun g e=>(h.d.fs.lt g e).1
 refine⟨hcs.set h.hb v',ξe w' bN 1 _ _ v' hbx,⟨ξaa h.d.ns fun g hg'=> ?_,ξaa hr fun g hg'=> ?_,hap,hs,h.d.nz,h.d.nl,hl2⟩,h.hb,h.ne.1,hne⟩
 · rw[ξm w' ⟨bN,1,none⟩ g v' fun e=>h.ne.1 (by rw[hg'];exact congrArg some e)]
   exact hg.block g (h.d.ns.lt g hg').2 fun e=>h.d.ap g hg' e.symm
 · exact ξm w' ⟨bN,1,none⟩ g v' fun e=>hne (by rw[hg'];exact congrArg some e)
theorem Nb.box0 {w wr:World} {B K:Nat} {c u1 u2:Value} {n:Net} (hc:CS w B c K wr) (hd:NtD wr w.heap.size u1 u2 n):Nb w (wr.alloc (.cells #[u1,u2] 35)) B c K wr.heap.size u1 u2 n:=
 ⟨hc.alloc _,ξn _ _,hd.below ((ξb _ _).alloc (ξr _) _),hc.size,fun e=>absurd (hd.ns.lt _ e).2 (Nat.lt_irrefl _),fun e=>absurd (hd.fs.lt _ e).2 (Nat.lt_irrefl _)⟩
def NtQ (Z:Net→Prop) (m:Nat) (w:World) (B:Nat) (c:Value) (K:Nat) (e:Ending) (w':World):Prop:=∃u1 u2 n,e= .returned (.agg #[u1,u2])∧Z n∧NtD w' w.heap.size u1 u2 n∧CS w B c (K+m) w'
theorem Nb.doneQ {Z:Net→Prop} {m:Nat} {w w1 wr:World} {B K K' bN:Nat} {c u1 u2:Value} {n:Net} (h:Nb w1 wr B c K' bN u1 u2 n) (h1:CS w B c K w1) (hs:w1.heap.size=w.heap.size+1) (hk:K'≤K+m) (hz:Z n):
 NtQ Z m w B c K (.returned (.agg #[u1,u2])) ((wr.setCell ⟨w.heap.size,0,none⟩ u1).setCell ⟨w.heap.size,1,none⟩ u2):=by
 refine⟨u1,u2,n,rfl,hz,(h.d.base (by omega)).kept fun g _ hb=> ?_,(((h1.call h.cs).mono hk).set (ξr _) u1).set (ξr _) u2⟩
 have:=(h.d.lt g hb).1
 rw[ξm _ _ _ _ (show g≠w.heap.size by omega),ξm _ _ _ _ (show g≠w.heap.size by omega)]
theorem Tryz.infoStrD:(Tryz.prog.info? 9).map (fun i=>(i.zero,i.size,i.bytes))=some (some (.string ⟨#[]⟩),1,16):=by kernel_rfl
section
variable {W w5 : World} {X : Obj} {T : TypeId} {m : Nat}
theorem mk_kept3 (g:((W.drew.alloc X).alloc (.cells #[] T)).grownBy w5 (some W.heap.size)):w5.ownsRow W.heap.size T m (.slice (some ⟨W.heap.size+1,0,none⟩) 0 0) 0 []:=
 row_kept0 row_made3 fun q hq=>g.block q (World.ownsRow.lt (row_made3 (X:=X) (T:=T) (m:=m)) q hq).2 fun e=>by
  have h1:W.heap.size+1=q:=ξo hq
  have h2:=ξo e
  omega
theorem mk_kept2 (g:((W.drew.alloc (.cells #[] T)).alloc X).grownBy w5 (some (W.heap.size+1))):w5.ownsRow W.heap.size T m (.slice (some ⟨W.heap.size,0,none⟩) 0 0) 0 []:=
 row_kept0 row_made2 fun q hq=>g.block q (World.ownsRow.lt (row_made2 (X:=X) (T:=T) (m:=m)) q hq).2 fun e=>by
  have h1:W.heap.size=q:=ξo hq
  have h2:=ξo e
  omega
end
theorem two_rows {w5 wA w10:World} {base s3 b3 b7 m1 n1:Nat} {T1:TypeId} {us1:List Value} {v5 v10:Value} (o5:w5.ownsRow base T1 m1 v5 n1 us1) (hA:Below w5.heap.size w5 wA) (g10:wA.grownBy w10 (some b7)) (l10:v10.ownBlock=some b7∨v10.ownBlock=some wA.heap.size) (l5:v5.ownBlock=some b3∨v5.ownBlock=some s3) (hd:(b3≠b7∧s3≠b7)∨w5.heap.size≤b7):w10.ownsRow base T1 m1 v5 n1 us1∧Apt v5 v10:=by
 have hlt:=fun q hq=>(World.ownsRow.lt o5 q hq).2
 have hne:∀q,v5.ownBlock=some q→q≠b7:=fun q hq=>by
  have h1:=hlt q hq
  rcases hd with ⟨h2,h3⟩ | h2
  · rcases l5 with l | l
    · rw[l] at hq;have:=ξo hq;omega
    · rw[l] at hq;have:=ξo hq;omega
  · omega
 refine⟨row_kept0 o5 fun q hq=>(g10.block q (ξq (hlt q hq) hA.size) fun e=>hne q hq (ξo e)).trans (hA.block q (hlt q hq)),fun q hq e=> ?_⟩
 rcases l10 with l | l
 · rw[l] at e;exact hne q hq (ξo e).symm
 · rw[l] at e
   have h1:=ξo e
   have h2:=hlt q hq
   have h3:=hA.size
   omega
end Go.Proofs.YtofcicomhnkocaaGreat
