import Derived.Test.YtofcicomhnkocaaGreatBx32
set_option linter.unusedVariables false
namespace Go.Proofs.YtofcicomhnkocaaGreat
set_option maxHeartbeats 12800000
open Go.RowKit Go.Sort
set_option maxRecDepth 100000
def lenAt (w:World) (a:Addr):Nat:=match w.cell? a with | some (.slice _ n _)=>n | _=>0
theorem ξax {w:World} {base g c n m j:Nat} {T:TypeId} {u:Value} {xs:List Value} (h:w.ownsRow base T m (.slice (some ⟨g,0,none⟩) n c) n xs) (hj:j<n*m):(w.setCell ⟨g,j,none⟩ u).ownsRow base T m (.slice (some ⟨g,0,none⟩) n c) n (xs.set j u):=by
 refine⟨by rw[List.length_set];exact h.1,.inr ?_⟩
 rcases h.2 with ⟨e,_⟩ | ⟨g',cap,cur,e,h1,h2,h3,h4,h5,h6⟩
 · cases e
 · simp only[Value.slice.injEq,Option.some.injEq,Addr.mk.injEq,and_true,true_and] at e
   obtain⟨rfl,rfl⟩:=e
   refine⟨g,c,cur.setIfInBounds j u,rfl,h1,ξe w g j _ _ _ h2,h3,h4,by simpa using h5,?_⟩
   rw[←h6,Array.toList_setIfInBounds,List.take_set]
theorem fbs_at (fs:List Fib) (i r:Nat) (hr:r<4):(fbs fs)[i*4+r]?= (fs[i]?).bind fun f=>(fibE f)[r]?:=by
 induction fs generalizing i with
 | nil=>simp[fbs]
 | cons f fs ih=>
   unfold fbs at ih ⊢
   rw[List.flatMap_cons]
   cases i with
   | zero=>rw[Nat.zero_mul,Nat.zero_add,List.getElem?_append_left (by simp[fibE];omega)];rfl
   | succ i=>
     rw[List.getElem?_append_right (by simp[fibE];omega)]
     have:(i+1)*4+r-(fibE f).length=i*4+r:=by simp[fibE];omega
     rw[this,ih];rfl
theorem fbs_set (fs:List Fib) (i:Nat) (f:Fib) (hi:i<fs.length):fbs (fs.set i f)=((((fbs fs).set (i*4) (.int .i64 f.a)).set (i*4+1) (.int .i64 f.b)).set (i*4+2) (.int .i64 f.l)).set (i*4+3) (.int .i64 f.r):=by
 refine List.ext_getElem? fun j=> ?_
 by_cases hj:j<fs.length*4
 · obtain⟨q,r,hr,rfl⟩:∃q r,r<4∧j=q*4+r:=⟨j/4,j%4,by omega,by omega⟩
   have hl:=fbs_len fs
   rw[fbs_at _ q r hr]
   simp only[List.getElem?_set,List.length_set,hl]
   have hq:q<fs.length:=by omega
   by_cases e:i=q
   · subst e
     match r,hr with
     | 0,_=>simp[hi,fibE] <;> omega
     | 1,_=>simp[hi,fibE] <;> omega
     | 2,_=>simp[hi,fibE] <;> omega
     | 3,_=>simp[hi,fibE] <;> omega
   · rw[if_neg e,if_neg (by omega),if_neg (by omega),if_neg (by omega),if_neg (by omega),fbs_at _ q r hr]
 · have h1:(fbs (fs.set i f)).length=fs.length*4:=by rw[fbs_len,List.length_set]
   rw[List.getElem?_eq_none (by omega),List.getElem?_eq_none (by simp only[List.length_set,fbs_len];omega)]
structure NbF (w w1 wr:World) (B:Nat) (c:Value) (K bN bF:Nat) (u1 u2:Value) (n:Net) (f:Fib):Prop where
 nb:Nb w1 wr B c K bN u1 u2 n
 fbox:wr.heap[bF]?= some (.cells #[.int .i64 f.a,.int .i64 f.b,.int .i64 f.l,.int .i64 f.r] 146 (0,0))
 hb:w1.heap.size≤bF
 ne:bF≠bN∧u1.ownBlock≠some bF∧u2.ownBlock≠some bF
 sf:ξV f
 out:wr.heap[w.heap.size]?= some (.cells #[.slice none 0 0,.slice none 0 0] 35 (0,0))
 hz:w.heap.size<w1.heap.size
section
variable {w w1 wr w' : World} {B K K' bN bF : Nat} {c u1 u2 v : Value} {n : Net} {f : Fib}
theorem NbF.call (h:NbF w w1 wr B c K bN bF u1 u2 n f) (hB:B<w.heap.size) (hc:CS wr B c K' w'):NbF w w1 w' B c K' bN bF u1 u2 n f:=by
 have h1:=h.hb
 have h2:=h.hz
 exact⟨h.nb.call hc,hc.blk h.fbox (by omega),h.hb,h.ne,h.sf,hc.blk h.out (by omega),h.hz⟩
theorem NbF.below (h:NbF w w1 wr B c K bN bF u1 u2 n f) (hb:Below wr.heap.size wr w'):NbF w w1 w' B c K bN bF u1 u2 n f:=
 ⟨h.nb.below hb,ξA h.fbox hb,h.hb,h.ne,h.sf,ξA h.out hb,h.hz⟩
theorem NbF.mono (h:NbF w w1 wr B c K bN bF u1 u2 n f) (hk:K≤K'):NbF w w1 wr B c K' bN bF u1 u2 n f:=⟨h.nb.mono hk,h.fbox,h.hb,h.ne,h.sf,h.out,h.hz⟩
theorem NbF.ltF (h:NbF w w1 wr B c K bN bF u1 u2 n f):bF<wr.heap.size:=(ξa h.fbox).1
theorem NbF.ltN (h:NbF w w1 wr B c K bN bF u1 u2 n f):bN<wr.heap.size:=(ξa h.nb.box).1
theorem NbF.fld (h:NbF w w1 wr B c K bN bF u1 u2 n f) (j:Nat) (x:Int) (f':Fib) (he:(#[Value.int .i64 f.a,.int .i64 f.b,.int .i64 f.l,.int .i64 f.r]:Array Value).setIfInBounds j (.int .i64 x)= #[.int .i64 f'.a,.int .i64 f'.b,.int .i64 f'.l,.int .i64 f'.r]) (hs:ξV f'):NbF w w1 (wr.setCell ⟨bF,j,none⟩ (.int .i64 x)) B c K bN bF u1 u2 n f':=by
 have h1:=h.hb
 have h2:=h.hz
 have h3:=h.nb.hb
 have ho:∀g,g≠bF→(wr.setCell ⟨bF,j,none⟩ (.int .i64 x)).heap[g]?= wr.heap[g]?:=fun g hg=>ξm wr ⟨bF,j,none⟩ g _ hg
 refine⟨⟨h.nb.cs.set h1 _,(ho _ (Ne.symm h.ne.1)).trans h.nb.box,h.nb.d.kept fun g _ hg=>ho g fun e=> ?_,h.nb.hb,h.nb.ne⟩,?_,h1,h.ne,hs,(ho _ (by omega)).trans h.out,h2⟩
 · subst e;exact hg.elim h.ne.2.1 h.ne.2.2
 · rw[←he];exact ξe wr bF j _ _ _ h.fbox
theorem NbF.app {fs':List Fib} (h:NbF w w1 wr B c K bN bF u1 u2 n f) (hr:w'.ownsRow w1.heap.size 146 4 v fs'.length (fbs fs')) (hg:wr.grownBy w' u2.ownBlock) (hl:v.ownBlock=u2.ownBlock∨v.ownBlock=some wr.heap.size) (hs:∀f∈fs',ξV f) (hl2:fs'.length≤40):
 NbF w w1 (w'.setCell ⟨bN,1,none⟩ v) B c K bN bF u1 v ⟨n.ns,fs'⟩ f:=by
 have h1:=h.hb
 have h2:=h.hz
 have h3:=h.nb.hb
 refine⟨h.nb.app hr hg hl hs hl2,?_,h1,⟨h.ne.1,h.ne.2.1,fun e=> ?_⟩,h.sf,?_,h2⟩
 · rw[ξm w' ⟨bN,1,none⟩ bF v h.ne.1]
   exact(hg.block bF h.ltF fun e=>h.ne.2.2 e.symm).trans h.fbox
 · rcases hl with hl | hl
   · exact h.ne.2.2 (hl.symm.trans e)
   · have:=h.ltF
     rw[hl] at e
     have:=ξo e
     omega
 · rw[ξm w' ⟨bN,1,none⟩ w.heap.size v (show w.heap.size≠bN by omega)]
   exact(hg.block _ (ξa h.out).1 fun e=>by have:=(h.nb.d.fs.lt _ e.symm).1;omega).trans h.out
theorem NbF.appN {ns':List ByteArray} (h:NbF w w1 wr B c K bN bF u1 u2 n f) (hr:w'.ownsRow w1.heap.size 9 1 v ns'.length (ns'.map Value.string)) (hg:wr.grownBy w' u1.ownBlock) (hl:v.ownBlock=u1.ownBlock∨v.ownBlock=some wr.heap.size) (hs:∀s∈ns',s.size≤9) (hl2:2≤ns'.length∧ns'.length≤16):
 NbF w w1 (w'.setCell ⟨bN,0,none⟩ v) B c K bN bF v u2 ⟨ns',n.fs⟩ f:=by
 have h1:=h.hb
 have h2:=h.hz
 have h3:=h.nb.hb
 have hnn:∀b,b<wr.heap.size→u1.ownBlock≠some b→v.ownBlock≠some b:=fun b hb hn e=>by
  rcases hl with hl | hl
  · exact hn (hl.symm.trans e)
  · rw[hl] at e
    have:=ξo e
    omega
 have ho:∀g,g<wr.heap.size→u1.ownBlock≠some g→g≠bN→(w'.setCell ⟨bN,0,none⟩ v).heap[g]?= wr.heap[g]?:=fun g hg1 hg2 hg3=>by
  rw[ξm w' ⟨bN,0,none⟩ g v hg3]
  exact hg.block g hg1 fun e=>hg2 e.symm
 have hbx:=(hg.block bN h.ltN fun e=>h.nb.ne.1 e.symm).trans h.nb.box
 have hvN:=hnn bN h.ltN h.nb.ne.1
 refine⟨⟨(h.nb.cs.grown hg fun g e=>(h.nb.d.ns.lt g e).1).set h.nb.hb v,ξe w' bN 0 _ _ v hbx,⟨ξaa hr fun g hg'=>ξm w' ⟨bN,0,none⟩ g v fun e=>hvN (by rw[hg'];exact congrArg some e),ξaa h.nb.d.fs fun g hg'=>ho g (h.nb.d.fs.lt g hg').2 (fun e=>h.nb.d.ap g e hg') (fun e=>h.nb.ne.2 (by rw[hg',e])),fun q hq e=> ?_,h.nb.d.sm,hs,hl2,h.nb.d.fl⟩,h.nb.hb,⟨hvN,h.nb.ne.2⟩⟩,(ho bF h.ltF h.ne.2.1 h.ne.1).trans h.fbox,h1,⟨h.ne.1,hnn bF h.ltF h.ne.2.1,h.ne.2.2⟩,h.sf,(ho _ (ξa h.out).1 (fun e=>by have:=(h.nb.d.ns.lt _ e).1;omega) (by omega)).trans h.out,h2⟩
 exact hnn q (h.nb.d.fs.lt q e).2 (fun e'=>h.nb.d.ap q e' e) hq
theorem NbF.node {g c1:Nat} {s:ByteArray} (h:NbF w w1 wr B c K bN bF u1 u2 n f) (hu:u1= .slice (some ⟨g,0,none⟩) n.ns.length c1) (hs:s.size≤9):
 NbF w w1 (wr.setCell ⟨g,0,none⟩ (.string s)) B c K bN bF u1 u2 ⟨n.ns.set 0 s,n.fs⟩ f:=by
 subst hu
 have h1:=h.hb
 have h2:=h.hz
 have h3:=h.nb.hb
 have hg0:=h.nb.d.ns.lt g rfl
 have ho:∀b,b≠g→(wr.setCell ⟨g,0,none⟩ (.string s)).heap[b]?= wr.heap[b]?:=fun b hb=>ξm wr ⟨g,0,none⟩ b _ hb
 have hnl:=h.nb.d.nl
 refine⟨⟨h.nb.cs.set hg0.1 _,(ho bN fun e=>h.nb.ne.1 (congrArg some e.symm)).trans h.nb.box,⟨?_,ξaa h.nb.d.fs fun b hb=>ho b fun e=>h.nb.d.ap g rfl (by rw[hb,e]),h.nb.d.ap,h.nb.d.sm,fun x hx=> ?_,by show 2≤(n.ns.set 0 s).length∧(n.ns.set 0 s).length≤16;rw[List.length_set];exact hnl,h.nb.d.fl⟩,h.nb.hb,h.nb.ne⟩,(ho bF fun e=>h.ne.2.1 (congrArg some e.symm)).trans h.fbox,h1,h.ne,h.sf,(ho _ (by omega)).trans h.out,h2⟩
 · have:=ξax (u:= .string s) (j:=0) h.nb.d.ns (by omega)
   unfold StrRow
   rw[List.length_set,List.map_set]
   exact this
 · rcases List.mem_or_eq_of_mem_set hx with h | h
   · exact ‹NbF w w1 wr B c K bN bF _ u2 n f›.nb.d.nz x h
   · rw[h];exact hs
theorem NbF.setF {g c2 m:Nat} (h:NbF w w1 wr B c K bN bF u1 u2 n f) (hu:u2= .slice (some ⟨g,0,none⟩) m c2) (hm:n.fs.length=m) (i:Nat) (hi:i<m):
 NbF w w1 ((((wr.setCell ⟨g,i*4,none⟩ (.int .i64 f.a)).setCell ⟨g,i*4+1,none⟩ (.int .i64 f.b)).setCell ⟨g,i*4+2,none⟩ (.int .i64 f.l)).setCell ⟨g,i*4+3,none⟩ (.int .i64 f.r)) B c K bN bF u1 u2 ⟨n.ns,n.fs.set i f⟩ f:=by
 subst hm
 subst hu
 have h1:=h.hb
 have h2:=h.hz
 have h3:=h.nb.hb
 have hg0:=h.nb.d.fs.lt g rfl
 have ho:∀b,b≠g→((((wr.setCell ⟨g,i*4,none⟩ (.int .i64 f.a)).setCell ⟨g,i*4+1,none⟩ (.int .i64 f.b)).setCell ⟨g,i*4+2,none⟩ (.int .i64 f.l)).setCell ⟨g,i*4+3,none⟩ (.int .i64 f.r)).heap[b]?= wr.heap[b]?:=fun b hb=>by
  rw[ξm _ ⟨g,i*4+3,none⟩ b _ hb,ξm _ ⟨g,i*4+2,none⟩ b _ hb,ξm _ ⟨g,i*4+1,none⟩ b _ hb,ξm _ ⟨g,i*4,none⟩ b _ hb]
 have hfl:=h.nb.d.fl
 refine⟨⟨((((h.nb.cs.set hg0.1 _).set hg0.1 _).set hg0.1 _).set hg0.1 _),(ho bN fun e=>h.nb.ne.2 (congrArg some e.symm)).trans h.nb.box,⟨ξaa h.nb.d.ns fun b hb=>ho b fun e=>h.nb.d.ap b hb (congrArg some e.symm),?_,h.nb.d.ap,fun x hx=> ?_,h.nb.d.nz,h.nb.d.nl,by show(n.fs.set i f).length≤40;rw[List.length_set];exact hfl⟩,h.nb.hb,h.nb.ne⟩,(ho bF fun e=>h.ne.2.2 (congrArg some e.symm)).trans h.fbox,h1,h.ne,h.sf,(ho _ (by omega)).trans h.out,h2⟩
 · have:=ξax (u:= .int .i64 f.r) (j:=i*4+3) (ξax (u:= .int .i64 f.l) (j:=i*4+2) (ξax (u:= .int .i64 f.b) (j:=i*4+1) (ξax (u:= .int .i64 f.a) (j:=i*4) h.nb.d.fs (by omega)) (by omega)) (by omega)) (by omega)
   unfold FibRow
   rw[List.length_set,fbs_set _ _ _ hi]
   exact this
 · rcases List.mem_or_eq_of_mem_set hx with h | h
   · exact ‹NbF w w1 wr B c K bN bF _ _ n f›.nb.d.sm x h
   · rw[h];exact ‹NbF w w1 wr B c K bN bF _ _ n f›.sf
theorem NbF.frz {g c2 m:Nat} (h:NbF w w1 wr B c K bN bF u1 u2 n f) (hu:u2= .slice (some ⟨g,0,none⟩) m c2) (j:Nat):wr.frozen? ⟨g,j,none⟩=false:=by
 rcases h.nb.d.fs.2 with ⟨e,_⟩ | ⟨g',cap,cur,e,h1,h2,h3⟩
 · rw[e] at hu;cases hu
 · rw[e] at hu
   cases hu
   simp only[World.frozen?,h2];rfl
theorem NbF.frzN {g c2 m:Nat} (h:NbF w w1 wr B c K bN bF u1 u2 n f) (hu:u1= .slice (some ⟨g,0,none⟩) m c2) (j:Nat):wr.frozen? ⟨g,j,none⟩=false:=by
 rcases h.nb.d.ns.2 with ⟨e,_⟩ | ⟨g',cap,cur,e,h1,h2,h3⟩
 · rw[e] at hu;cases hu
 · rw[e] at hu
   cases hu
   simp only[World.frozen?,h2];rfl
theorem NbF.nod {g c2:Nat} (h:NbF w w1 wr B c K bN bF u1 u2 n f) (hu:u1= .slice (some ⟨g,0,none⟩) n.ns.length c2):∃u,wr.cell? ⟨g,0,none⟩=some u:=by
 subst hu
 have hl:=h.nb.d.nl
 have:=World.ownsRow.cells h.nb.d.ns (g:=g) rfl 0 _ (ξg (by rw[List.length_map];omega))
 rw[addr_add,Nat.zero_add] at this
 exact⟨_,this⟩
theorem NbF.cel {g c2 m:Nat} (h:NbF w w1 wr B c K bN bF u1 u2 n f) (hu:u2= .slice (some ⟨g,0,none⟩) m c2) (hm:n.fs.length=m) (i:Nat) (hi:i<m) (r:Nat) (hr:r<4):∃u,wr.cell? ⟨g,i*4+r,none⟩=some u:=by
 have hl:i*4+r<(fbs n.fs).length:=by rw[fbs_len];omega
 subst hu
 have:=World.ownsRow.cells h.nb.d.fs (g:=g) rfl (i*4+r) _ (ξg hl)
 rw[addr_add,Nat.zero_add] at this
 exact⟨_,this⟩
theorem Nb.fib {g c2 m:Nat} (h:Nb w1 wr B c K bN u1 u2 n) (hu:u2= .slice (some ⟨g,0,none⟩) m c2) (i:Nat) (hi:i<n.fs.length) (r:Nat) (hr:r<4) (u:Value) (he:(fibE (n.fs[i]?.getD nilB))[r]?= some u):wr.cell? ⟨g,i*4+r,none⟩=some u:=by
 subst hu
 have:=World.ownsRow.cells h.d.fs (g:=g) rfl (i*4+r) u (by rw[fbs_at _ i r hr,ξg hi];rw[ξg hi] at he;exact he)
 rw[addr_add,Nat.zero_add] at this
 exact this
theorem NbF.tl {g c2 m:Nat} {fa fb fl fr:Int} (h:NbF w w1 wr B c K bN bF u1 (.slice (some ⟨g,0,none⟩) m c2) n ⟨fa,fb,fl,fr⟩) (hm:n.fs.length=m) (i:Nat) (hi:i<m):
 wr.cell? ⟨bF,0,none⟩=some (.int .i64 fa)∧wr.cell? ⟨bF,1,none⟩=some (.int .i64 fb)∧wr.cell? ⟨bF,2,none⟩=some (.int .i64 fl)∧wr.cell? ⟨bF,3,none⟩=some (.int .i64 fr)∧wr.cell? ⟨bN,1,none⟩=some (.slice (some ⟨g,0,none⟩) m c2)∧(wr.frozen? ⟨g,i*4,none⟩=false∧wr.frozen? ⟨g,i*4+1,none⟩=false∧wr.frozen? ⟨g,i*4+2,none⟩=false∧wr.frozen? ⟨g,i*4+3,none⟩=false)∧(∃u,wr.cell? ⟨g,i*4,none⟩=some u)∧(∃u,wr.cell? ⟨g,i*4+1,none⟩=some u)∧(∃u,wr.cell? ⟨g,i*4+2,none⟩=some u)∧ ∃u,wr.cell? ⟨g,i*4+3,none⟩=some u:=
 ⟨blkc h.fbox rfl,blkc h.fbox rfl,blkc h.fbox rfl,blkc h.fbox rfl,blkc h.nb.box rfl,⟨h.frz rfl _,h.frz rfl _,h.frz rfl _,h.frz rfl _⟩,h.cel rfl hm i hi 0 (by omega),h.cel rfl hm i hi 1 (by omega),h.cel rfl hm i hi 2 (by omega),h.cel rfl hm i hi 3 (by omega)⟩
theorem NbF.setW {g c2 m:Nat} {fa fb fl fr:Int} (h:NbF w w1 wr B c K bN bF u1 (.slice (some ⟨g,0,none⟩) m c2) n ⟨fa,fb,fl,fr⟩) (hm:n.fs.length=m) (i:Nat) (hi:i<m):
 ∃wz,Hid (wz=(((wr.setCell ⟨g,i*4,none⟩ (.int .i64 fa)).setCell ⟨g,i*4+1,none⟩ (.int .i64 fb)).setCell ⟨g,i*4+2,none⟩ (.int .i64 fl)).setCell ⟨g,i*4+3,none⟩ (.int .i64 fr))∧Hid (NbF w w1 wz B c K bN bF u1 (.slice (some ⟨g,0,none⟩) m c2) ⟨n.ns,n.fs.set i ⟨fa,fb,fl,fr⟩⟩ ⟨fa,fb,fl,fr⟩):=
 ⟨_,ξh rfl,ξh (h.setF rfl hm i hi)⟩
theorem NbF.te (h:NbF w w1 wr B c K bN bF u1 u2 n f):wr.cell? ⟨w.heap.size,0,none⟩=some (.slice none 0 0)∧wr.cell? ⟨w.heap.size,1,none⟩=some (.slice none 0 0)∧wr.frozen? ⟨w.heap.size,0,none⟩=false∧wr.frozen? ⟨w.heap.size,1,none⟩=false∧wr.cell? ⟨bN,0,none⟩=some u1∧wr.cell? ⟨bN,1,none⟩=some u2:=
 have x:=h.out
 ⟨blkc x rfl,blkc x rfl,by simp only[World.frozen?,x];rfl,by simp only[World.frozen?,x];rfl,blkc h.nb.box rfl,blkc h.nb.box rfl⟩
theorem NbF.begin (h:Nb w1 wr B c K bN u1 u2 n) (hs:ξV f) (ho:wr.heap[w.heap.size]?= some (.cells #[.slice none 0 0,.slice none 0 0] 35 (0,0))) (hz:w.heap.size<w1.heap.size):
 NbF w w1 (wr.alloc (.cells #[.int .i64 f.a,.int .i64 f.b,.int .i64 f.l,.int .i64 f.r] 146)) B c K bN wr.heap.size u1 u2 n f:=by
 have hN:bN<wr.heap.size:=(ξa h.box).1
 exact⟨h.alloc _,ξn _ _,h.cs.size,⟨by omega,fun e=>by have:=(h.d.ns.lt _ e).2;omega,fun e=>by have:=(h.d.fs.lt _ e).2;omega⟩,hs,(heap_alloc_old _ _ (ξa ho).1).trans ho,hz⟩
theorem NbF.pick (h:NbF w w1 wr B c K bN bF u1 u2 n f) (hB:B<w.heap.size) (hk:K≤4000000000000000) (N:Int) (h1:1≤N) (h2:N≤1073741824):
 Calls Tryz.prog 72 #[.pointer (some ⟨B,0,none⟩),.int .i64 N] wr fun e w'=>∃x:Int,0≤x∧x≤N-1∧e= .returned (.int .i64 x)∧Hid (NbF w w1 w' B c (K+2) bN bF u1 u2 n f):=by
 refine(ξX B c K N wr h.nb.cs.st hk h1 h2).mono ?_
 rintro e w' ⟨x,x0,x1,rfl,hc,-⟩
 exact⟨x,x0,x1,rfl,h.call hB hc⟩
end
theorem ξbX (B:Nat) (c:Value) (K:Nat) (w:World) (h:Cs w B c K) (hk:K≤3000000000000000):
 Calls Tryz.prog 70 #[ptr B] w (NtQ (fun _=>True) 200 w B c K):=by
 have b1:=(ξb w.heap.size w).alloc (ξr _) (.cells #[.slice none 0 0,.slice none 0 0] 35)
 have k1:=ξn w (.cells #[.slice none 0 0,.slice none 0 0] 35)
 have HC1:=ξh (h.here.below b1)
 have HK1:=ξh k1
 have z1:(w.alloc (.cells #[.slice none 0 0,.slice none 0 0] 35)).heap.size=w.heap.size+1:=by simp
 have HZ1:=ξh z1
 obtain⟨NP,hNP⟩:∃NP,NP=NtQ (fun _=>True) 200 w B c K:=⟨_,rfl⟩
 rw[←hNP]
 have hBw:=h.lt.1
 clear h b1 k1 z1
 go_enter Tryz.func70,Tryz.ntmps70
 go_wp2_with fail
 generalize w.alloc (.cells #[.slice none 0 0,.slice none 0 0] 35)=w1 at *
 refine(ξcx B c K w1 HC1.st (by omega)).mono ?_
 rintro e w2 ⟨u1,u2,n,rfl,⟨hl9,hl6⟩,hd,hc2⟩
 have CC:=ξh (Nb.box0 hc2 hd)
 obtain⟨⟨a1,c1,rfl⟩,⟨a2,c2,rfl⟩⟩:=hd.slices
 have hB:=HC1.1.1
 have HO:=ξh (CC.cs.blk HK1.out (by omega))
 have hnl:=hd.nl
 clear hd hc2
 go_upto_region 2 with fail
 generalize hbN:w2.heap.size=bN at *
 generalize w2.alloc (.cells #[.slice a1 n.ns.length c1,.slice a2 n.fs.length c2] 35)=w3 at *
 have y1:=CC.cell
 by_cases hn:n.fs.length=0
 · have hnI:(n.fs.length:Int)=0:=by omega
   rw[hn] at y1
   have y0:w3.cell? ⟨bN,0,none⟩=some (.slice a1 n.ns.length c1):=blkc CC.box rfl
   have z0:=blkc HO.out (show _=some (Value.slice none 0 0) from rfl) (j:=0)
   have z1:=blkc HO.out (show _=some (Value.slice none 0 0) from rfl) (j:=1)
   have f0:w3.frozen? ⟨w.heap.size,0,none⟩=false:=by have x2:=HO.out;simp only[World.frozen?,x2];rfl
   have f1:w3.frozen? ⟨w.heap.size,1,none⟩=false:=by have x2:=HO.out;simp only[World.frozen?,x2];rfl
   go_wp2_with fail
   subst hNP
   have HH:=Nb.doneQ (m:=200) (K:=K) (Z:=fun _=>True) CC.out HC1.out HZ1.out (by omega) trivial
   rw[hn] at HH
   exact bodyPost_ret (v:= .agg #[.slice a1 n.ns.length c1,.slice a2 0 c2]) (by simp[results,Tryz.results70,go_sem,z0,z1]) rfl HH
 · have hnI:¬(n.fs.length:Int)=0:=by omega
   obtain⟨g,rfl⟩:∃g,a2=some ⟨g,0,none⟩:=by
    rcases CC.d.fs.2 with ⟨e,e2⟩ | ⟨g,cap,cur,e,_⟩
    · omega
    · cases e;exact⟨g,rfl⟩
   go_wp2_with fail
   refine(CC.pick (by omega) (n.fs.length:Int) (by omega) (by omega)).mono ?_
   rintro e w4 ⟨x,x0,x1,rfl,CC4,hc4⟩
   obtain⟨i,rfl⟩:=Int.eq_ofNat_of_zero_le x0
   have hi:i<n.fs.length:=by omega
   have hiI:(i:Int)<(n.fs.length:Int):=by omega
   have HO4:=ξh (hc4.blk HO.out (by omega))
   have y1:=CC4.cell
   have r0:=CC4.fib rfl i hi 0 (by omega) _ rfl
   have r1:=CC4.fib rfl i hi 1 (by omega) _ rfl
   have r2:=CC4.fib rfl i hi 2 (by omega) _ rfl
   have r3:=CC4.fib rfl i hi 3 (by omega) _ rfl
   rw[Nat.add_zero] at r0
   have hsf:ξV (n.fs[i]?.getD nilB):=CC4.d.sm _ (by rw[ξg hi];exact ξj hi)
   have CD:=ξh (NbF.begin (f:=n.fs[i]?.getD nilB) CC4.out hsf HO4.out (by have:=HZ1.out;omega))
   generalize n.fs[i]?.getD nilB=f at *
   obtain⟨fa,fb,fl,fr⟩:=f
   clear CC hc4 HO HO4 x0 x1
   go_upto_region 6 with fail
   generalize w4.heap.size=bF at *
   generalize w4.alloc (.cells #[.int .i64 fa,.int .i64 fb,.int .i64 fl,.int .i64 fr] 146)=w5 at *
   clear CC4 r0 r1 r2 r3 y1
   go_wp2_with fail
   refine(CD.pick hBw (by omega) 24 (by omega) (by omega)).mono ?_
   rintro e w6 ⟨k,k0,k1,rfl,CC⟩
   clear CD
   have hl9':n.fs.length≤9:=hl9
   have hz1:=HZ1.out
   by_cases e0:k=0
   · skip
     subst e0
     obtain⟨gn,rfl⟩:∃gn,a1=some ⟨gn,0,none⟩:=by
      rcases CC.nb.d.ns.2 with ⟨e,e2⟩ | ⟨g',cap,cur,e,_⟩
      · omega
      · cases e;exact⟨g',rfl⟩
     have hn1:0<n.ns.length:=by omega
     have hn1I:(0:Int)<(n.ns.length:Int):=by omega
     have hlw:=CC.ltF
     have hsw:=CC.nb.cs.size
     have CD:=ξh (CC.below (ξb _ _).drew)
     go_upto_region 8 with fail
     refine ξH [0,1,2,3,4,5] (S:=fun w'=>w'.cell? ⟨bN,0,none⟩=some (.slice (some ⟨gn,0,none⟩) n.ns.length c1)) (by kernel_rfl) (blkc CD.nb.box rfl) (fun hH=> ?_)
     refine hlF 0 rfl hH ?_
     try simp only[Act.put,hlA,hlB,hlC]
     refine hlF 1 rfl hH ?_
     try simp only[Act.put,hlA,hlB,hlC]
     refine hlF 2 rfl hH ?_
     try simp only[Act.put,hlA,hlB,hlC]
     refine ξB (rs:=[3]) (by kernel_rfl) (by simp) ?_
     refine AllReadyL.cons rfl (fun KK hKK=> ?_) AllReadyL.nil
     go_simp
     have CA:=ξh (CD.below ((ξb _ _).alloc (ξr _) (.cells #[.string ⟨#[98]⟩,.string ⟨#[]⟩,.string ⟨#[65]⟩,.string ⟨#[97,98,99,100,101,102,103,104]⟩,.string ⟨#[97,98,99,100,101,102,103,104,105]⟩,.string ⟨#[120,49]⟩] 9)))
     refine hKK.out _ _ (blkc CA.nb.box rfl) (fun hH=> ?_)
     clear hKK KK
     try simp only[Act.put,hlA,hlB,hlC]
     refine ξB (rs:=[4]) (by kernel_rfl) (by simp) ?_
     refine AllReadyL.cons rfl (fun KK hKK=> ?_) AllReadyL.nil
     go_simp
     go_at_call 122
     refine(ofC B c _ w6.heap.size 6 6 [⟨#[98]⟩,⟨#[]⟩,⟨#[65]⟩,⟨#[97,98,99,100,101,102,103,104]⟩,⟨#[97,98,99,100,101,102,103,104,105]⟩,⟨#[120,49]⟩] _ CA.nb.cs.st (by omega) rfl (by omega) (by omega) (by omega) (by
      intro j hj
      have hg:=ξn w6.drew (.cells #[.string ⟨#[98]⟩,.string ⟨#[]⟩,.string ⟨#[65]⟩,.string ⟨#[97,98,99,100,101,102,103,104]⟩,.string ⟨#[97,98,99,100,101,102,103,104,105]⟩,.string ⟨#[120,49]⟩] 9)
      rcases j with _ | _ | _ | _ | _ | _ | j
      · exact blkc hg rfl
      · exact blkc hg rfl
      · exact blkc hg rfl
      · exact blkc hg rfl
      · exact blkc hg rfl
      · exact blkc hg rfl
      · omega)).mono ?_
     rintro e w7 ⟨s,rfl,hs,hc7⟩
     have C7:=ξh (CA.call hBw hc7)
     have hs9:s.size≤9:=by
      simp at hs
      rcases hs with rfl | rfl | rfl | rfl | rfl | rfl <;> decide
     refine hKK.out _ _ (blkc C7.nb.box rfl) (fun hH=> ?_)
     clear hKK KK
     try simp only[Act.put,hlA,hlB,hlC]
     refine ξG 5 rfl (by kernel_rfl) (by kernel_rfl) (fun KK hKK=> ?_)
     go_simp
     obtain⟨u0,q0⟩:=C7.nod (g:=gn) rfl
     have q1:=C7.frzN (g:=gn) rfl 0
     refine hKK.out _ _ ?_
     clear hKK KK
     try simp only[Act.put,hlA,hlB,hlC]
     refine ξG 6 rfl (by kernel_rfl) (by kernel_rfl) (fun KK hKK=> ?_)
     go_simp
     refine hKK.out _ _ ?_
     clear hKK KK
     try simp only[Act.put,hlA,hlB,hlC]
     refine ξS (by kernel_rfl) ?_ _
     rotate_left 1
     have C8:=ξh (C7.node (s:=s) rfl hs9)
     clear CC CA CD hs hc7 q0 q1 hH
     generalize w7.setCell ⟨gn,0,none⟩ (.string s)=w8 at *
     clear C7
     go_upto_region 25 with fail
     have hi9:i<n.fs.length:=by omega
     have hi9I:(i:Int)<((n.fs.length:Nat):Int):=by omega
     obtain⟨wz,ez,CZ⟩:=C8.setW (g:=g) (m:=n.fs.length) (c2:=c2) rfl i hi9
     obtain⟨p0,p1,p2,p3,y1,⟨l0,l1,l2,l3⟩,⟨_,c0⟩,⟨_,c1'⟩,⟨_,c2'⟩,⟨_,c3'⟩⟩:=C8.tl (g:=g) (m:=n.fs.length) (c2:=c2) rfl i hi9
     go_upto_region 26 with fail
     clear l0 l1 l2 l3 c0 c1' c2' c3' p0 p1 p2 p3 y1 hi9 hi9I
     rw[←ez.out]
     obtain⟨z0,z1,f0,f1,y0,y1⟩:=CZ.te
     go_wp2_with fail
     subst hNP
     have HH:=Nb.doneQ (m:=200) (K:=K) (Z:=fun _=>True) CZ.nb HC1.out HZ1.out (by omega) trivial
     exact bodyPost_ret (v:= .agg #[.slice (some ⟨gn,0,none⟩) n.ns.length c1,.slice (some ⟨g,0,none⟩) (n.fs.length) c2]) (by simp[results,Tryz.results70,go_sem,z0,z1]) rfl HH
   by_cases e1:k=1
   · skip
     subst e1
     go_wp2_with fail
     refine(CC.pick hBw (by omega) 8 (by omega) (by omega)).mono ?_
     rintro e w7 ⟨y,y0,y1,rfl,C7⟩
     have hwy:IntKind.i64.wrap (y-1)=y-1:=ξi _ (by omega)
     have C8:=ξh (C7.fld 0 (y-1) ⟨y-1,fb,fl,fr⟩ rfl (by have:=C7.sf;unfold ξV at this ⊢;simp only at this ⊢;omega))
     have q0:=blkc C7.fbox (show _=some (Value.int .i64 fa) from rfl) (j:=0)
     have q1:w7.frozen? ⟨bF,0,none⟩=false:=by have x2:=C7.fbox;simp only[World.frozen?,x2];rfl
     clear CC
     go_upto_region 25 with fail
     generalize w7.setCell ⟨bF,0,none⟩ (.int .i64 (y-1))=w8 at *
     clear q0 q1 C7
     have hi9:i<n.fs.length:=by omega
     have hi9I:(i:Int)<((n.fs.length:Nat):Int):=by omega
     obtain⟨wz,ez,CZ⟩:=C8.setW (g:=g) (m:=n.fs.length) (c2:=c2) rfl i hi9
     obtain⟨p0,p1,p2,p3,y1,⟨l0,l1,l2,l3⟩,⟨_,c0⟩,⟨_,c1'⟩,⟨_,c2'⟩,⟨_,c3'⟩⟩:=C8.tl (g:=g) (m:=n.fs.length) (c2:=c2) rfl i hi9
     go_upto_region 26 with fail
     clear l0 l1 l2 l3 c0 c1' c2' c3' p0 p1 p2 p3 y1 hi9 hi9I
     rw[←ez.out]
     obtain⟨z0,z1,f0,f1,y0,y1⟩:=CZ.te
     go_wp2_with fail
     subst hNP
     have HH:=Nb.doneQ (m:=200) (K:=K) (Z:=fun _=>True) CZ.nb HC1.out HZ1.out (by omega) trivial
     exact bodyPost_ret (v:= .agg #[.slice a1 n.ns.length c1,.slice (some ⟨g,0,none⟩) (n.fs.length) c2]) (by simp[results,Tryz.results70,go_sem,z0,z1]) rfl HH
   by_cases e2:k=2
   · skip
     subst e2
     go_wp2_with fail
     refine(CC.pick hBw (by omega) 10 (by omega) (by omega)).mono ?_
     rintro e w7 ⟨y,y0,y1,rfl,C7⟩
     have hwy:IntKind.i64.wrap (y-1)=y-1:=ξi _ (by omega)
     have C8:=ξh (C7.fld 1 (y-1) ⟨fa,y-1,fl,fr⟩ rfl (by have:=C7.sf;unfold ξV at this ⊢;simp only at this ⊢;omega))
     have q0:=blkc C7.fbox (show _=some (Value.int .i64 fb) from rfl) (j:=1)
     have q1:w7.frozen? ⟨bF,1,none⟩=false:=by have x2:=C7.fbox;simp only[World.frozen?,x2];rfl
     clear CC
     go_upto_region 25 with fail
     generalize w7.setCell ⟨bF,1,none⟩ (.int .i64 (y-1))=w8 at *
     clear q0 q1 C7
     have hi9:i<n.fs.length:=by omega
     have hi9I:(i:Int)<((n.fs.length:Nat):Int):=by omega
     obtain⟨wz,ez,CZ⟩:=C8.setW (g:=g) (m:=n.fs.length) (c2:=c2) rfl i hi9
     obtain⟨p0,p1,p2,p3,y1,⟨l0,l1,l2,l3⟩,⟨_,c0⟩,⟨_,c1'⟩,⟨_,c2'⟩,⟨_,c3'⟩⟩:=C8.tl (g:=g) (m:=n.fs.length) (c2:=c2) rfl i hi9
     go_upto_region 26 with fail
     clear l0 l1 l2 l3 c0 c1' c2' c3' p0 p1 p2 p3 y1 hi9 hi9I
     rw[←ez.out]
     obtain⟨z0,z1,f0,f1,y0,y1⟩:=CZ.te
     go_wp2_with fail
     subst hNP
     have HH:=Nb.doneQ (m:=200) (K:=K) (Z:=fun _=>True) CZ.nb HC1.out HZ1.out (by omega) trivial
     exact bodyPost_ret (v:= .agg #[.slice a1 n.ns.length c1,.slice (some ⟨g,0,none⟩) (n.fs.length) c2]) (by simp[results,Tryz.results70,go_sem,z0,z1]) rfl HH
   by_cases e3:k=3
   · skip
     subst e3
     have hlw:=CC.ltF
     have hsw:=CC.nb.cs.size
     have CA:=ξh (CC.below ((ξb _ _).alloc (ξr _) (.cells #[.int .i64 0,.int .i64 1,.int .i64 5000,.int .i64 5001] 3)))
     have HR:=ξh (ξar (n:=4) (lo:=0) (hi:=5001) (ξn w6 (.cells #[.int .i64 0,.int .i64 1,.int .i64 5000,.int .i64 5001] 3)) (by
      intro j hj
      rcases j with _ | _ | _ | _ | j
      · exact⟨0,by omega,by omega,rfl⟩
      · exact⟨1,by omega,by omega,rfl⟩
      · exact⟨5000,by omega,by omega,rfl⟩
      · exact⟨5001,by omega,by omega,rfl⟩
      · omega))
     go_wp2_with fail
     refine(ξaw B c _ w6.heap.size 4 4 (0) 5001 _ CA.nb.cs.st (by omega) (by omega) (by omega) (by omega) HR.out).mono ?_
     rintro e w7 ⟨y,y0,y1,rfl,hc7,-⟩
     have C7:=ξh (CA.call hBw hc7)
     have C8:=ξh (C7.fld 2 y ⟨fa,fb,y,fr⟩ rfl (by have:=C7.sf;unfold ξV at this ⊢;simp only at this ⊢;omega))
     have q0:=blkc C7.fbox (show _=some (Value.int .i64 fl) from rfl) (j:=2)
     have q1:w7.frozen? ⟨bF,2,none⟩=false:=by have x2:=C7.fbox;simp only[World.frozen?,x2];rfl
     clear CC CA HR hc7
     go_upto_region 25 with fail
     generalize w7.setCell ⟨bF,2,none⟩ (.int .i64 y)=w8 at *
     clear q0 q1 C7
     have hi9:i<n.fs.length:=by omega
     have hi9I:(i:Int)<((n.fs.length:Nat):Int):=by omega
     obtain⟨wz,ez,CZ⟩:=C8.setW (g:=g) (m:=n.fs.length) (c2:=c2) rfl i hi9
     obtain⟨p0,p1,p2,p3,y1,⟨l0,l1,l2,l3⟩,⟨_,c0⟩,⟨_,c1'⟩,⟨_,c2'⟩,⟨_,c3'⟩⟩:=C8.tl (g:=g) (m:=n.fs.length) (c2:=c2) rfl i hi9
     go_upto_region 26 with fail
     clear l0 l1 l2 l3 c0 c1' c2' c3' p0 p1 p2 p3 y1 hi9 hi9I
     rw[←ez.out]
     obtain⟨z0,z1,f0,f1,y0,y1⟩:=CZ.te
     go_wp2_with fail
     subst hNP
     have HH:=Nb.doneQ (m:=200) (K:=K) (Z:=fun _=>True) CZ.nb HC1.out HZ1.out (by omega) trivial
     exact bodyPost_ret (v:= .agg #[.slice a1 n.ns.length c1,.slice (some ⟨g,0,none⟩) (n.fs.length) c2]) (by simp[results,Tryz.results70,go_sem,z0,z1]) rfl HH
   by_cases e4:k=4
   · skip
     subst e4
     have hlw:=CC.ltF
     have hsw:=CC.nb.cs.size
     have CA:=ξh (CC.below ((ξb _ _).alloc (ξr _) (.cells #[.int .i64 (-1),.int .i64 9,.int .i64 10] 3)))
     have HR:=ξh (ξar (n:=3) (lo:= -1) (hi:=10) (ξn w6 (.cells #[.int .i64 (-1),.int .i64 9,.int .i64 10] 3)) (by
      intro j hj
      rcases j with _ | _ | _ | j
      · exact⟨-1,by omega,by omega,rfl⟩
      · exact⟨9,by omega,by omega,rfl⟩
      · exact⟨10,by omega,by omega,rfl⟩
      · omega))
     go_wp2_with fail
     refine(ξaw B c _ w6.heap.size 3 3 (-1) 10 _ CA.nb.cs.st (by omega) (by omega) (by omega) (by omega) HR.out).mono ?_
     rintro e w7 ⟨y,y0,y1,rfl,hc7,-⟩
     have C7:=ξh (CA.call hBw hc7)
     have C8:=ξh (C7.fld 3 y ⟨fa,fb,fl,y⟩ rfl (by have:=C7.sf;unfold ξV at this ⊢;simp only at this ⊢;omega))
     have q0:=blkc C7.fbox (show _=some (Value.int .i64 fr) from rfl) (j:=3)
     have q1:w7.frozen? ⟨bF,3,none⟩=false:=by have x2:=C7.fbox;simp only[World.frozen?,x2];rfl
     clear CC CA HR hc7
     go_upto_region 25 with fail
     generalize w7.setCell ⟨bF,3,none⟩ (.int .i64 y)=w8 at *
     clear q0 q1 C7
     have hi9:i<n.fs.length:=by omega
     have hi9I:(i:Int)<((n.fs.length:Nat):Int):=by omega
     obtain⟨wz,ez,CZ⟩:=C8.setW (g:=g) (m:=n.fs.length) (c2:=c2) rfl i hi9
     obtain⟨p0,p1,p2,p3,y1,⟨l0,l1,l2,l3⟩,⟨_,c0⟩,⟨_,c1'⟩,⟨_,c2'⟩,⟨_,c3'⟩⟩:=C8.tl (g:=g) (m:=n.fs.length) (c2:=c2) rfl i hi9
     go_upto_region 26 with fail
     clear l0 l1 l2 l3 c0 c1' c2' c3' p0 p1 p2 p3 y1 hi9 hi9I
     rw[←ez.out]
     obtain⟨z0,z1,f0,f1,y0,y1⟩:=CZ.te
     go_wp2_with fail
     subst hNP
     have HH:=Nb.doneQ (m:=200) (K:=K) (Z:=fun _=>True) CZ.nb HC1.out HZ1.out (by omega) trivial
     exact bodyPost_ret (v:= .agg #[.slice a1 n.ns.length c1,.slice (some ⟨g,0,none⟩) (n.fs.length) c2]) (by simp[results,Tryz.results70,go_sem,z0,z1]) rfl HH
   by_cases e5:k=5
   · skip
     subst e5
     have h0:0<n.fs.length:=by omega
     have h0I:(0:Int)<(n.fs.length:Int):=by omega
     have hf0:ξV (n.fs[0]?.getD nilB):=CC.nb.d.sm _ (by rw[ξg h0];exact ξj h0)
     have HRR:=ξh (fun(W:World) (KQ:Nat) (h:NbF w w1 W B c KQ bN bF (.slice a1 n.ns.length c1) (.slice (some ⟨g,0,none⟩) n.fs.length c2) n ⟨fa,fb,fl,fr⟩)=>show W.cell? ⟨bN,1,none⟩=some (.slice (some ⟨g,0,none⟩) n.fs.length c2)∧W.cell? ⟨g,0,none⟩=some (.int .i64 (n.fs[0]?.getD nilB).a)∧W.cell? ⟨g,1,none⟩=some (.int .i64 (n.fs[0]?.getD nilB).b)∧W.cell? ⟨g,2,none⟩=some (.int .i64 (n.fs[0]?.getD nilB).l)∧W.cell? ⟨g,3,none⟩=some (.int .i64 (n.fs[0]?.getD nilB).r) from
      ⟨h.nb.cell,by simpa using h.nb.fib rfl 0 h0 0 (by omega) _ rfl,by simpa using h.nb.fib rfl 0 h0 1 (by omega) _ rfl,by simpa using h.nb.fib rfl 0 h0 2 (by omega) _ rfl,by simpa using h.nb.fib rfl 0 h0 3 (by omega) _ rfl⟩)
     generalize n.fs[0]?.getD nilB=f0 at *
     have CD:=ξh (CC.below (ξb _ _).drew)
     go_upto_region 18 with fail
     refine ξH [0,1,2,3,4,5,6,7] (S:=fun w'=>w'.cell? ⟨bN,1,none⟩=some (.slice (some ⟨g,0,none⟩) n.fs.length c2)∧w'.cell? ⟨g,0,none⟩=some (.int .i64 f0.a)∧w'.cell? ⟨g,1,none⟩=some (.int .i64 f0.b)∧w'.cell? ⟨g,2,none⟩=some (.int .i64 f0.l)∧w'.cell? ⟨g,3,none⟩=some (.int .i64 f0.r)) (by kernel_rfl) (HRR.out _ _ CD.out) (fun hH=> ?_)
     refine hlF 0 rfl hH ?_
     try simp only[Act.put,hlA,hlB,hlC]
     refine hlF 1 rfl hH ?_
     try simp only[Act.put,hlA,hlB,hlC]
     refine hlF 2 rfl hH ?_
     try simp only[Act.put,hlA,hlB,hlC]
     refine hlF 3 rfl hH ?_
     try simp only[Act.put,hlA,hlB,hlC]
     refine hlF 4 rfl hH ?_
     try simp only[Act.put,hlA,hlB,hlC]
     refine hlF 5 rfl hH ?_
     try simp only[Act.put,hlA,hlB,hlC]
     refine ξB (rs:=[6]) (by kernel_rfl) (by simp) ?_
     refine AllReadyL.cons rfl (fun KK hKK=> ?_) AllReadyL.nil
     go_simp
     have CA:=ξh (CD.below ((ξb _ _).alloc (ξr _) (.cells #[.int .i64 f0.a,.int .i64 f0.b,.int .i64 f0.l,.int .i64 f0.r] 146)))
     refine hKK.out _ _ (HRR.out _ _ CA.out) (fun hH=> ?_)
     clear hKK KK
     try simp only[Act.put,hlA,hlB,hlC]
     refine ξG 7 rfl (by kernel_rfl) (by kernel_rfl) (fun KK hKK=> ?_)
     refine step_of_list rfl ?_
     refine wpList_catG rfl (.tmp 60) (.tmp 65) 33 146 rfl Tryz.underlying33 (.agg #[.int .i64 0,.int .i64 0,.int .i64 0,.int .i64 0]) 4 32 Tryz.infoFib rfl (by decide) w1.heap.size (.slice (some ⟨g,0,none⟩) n.fs.length c2) n.fs.length (fbs n.fs) (by rfl) CA.nb.d.fs (some ⟨w6.drew.heap.size,0,none⟩) 1 1 (fibE ⟨f0.a,f0.b,f0.l,f0.r⟩) (by rfl) rfl (fun e=>by cases e) (fun ad e j u hu=>by cases e;exact World.news_of_block (ξn w6.drew (.cells #[.int .i64 f0.a,.int .i64 f0.b,.int .i64 f0.l,.int .i64 f0.r] 146)) j u hu) (fun u hu=>by simp[fibE] at hu;rcases hu with rfl | rfl | rfl | rfl <;> rfl) (by unfold maxLen;omega) (by omega) CA.nb.cs.size ?_
     intro v8 w8 o8 g8 l8
     have C8:=ξh (CA.app (fs':=n.fs++[f0]) (by rw[ξk,ξaW];exact o8) g8 l8 (fun z hz=>by rcases List.mem_append.1 hz with hz | hz;exact CA.nb.d.sm z hz;rw[List.mem_singleton.1 hz];exact hf0) (by rw[ξk];simp only[List.length_singleton];omega))
     obtain⟨a8,c8,rfl⟩:=row_form0 o8
     have x8:=(g8.block bN CA.ltN fun e=>CA.nb.ne.2 e.symm).trans CA.nb.box
     have y8:=blkc x8 (show _=some ((.slice (some ⟨g,0,none⟩) n.fs.length c2)) from rfl) (j:=1)
     have f8:w8.frozen? ⟨bN,1,none⟩=false:=by simp only[World.frozen?,x8];rfl
     unfold wpList
     refine⟨rfl,?_⟩
     refine hKK.out _ _ ?_
     clear hKK KK
     try simp only[Act.put,hlA,hlB,hlC]
     refine ξG 8 rfl (by kernel_rfl) (by kernel_rfl) (fun KK hKK=> ?_)
     go_simp
     refine hKK.out _ _ ?_
     clear hKK KK
     try simp only[Act.put,hlA,hlB,hlC]
     refine ξG 9 rfl (by kernel_rfl) (by kernel_rfl) (fun KK hKK=> ?_)
     go_simp
     refine hKK.out _ _ ?_
     clear hKK KK
     try simp only[Act.put,hlA,hlB,hlC]
     refine ξS (by kernel_rfl) ?_ _
     rotate_left 1
     clear CC CA CD hH o8 g8 l8 x8 y8 f8 HRR
     generalize w8.setCell ⟨bN,1,none⟩ (.slice a8 (n.fs.length+1) c8)=w9 at *
     obtain⟨g8,rfl⟩:∃g8,a8=some ⟨g8,0,none⟩:=by
      rcases C8.nb.d.fs.2 with ⟨e,e2⟩ | ⟨g',cap,cur,e,_⟩
      · simp at e
      · simp only[Value.slice.injEq] at e;exact⟨g',e.1⟩
     go_upto_region 25 with fail
     have hi9:i<n.fs.length+1:=by omega
     have hi9I:(i:Int)<((n.fs.length+1:Nat):Int):=by omega
     obtain⟨wz,ez,CZ⟩:=C8.setW (g:=g8) (m:=n.fs.length+1) (c2:=c8) (by rw[ξk];rfl) i hi9
     obtain⟨p0,p1,p2,p3,y1,⟨l0,l1,l2,l3⟩,⟨_,c0⟩,⟨_,c1'⟩,⟨_,c2'⟩,⟨_,c3'⟩⟩:=C8.tl (g:=g8) (m:=n.fs.length+1) (c2:=c8) (by rw[ξk];rfl) i hi9
     go_upto_region 26 with fail
     clear l0 l1 l2 l3 c0 c1' c2' c3' p0 p1 p2 p3 y1 hi9 hi9I
     rw[←ez.out]
     obtain⟨z0,z1,f0,f1,y0,y1⟩:=CZ.te
     go_wp2_with fail
     subst hNP
     have HH:=Nb.doneQ (m:=200) (K:=K) (Z:=fun _=>True) CZ.nb HC1.out HZ1.out (by omega) trivial
     exact bodyPost_ret (v:= .agg #[.slice a1 n.ns.length c1,.slice (some ⟨g8,0,none⟩) (n.fs.length+1) c8]) (by simp[results,Tryz.results70,go_sem,z0,z1]) rfl HH
   by_cases e6:k=6
   · subst e6
     clear e0 e1 e2 e3 e4 e5
     go_wp2_with fail
     go_loopw [70] (fun _ wr=>∃(m:Nat) (u2':Value) (fs':List Fib),m≤15∧1≤m∧Hid (fs'.length=m)∧Hid (NbF w w1 wr B c (K+106+2*m) bN bF (.slice a1 n.ns.length c1) u2' ⟨n.ns,fs'⟩ ⟨fa,fb,fl,fr⟩)) (fun _ wr=>16-lenAt wr ⟨bN,1,none⟩)
     case atStart=>exact⟨n.fs.length,_,n.fs,by omega,by omega,rfl,CC.mono (by omega)⟩
     case round=>
      clear CC
      obtain⟨m,u2',fs',hm15,hm1,HFS,CC⟩:=hrel
      obtain⟨a2',c',e2'⟩:=row_form0 CC.nb.d.fs
      simp only[HFS.out] at e2'
      subst e2'
      obtain⟨g',rfl⟩:∃g',a2'=some ⟨g',0,none⟩:=by
       rcases CC.nb.d.fs.2 with ⟨e,e2⟩ | ⟨g,cap,cur,e,_⟩
       · have:=HFS.out;have e3:fs'.length=0:=e2;omega
       · cases e;exact⟨g,rfl⟩
      have CD:=ξh (CC.below (ξb _ _).drew)
      have hlen0:lenAt wr ⟨bN,1,none⟩=m:=by unfold lenAt;rw[CC.nb.cell]
      have HLEN0:=ξh hlen0
      clear hlen0
      go_wp2_with fail
      refine ξH [0,1,2,3,4,5,6] (S:=fun w'=>w'.cell? ⟨bN,1,none⟩=some (.slice (some ⟨g',0,none⟩) m c')) (by kernel_rfl) (CD.nb.cell) (fun hH=> ?_)
      refine hlF 0 rfl hH ?_
      try simp only[Act.put,hlA,hlB,hlC]
      refine hlF 1 rfl hH ?_
      try simp only[Act.put,hlA,hlB,hlC]
      refine hlF 2 rfl hH ?_
      try simp only[Act.put,hlA,hlB,hlC]
      refine hlF 3 rfl hH ?_
      try simp only[Act.put,hlA,hlB,hlC]
      refine ξB (rs:=[4]) (by kernel_rfl) (by simp) ?_
      refine AllReadyL.cons rfl (fun KK hKK=> ?_) AllReadyL.nil
      go_simp
      go_at_call 72
      refine(CD.pick hBw (by omega) 2 (by omega) (by omega)).mono ?_
      rintro e w7 ⟨y,y0,y1,rfl,C7⟩
      have hwy:IntKind.i64.wrap (14+y)=14+y:=ξi _ (by omega)
      refine hKK.out _ _ (C7.nb.cell) (fun hH=> ?_)
      clear hKK KK
      try simp only[Act.put,hlA,hlB,hlC]
      refine hlF 5 rfl hH ?_
      try simp only[Act.put,hlA,hlB,hlC]
      refine ξG 6 rfl (by kernel_rfl) (by kernel_rfl) (fun KK hKK=> ?_)
      go_simp
      refine hKK.out _ _ ?_
      clear hKK KK
      try simp only[Act.put,hlA,hlB,hlC]
      refine ξS (by kernel_rfl) ?_ _
      rotate_left 1
      clear CC CD hH
      by_cases hlt:(m:Int)<14+y
      · have hdc:decide ((m:Int)<14+y)=true:=ξt hlt
        have hq:m-1<fs'.length:=by have:=HFS.out;omega
        have hf0:ξV (fs'[m-1]?.getD nilB):=C7.nb.d.sm _ (by show fs'[m-1]?.getD nilB∈fs';rw[ξg hq];exact ξj hq)
        have HRR:=ξh (fun(W:World) (KQ:Nat) (h:NbF w w1 W B c KQ bN bF (.slice a1 n.ns.length c1) (.slice (some ⟨g',0,none⟩) m c') ⟨n.ns,fs'⟩ ⟨fa,fb,fl,fr⟩)=>show W.cell? ⟨bN,1,none⟩=some (.slice (some ⟨g',0,none⟩) m c')∧W.cell? ⟨g',(m-1)*4,none⟩=some (.int .i64 (fs'[m-1]?.getD nilB).a)∧W.cell? ⟨g',(m-1)*4+1,none⟩=some (.int .i64 (fs'[m-1]?.getD nilB).b)∧W.cell? ⟨g',(m-1)*4+2,none⟩=some (.int .i64 (fs'[m-1]?.getD nilB).l)∧W.cell? ⟨g',(m-1)*4+3,none⟩=some (.int .i64 (fs'[m-1]?.getD nilB).r) from
         ⟨h.nb.cell,h.nb.fib rfl (m-1) hq 0 (by omega) _ rfl,h.nb.fib rfl (m-1) hq 1 (by omega) _ rfl,h.nb.fib rfl (m-1) hq 2 (by omega) _ rfl,h.nb.fib rfl (m-1) hq 3 (by omega) _ rfl⟩)
        generalize fs'[m-1]?.getD nilB=f0 at *
        have CD:=ξh (C7.below (ξb _ _).drew)
        have q1:(0:Int)≤(m:Int)-1:=by omega
        have q2:(1:Int)≤(m:Int):=by omega
        have q3:(m:Int)-1<(m:Int):=by omega
        have q4:IntKind.i64.wrap ((m:Int)-1)=(m:Int)-1:=ξi _ (by omega)
        have q5:((m:Int)-1).toNat=m-1:=by omega
        have q6:m-1<m:=by omega
        go_wp2_with fail
        refine ξH [0,1,2,3,4,5,6,7,8,9,10,11] (S:=fun w'=>w'.cell? ⟨bN,1,none⟩=some (.slice (some ⟨g',0,none⟩) m c')∧w'.cell? ⟨g',(m-1)*4,none⟩=some (.int .i64 f0.a)∧w'.cell? ⟨g',(m-1)*4+1,none⟩=some (.int .i64 f0.b)∧w'.cell? ⟨g',(m-1)*4+2,none⟩=some (.int .i64 f0.l)∧w'.cell? ⟨g',(m-1)*4+3,none⟩=some (.int .i64 f0.r)) (by kernel_rfl) (HRR.out _ _ CD.out) (fun hH=> ?_)
        refine hlF 0 rfl hH ?_
        try simp only[Act.put,hlA,hlB,hlC]
        refine hlF 1 rfl hH ?_
        try simp only[Act.put,hlA,hlB,hlC]
        refine hlF 2 rfl hH ?_
        try simp only[Act.put,hlA,hlB,hlC]
        refine hlF 3 rfl hH ?_
        try simp only[Act.put,hlA,hlB,hlC]
        refine hlF 4 rfl hH ?_
        try simp only[Act.put,hlA,hlB,hlC]
        refine hlF 5 rfl hH ?_
        try simp only[Act.put,hlA,hlB,hlC]
        refine hlF 6 rfl hH ?_
        try simp only[Act.put,hlA,hlB,hlC]
        refine hlF 7 rfl hH ?_
        try simp only[Act.put,hlA,hlB,hlC]
        refine hlF 8 rfl hH ?_
        try simp only[Act.put,hlA,hlB,hlC]
        refine hlF 9 rfl hH ?_
        try simp only[Act.put,hlA,hlB,hlC]
        refine ξB (rs:=[10]) (by kernel_rfl) (by simp) ?_
        refine AllReadyL.cons rfl (fun KK hKK=> ?_) AllReadyL.nil
        go_simp
        have CA:=ξh (CD.below ((ξb _ _).alloc (ξr _) (.cells #[.int .i64 f0.a,.int .i64 f0.b,.int .i64 f0.l,.int .i64 f0.r] 146)))
        refine hKK.out _ _ (HRR.out _ _ CA.out) (fun hH=> ?_)
        clear hKK KK
        try simp only[Act.put,hlA,hlB,hlC]
        refine ξG 11 rfl (by kernel_rfl) (by kernel_rfl) (fun KK hKK=> ?_)
        refine step_of_list rfl ?_
        refine wpList_catG rfl (.tmp 78) (.tmp 87) 33 146 rfl Tryz.underlying33 (.agg #[.int .i64 0,.int .i64 0,.int .i64 0,.int .i64 0]) 4 32 Tryz.infoFib rfl (by decide) w1.heap.size (.slice (some ⟨g',0,none⟩) m c') m (fbs fs') (by rfl) (show _ from by have:=CA.nb.d.fs;unfold FibRow at this;simp only[HFS.out] at this;exact this) (some ⟨w7.drew.heap.size,0,none⟩) 1 1 (fibE ⟨f0.a,f0.b,f0.l,f0.r⟩) (by rfl) rfl (fun e=>by cases e) (fun ad e j u hu=>by cases e;exact World.news_of_block (ξn w7.drew (.cells #[.int .i64 f0.a,.int .i64 f0.b,.int .i64 f0.l,.int .i64 f0.r] 146)) j u hu) (fun u hu=>by simp[fibE] at hu;rcases hu with rfl | rfl | rfl | rfl <;> rfl) (by unfold maxLen;omega) (by omega) CA.nb.cs.size ?_
        intro v8 w8 o8 g8 l8
        have C8:=ξh (CA.app (fs':=fs'++[f0]) (by rw[ξk,ξaW,HFS.out];exact o8) g8 l8 (fun z hz=>by rcases List.mem_append.1 hz with hz | hz;exact CA.nb.d.sm z hz;rw[List.mem_singleton.1 hz];exact hf0) (by rw[ξk,HFS.out];simp only[List.length_singleton];omega))
        obtain⟨a8,c8,rfl⟩:=row_form0 o8
        have x8:=(g8.block bN CA.ltN fun e=>CA.nb.ne.2 e.symm).trans CA.nb.box
        have y8:=blkc x8 (show _=some ((.slice (some ⟨g',0,none⟩) m c')) from rfl) (j:=1)
        have f8:w8.frozen? ⟨bN,1,none⟩=false:=by simp only[World.frozen?,x8];rfl
        unfold wpList
        refine⟨rfl,?_⟩
        refine hKK.out _ _ ?_
        clear hKK KK
        try simp only[Act.put,hlA,hlB,hlC]
        refine ξG 12 rfl (by kernel_rfl) (by kernel_rfl) (fun KK hKK=> ?_)
        go_simp
        refine hKK.out _ _ ?_
        clear hKK KK
        try simp only[Act.put,hlA,hlB,hlC]
        refine ξG 13 rfl (by kernel_rfl) (by kernel_rfl) (fun KK hKK=> ?_)
        go_simp
        refine hKK.out _ _ ?_
        clear hKK KK
        try simp only[Act.put,hlA,hlB,hlC]
        refine ξS (by kernel_rfl) ?_ _
        rotate_left 1
        clear CA CD C7 hH o8 g8 l8 x8 y8 f8 HRR
        have HLEN1:=ξh (show lenAt (w8.setCell ⟨bN,1,none⟩ (.slice a8 (m+1) c8)) ⟨bN,1,none⟩=m+1 by unfold lenAt;rw[C8.nb.cell])
        go_wp2_with fail
        go_roundw
        case rel=>exact⟨m+1,_,fs'++[f0],by omega,by omega,by rw[ξk,HFS.out];rfl,C8.out⟩
        case measure=>rw[HLEN1.out,HLEN0.out];omega
      · have hdc:decide ((m:Int)<14+y)=false:=ξf hlt
        obtain⟨z0,z1,f0,f1,y0,y1⟩:=C7.te
        go_wp2_with fail
        subst hNP
        have HH:=Nb.doneQ (m:=200) (K:=K) (Z:=fun _=>True) C7.nb HC1.out HZ1.out (by omega) trivial
        exact bodyPost_ret (v:= .agg #[.slice a1 n.ns.length c1,.slice (some ⟨g',0,none⟩) m c']) (by simp[results,Tryz.results70,go_sem,z0,z1]) rfl HH
   by_cases e7:k=7
   · subst e7
     clear e0 e1 e2 e3 e4 e5 e6
     have CA:=ξh (CC.below ((ξb _ _).alloc (ξr _) (.cells #[.string ⟨#[112]⟩,.string ⟨#[113]⟩,.string ⟨#[114]⟩,.string ⟨#[115]⟩] 9)))
     have y0:=blkc CC.nb.box (show _=some (Value.slice a1 n.ns.length c1) from rfl) (j:=0)
     go_upto_region 25 with (at_builtin;(refine wpList_catG rfl (.tmp 94) (.tmp 95) 22 9 rfl Tryz.underlying22 (.string ⟨#[]⟩) 1 16 Tryz.infoStrD rfl (by decide) w1.heap.size (.slice a1 n.ns.length c1) n.ns.length (n.ns.map Value.string) (by rfl) CA.nb.d.ns (some ⟨w6.heap.size,0,none⟩) 4 4 [.string ⟨#[112]⟩,.string ⟨#[113]⟩,.string ⟨#[114]⟩,.string ⟨#[115]⟩] (by rfl) rfl (fun e=>by cases e) (fun ad e j u hu=>by cases e;exact World.news_of_block (ξn w6 (.cells #[.string ⟨#[112]⟩,.string ⟨#[113]⟩,.string ⟨#[114]⟩,.string ⟨#[115]⟩] 9)) j u hu) (fun u hu=>by simp at hu;rcases hu with rfl | rfl | rfl | rfl <;> rfl) (by unfold maxLen;omega) (by omega) CA.nb.cs.size ?_);(intro v8 w8 o8 g8 l8);(have C8:=ξh (CA.appN (ns':=n.ns++[⟨#[112]⟩,⟨#[113]⟩,⟨#[114]⟩,⟨#[115]⟩]) (by rw[ξk,List.map_append];exact o8) g8 l8 (fun s hs=>by rcases List.mem_append.1 hs with hs | hs;exact CA.nb.d.nz s hs;simp at hs;rcases hs with rfl | rfl | rfl | rfl <;> decide) (by rw[ξk];simp only[List.length_cons,List.length_nil];omega)));(obtain⟨a8,c8,rfl⟩:=row_form0 o8);(have x8:=(g8.block bN CA.ltN fun e=>CA.nb.ne.1 e.symm).trans CA.nb.box);(have y8:=blkc x8 (show _=some (Value.slice a1 n.ns.length c1) from rfl) (j:=0));(have f8:w8.frozen? ⟨bN,0,none⟩=false:=(by simp only[World.frozen?,x8];rfl)))
     clear CC CA o8 g8 l8 x8 y8 f8 y0
     generalize w8.setCell ⟨bN,0,none⟩ (.slice a8 (n.ns.length+4) c8)=w9 at *
     have hi9:i<n.fs.length:=by omega
     have hi9I:(i:Int)<((n.fs.length:Nat):Int):=by omega
     obtain⟨wz,ez,CZ⟩:=C8.setW (g:=g) (m:=n.fs.length) (c2:=c2) rfl i hi9
     obtain⟨p0,p1,p2,p3,y1,⟨l0,l1,l2,l3⟩,⟨_,c0⟩,⟨_,c1'⟩,⟨_,c2'⟩,⟨_,c3'⟩⟩:=C8.tl (g:=g) (m:=n.fs.length) (c2:=c2) rfl i hi9
     go_upto_region 26 with fail
     clear l0 l1 l2 l3 c0 c1' c2' c3' p0 p1 p2 p3 y1 hi9 hi9I
     rw[←ez.out]
     obtain⟨z0,z1,f0,f1,y0,y1⟩:=CZ.te
     go_wp2_with fail
     subst hNP
     have HH:=Nb.doneQ (m:=200) (K:=K) (Z:=fun _=>True) CZ.nb HC1.out HZ1.out (by omega) trivial
     exact bodyPost_ret (v:= .agg #[.slice a8 (n.ns.length+4) c8,.slice (some ⟨g,0,none⟩) (n.fs.length) c2]) (by simp[results,Tryz.results70,go_sem,z0,z1]) rfl HH
   go_upto_region 25 with fail
   have hi9:i<n.fs.length:=by omega
   have hi9I:(i:Int)<((n.fs.length:Nat):Int):=by omega
   obtain⟨wz,ez,CZ⟩:=CC.setW (g:=g) (m:=n.fs.length) (c2:=c2) rfl i hi9
   obtain⟨p0,p1,p2,p3,y1,⟨l0,l1,l2,l3⟩,⟨_,c0⟩,⟨_,c1'⟩,⟨_,c2'⟩,⟨_,c3'⟩⟩:=CC.tl (g:=g) (m:=n.fs.length) (c2:=c2) rfl i hi9
   go_upto_region 26 with fail
   clear l0 l1 l2 l3 c0 c1' c2' c3' p0 p1 p2 p3 y1 hi9 hi9I
   rw[←ez.out]
   obtain⟨z0,z1,f0,f1,y0,y1⟩:=CZ.te
   go_wp2_with fail
   subst hNP
   have HH:=Nb.doneQ (m:=200) (K:=K) (Z:=fun _=>True) CZ.nb HC1.out HZ1.out (by omega) trivial
   exact bodyPost_ret (v:= .agg #[.slice a1 n.ns.length c1,.slice (some ⟨g,0,none⟩) (n.fs.length) c2]) (by simp[results,Tryz.results70,go_sem,z0,z1]) rfl HH
section
variable {α : Type}
theorem ξa8 {enc:α→List Value} {m:Nat} {w:World} {g off n cap:Nat} {zs:List α} (hm:∀z,(enc z).length=m) (hm0:0<m) (nil:α) (h:Rdt w (flt m enc zs) (.slice (some ⟨g,off,none⟩) n cap)) {i r:Nat} {u:Value} (hi:i<zs.length) (hu:(enc (zs[i]?.getD nil))[r]?= some u):w.cell? ⟨g,off+i*m+r,none⟩=some u:=by
 obtain⟨a,n',cap',e,HN,-,-,ha⟩:=ξC hm hm0 nil h
 simp only[Value.slice.injEq] at e
 obtain⟨rfl,rfl,rfl⟩:=e
 obtain⟨b,off',e2,-,hc⟩:=ha (by have:=HN.out;omega)
 simp only[Option.some.injEq,Addr.mk.injEq,and_true] at e2
 obtain⟨rfl,rfl⟩:=e2
 exact hc i (by have:=HN.out;omega) r u hu
end
end Go.Proofs.YtofcicomhnkocaaGreat
