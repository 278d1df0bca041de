/- Joined: XRep XUpp XUpw XUps. -/
import Derived.Test.YtofcicomhnkocaaGreatBp19
import Derived.Test.YtofcicomhnkocaaGreatBp11
import Derived.Laws.CopyOwn
import Derived.Test.YtofcicomhnkocaaGreatBp29
set_option linter.unusedVariables false
namespace Go.Proofs.YtofcicomhnkocaaGreat
set_option maxHeartbeats 6400000
open Go.RowKit Go.Sort
set_option maxRecDepth 100000
def rp (x:Int) (n m:Nat):List Value:=List.replicate n (.int .i64 x)++List.replicate (m-n) (.int .i64 0)
theorem rp_len (x:Int) {n m:Nat} (h:n≤m):(rp x n m).length=m:=by unfold rp;simp;omega
theorem rp_step (x:Int) {n k m:Nat} (h:n+k≤m):(rp x n m).take n++(List.replicate k (.int .i64 x)++(rp x n m).drop (n+k))=rp x (n+k) m:=by
 unfold rp
 rw[List.take_append_of_le_length (by simp),List.take_of_length_le (by simp),List.drop_append,List.drop_of_length_le (by simp),List.drop_replicate,List.length_replicate,List.nil_append,←List.append_assoc,List.replicate_append_replicate]
 congr 2
 omega
theorem rp_copy (x:Int) {n k m:Nat} (tl:List Value) (h:n+k≤m):((rp x n m++tl).toArray.toList.take n++(List.replicate k (Value.int .i64 x)++(rp x n m++tl).toArray.toList.drop (n+(List.replicate k (Value.int .i64 x)).length))).toArray=(rp x (n+k) m++tl).toArray:=by
 rw[←rp_step x h]
 have hl:=rp_len x (n:=n) (m:=m) (by omega)
 simp only[List.length_replicate]
 rw[List.take_append_of_le_length (by omega),List.drop_append_of_le_length (by omega),List.append_assoc,List.append_assoc]
theorem rp_head (x:Int) {n m j:Nat} {v:Value} {k:Nat} (hk:k≤n) (h:(List.replicate k (Value.int .i64 x))[j]?= some v):(rp x n m)[j]?= some v:=by
 rw[List.getElem?_replicate] at h
 split at h
 · unfold rp
   rw[List.getElem?_append_left (by simp;omega),List.getElem?_replicate,if_pos (by omega)]
   exact h
 · cases h
theorem repeat_any (v:Value) (x:Int) (c:Nat) (w:World) (h:Rd w v [x]) (hc:c≤1000):
 Calls Tryz.prog 89 #[v,.int .i64 (c:Int)] w fun e w'=>∃v',e= .returned v'∧Own w' w.heap.size v' (List.replicate c x)∧Below w.heap.size w w':=by
 obtain⟨i0,hi,hz0,hz1,hz2⟩:=info_parts Tryz.infoInt
 obtain⟨a,ca,n,HN,rfl,-,-,ha⟩:=h.opn
 obtain rfl:n=1:=HN.out.symm
 obtain⟨b,off,rfl,hb,hcs⟩:=ha (by omega)
 have c0:=hcs 0 (by omega)
 have HM:=Lib.hid (show∀w,Calls Tryz.prog 138 #[.int .u64 (1:Int),.int .u64 (c:Int)] w fun e w'=>e= .returned (.tuple #[.int .u64 (0:Int),.int .u64 (c:Int)])∧w'=w from fun w=>by
  have:=Tryz.bits_Mul 1 c (by omega) (by omega) w
  rw[show 1*c/18446744073709551616=0 by omega,show 1*c%18446744073709551616=c by omega] at this
  exact this)
 clear hcs ha h
 go_enter Tryz.func89,Tryz.ntmps89
 go_wp2_with fail
 refine(HM.out _).mono ?_
 rintro e w1 ⟨rfl,rfl⟩
 have h1:¬(c:Int)>9223372036854775807:=by omega
 have h2:decide ((c:Int)>9223372036854775807)=false:=decide_eq_false h1
 have h3:IntKind.i64.wrap (c:Int)=(c:Int):=IntWalk.i64_in _ (by omega)
 have h4:wrap64 (c:Int)=(c:Int):=IntWalk.wrap64_in _ (by omega)
 go_upto_region 7 with (refine wpList_make_full _ rfl _ _ 58 rfl w1.heap.size 3 i0 (.int .i64 0) 1 Tryz.underlying58 hi hz0 hz1 _ _ _ _ c rfl rfl rfl rfl (by rw[hz2];omega) (by unfold maxLen;omega) (Nat.le_refl _) ?_;intro w2 hown1 hgrow1)
 obtain⟨g,hg⟩:∃g,g=w1.heap.size:=⟨_,rfl⟩
 have HB2:=Lib.hid ((Below.refl w1.heap.size w1).grown hgrow1 (Nat.le_refl _) (by simp):Below w1.heap.size w1 w2)
 have e0:(madeCells (Value.int .i64 0).cells (c*1)).toList=List.replicate c (Value.int .i64 0):=by
  rw[Nat.mul_one]
  have:=toList_madeCells_one (.int .i64 0) c
  simpa[Value.cells] using this
 rw[e0] at hown1
 have HG2:∃tl T,w2.heap[g]?= some (.cells (rp x 0 c++tl).toArray T (0,0)):=by
  rcases hown1.2 with ⟨e,-⟩ | ⟨g',cap,cur,e,q1,q2,q3,q4,q5,q6⟩
  · cases e
  · cases e
    refine⟨cur.toList.drop c,3,?_⟩
    rw[hg,q2]
    have:rp x 0 c++cur.toList.drop c=cur.toList:=by
     unfold rp
     rw[List.replicate_zero,List.nil_append,Nat.sub_zero,←q6,Nat.mul_one,List.take_append_drop]
    rw[this]
 have cb:=(HB2.out.cell (p:=⟨b,off+0,none⟩) hb).trans c0
 obtain⟨tl,T,hg2⟩:=HG2
 have HGE:=Lib.hid hg
 rw[←hg]
 obtain⟨K,hK⟩:∃K,K=Nat.min 1 c:=⟨_,rfl⟩
 have hK1:K≤1:=by rw[hK];exact Nat.min_le_left _ _
 have hml:K≤c:=by rw[hK];exact Nat.min_le_right _ _
 have hm1:0<c→0<K:=fun h=>by rw[hK,show Nat.min 1 c=min 1 c from rfl];omega
 have hsrc:∀j v,(List.replicate K (Value.int .i64 x))[j]?= some v→w2.cell? ((⟨b,off,none⟩:Addr).add j)=some v:=fun j v hj=>by
  rw[List.getElem?_replicate] at hj
  split at hj
  · rename_i hlt
    obtain rfl:j=0:=by omega
    rw[addr_add,cb];exact hj
  · cases hj
 have HSRC:=Lib.hid hsrc
 have HG2:=Lib.hid hg2
 have HML:=Lib.hid hml
 have HM1:=Lib.hid hm1
 have HKE:=Lib.hid hK
 have HCP:=Lib.hid (show(List.replicate K (Value.int .i64 x)++List.drop K (rp x 0 c++tl)).toArray=(rp x K c++tl).toArray from by
  have:=rp_copy x (n:=0) (k:=K) (m:=c) tl (by omega)
  simpa using this)
 clear hsrc hg2 hown1 hgrow1 e0 cb c0 hg h1 h2 h3 h4 hml hm1 hK1 hK
 go_upto_region 8 with (refine wpList_copy_own (o:=⟨some 33,_,_,_,_,_⟩) rfl (.tmp 31) (.tmp 32) 58 58 rfl 3 Tryz.underlying58 (by kernel_rfl) g 0 c c ⟨b,off,none⟩ 1 ca (by rfl) (by rfl) _ T HG2.out (List.replicate K (.int .i64 x)) (by rw[List.length_replicate];exact HKE.out) HSRC.out (by have:=HML.out;have:=rp_len x (n:=0) (m:=c) (by omega);simp;omega) (fun u hu=>by rw[List.eq_of_mem_replicate hu];rfl) ?_)
 rw[HCP.out]
 have HG3:=Lib.hid (show(w2.setRow g (rp x K c++tl).toArray).heap[g]?= some (.cells (rp x K c++tl).toArray T (0,0)) from setRow_heap w2 g _ _ _ _ HG2.out)
 have HB3:=Lib.hid (below_setRow HB2.out (show w1.heap.size≤g by rw[HGE.out];exact Nat.le_refl _) (rp x K c++tl).toArray)
 generalize w2.setRow g (rp x K c++tl).toArray=w3 at *
 go_loopw [8] (fun s8 wr=>∃n:Nat,n≤c∧s8= .int .i64 n∧Hid (0<c→0<n)∧Hid (wr.heap[g]?= some (.cells (rp x n c++tl).toArray T (0,0)))∧Hid (Below w1.heap.size w1 wr)) (fun s8 _=>c-(intOf s8).toNat)
 case atStart=>exact⟨K,HML.out,rfl,HM1.out,HG3.out,HB3.out⟩
 case round=>
  obtain⟨n,hn,rfl,HN0,HG,HB⟩:=hrel
  by_cases hlt:n<c
  · have hltI:(n:Int)<(c:Int):=by omega
    have hne:¬c=n:=by omega
    have hn0:0<n:=HN0.out (by omega)
    have hnI:(0:Int)≤(n:Int):=by omega
    have hnc:(n:Int)≤(c:Int):=by omega
    have hnc2:¬(c:Int)<(n:Int):=by omega
    obtain⟨k,hk⟩:∃k,k=Nat.min n (c-n):=⟨_,rfl⟩
    have hk1:k≤n:=by rw[hk];exact Nat.min_le_left _ _
    have hk2:n+k≤c:=by have:k≤c-n:=by rw[hk];exact Nat.min_le_right _ _
                       omega
    have hk3:0<k:=by rw[hk,show Nat.min n (c-n)=min n (c-n) from rfl];omega
    have HK1:=Lib.hid hk1
    have HK2:=Lib.hid hk2
    have HK3:=Lib.hid hk3
    have HK:=Lib.hid hk
    have HSR:=Lib.hid (show∀j v,(List.replicate k (Value.int .i64 x))[j]?= some v→wr.cell? ((⟨g,0,none⟩:Addr).add j)=some v from fun j v hj=>by
     have hr:=rp_head x (m:=c) hk1 hj
     have hr2:(rp x n c++tl)[j]?= some v:=by
      rw[List.getElem?_append_left (by have:=(List.getElem?_eq_some_iff.1 hr).1;exact this)];exact hr
     rw[addr_add,Nat.zero_add]
     exact blkc HG.out (by simpa using hr2))
    have HCQ:=Lib.hid (rp_copy x (n:=n) (k:=k) (m:=c) tl hk2)
    have f1:wrap64 ((n:Int)+(k:Int))=((n+k:Nat):Int):=(IntWalk.wrap64_in _ (by omega)).trans (by omega)
    clear hk hk1 hk2 hk3
    have HB5:=Lib.hid (below_setRow (HB.out.drew) (show w1.heap.size≤g by rw[HGE.out];exact Nat.le_refl _) (rp x (n+k) c++tl).toArray)
    have HG5:=Lib.hid (show(wr.drew.setRow g (rp x (n+k) c++tl).toArray).heap[g]?= some (.cells (rp x (n+k) c++tl).toArray T (0,0)) from setRow_heap wr.drew g _ _ _ _ HG.out)
    have F1:=Lib.hid (show IntKind.i64.wrap ((n:Int)+(k:Int))=((n+k:Nat):Int) from(IntWalk.i64_in _ (by have:=HK2.out;omega)).trans (by omega))
    have HLN:=Lib.hid (rp_len x hn)
    have hnN:¬c<n:=by omega
    go_upto_region 9 with fail
    refine wp_region_L [0,1,2,3,4,5,6,7,8,9] (S:=fun _=>True) (by kernel_rfl) (trivial) (fun hH=> ?_)
    refine hlE 0 rfl hH ⟨_,by intro w hSw;(try dsimp only at hSw);go_simp;try with_reducible rfl,?_⟩
    try simp only[Act.put,hlA,hlB,hlC]
    refine hlE 1 rfl hH ⟨_,by intro w hSw;(try dsimp only at hSw);go_simp;try with_reducible rfl,?_⟩
    try simp only[Act.put,hlA,hlB,hlC]
    refine hlE 2 rfl hH ⟨_,by intro w hSw;(try dsimp only at hSw);go_simp;try with_reducible rfl,?_⟩
    try simp only[Act.put,hlA,hlB,hlC]
    refine hlE 3 rfl hH ⟨_,by intro w hSw;(try dsimp only at hSw);go_simp;try with_reducible rfl,?_⟩
    try simp only[Act.put,hlA,hlB,hlC]
    refine hlE 4 rfl hH ⟨_,by intro w hSw;(try dsimp only at hSw);go_simp;try with_reducible rfl,?_⟩
    try simp only[Act.put,hlA,hlB,hlC]
    refine hlE 5 rfl hH ⟨_,by intro w hSw;(try dsimp only at hSw);go_simp;try with_reducible rfl,?_⟩
    try simp only[Act.put,hlA,hlB,hlC]
    refine hlE 6 rfl hH ⟨_,by intro w hSw;(try dsimp only at hSw);go_simp;try with_reducible rfl,?_⟩
    try simp only[Act.put,hlA,hlB,hlC]
    refine hlReady (rs:=[7]) (by kernel_rfl) (by simp) ?_
    refine AllReadyL.cons rfl (fun KK hKK=> ?_) AllReadyL.nil
    refine step_of_list rfl ?_
    refine wpList_copy_own rfl (.tmp 41) (.tmp 44) 58 58 rfl 3 Tryz.underlying58 (by kernel_rfl) g n (c-n) (c-n) ⟨g,0,none⟩ n c (by rfl) (by rfl) _ T HG.out (List.replicate k (.int .i64 x)) (by rw[List.length_replicate];exact HK.out) HSR.out (by have:=HK2.out;have:=HLN.out;simp;omega) (fun u hu=>by rw[List.eq_of_mem_replicate hu];rfl) ?_
    rw[HCQ.out]
    unfold wpList
    refine⟨rfl,?_⟩
    refine hKK.out _ _ (trivial) (fun hH=> ?_)
    clear hKK KK
    try simp only[Act.put,hlA,hlB,hlC]
    refine hlReady (rs:=[8]) (by kernel_rfl) (by simp) ?_
    refine AllReadyL.cons rfl (fun KK hKK=> ?_) AllReadyL.nil
    go_simp
    refine hKK.out _ _ (trivial) (fun hH=> ?_)
    clear hKK KK
    try simp only[Act.put,hlA,hlB,hlC]
    refine hlStep 9 rfl (by kernel_rfl) (by kernel_rfl) (fun KK hKK=> ?_)
    go_simp
    refine hKK.out _ _ ?_
    clear hKK KK
    try simp only[Act.put,hlA,hlB,hlC]
    refine hlDone (by kernel_rfl) ?_ _
    rotate_left 1
    rw[F1.out]
    generalize wr.drew.setRow g (rp x (n+k) c++tl).toArray=w5 at *
    go_roundw
    case rel=>exact⟨_,_,_,_,_,_,_,_,_,_,_,_,_,_,⟨n+k,HK2.out,rfl,fun _=>by have:=HK3.out;omega,HG5.out,HB5.out⟩,rfl⟩
    case measure=>simp[intOf];have:=HK3.out;omega
  · obtain rfl:n=c:=by omega
    have HOF:=Lib.hid (show Own wr w1.heap.size (.slice (some ⟨g,0,none⟩) n n) (List.replicate n x) from by
     refine .inr ⟨g,0,n,(rp x n n++tl).toArray,by rw[List.length_replicate],by rw[HGE.out];exact Nat.le_refl _,⟨T,HG.out⟩,by rw[List.length_replicate];exact Nat.le_refl _,by unfold maxLen;omega,?_,?_⟩
     · have:=rp_len x (n:=n) (m:=n) (Nat.le_refl _)
       simp;omega
     · unfold rp
       simp[ints])
    go_wp2_with fail
    go_ret
    exact⟨_,rfl,HOF.out,HB.out⟩
def fwd (V:Nat→Int) (l:Int):Nat→Int
 | 0=> -1
 | t+1=>if l<V t∧fwd V l t<0 then(t:Int) else fwd V l t
def bwd (V:Nat→Int) (l:Int):Nat→Int
 | 0=> -1
 | d+1=>if l<V (7-d) then((7-d:Nat):Int) else bwd V l d
theorem fwd_none {V:Nat→Int} {l:Int} :∀{t:Nat},(∀i,i<t→ ¬l<V i)→fwd V l t= -1
 | 0,_=>rfl
 | t+1,h=>by rw[fwd,if_neg (fun e=>h t (by omega) e.1)];exact fwd_none fun i hi=>h i (by omega)
theorem fwd_kept {V:Nat→Int} {l:Int} {t:Nat} (h:0≤fwd V l t):∀k,fwd V l (t+k)=fwd V l t
 | 0=>rfl
 | k+1=>by
   have:=fwd_kept h k
   rw[←Nat.add_assoc,fwd,if_neg (fun e=>by have:=e.2;omega),this]
theorem fwd_bwd {V:Nat→Int} {l:Int} :∀{d t:Nat},t+d=8→(∀i,i<t→ ¬l<V i)→fwd V l 8=bwd V l d
 | 0,t,e,h=>by
   obtain rfl:t=8:=by omega
   rw[fwd_none h];rfl
 | d+1,t,e,h=>by
   rw[bwd,show 7-d=t by omega]
   by_cases hc:l<V t
   · rw[if_pos hc]
     have h1:fwd V l (t+1)=(t:Int):=by rw[fwd,if_pos ⟨hc,by rw[fwd_none h];decide⟩]
     have h2:=fwd_kept (t:=t+1) (by rw[h1];omega) d
     rw[show t+1+d=8 by omega,h1] at h2
     exact h2
   · rw[if_neg hc]
     exact fwd_bwd (d:=d) (t:=t+1) (by omega) fun i hi=>by
      rcases Nat.lt_succ_iff_lt_or_eq.1 hi with h1 | h1
      · exact h i h1
      · rw[h1];exact hc
theorem fwd_eq (V:Nat→Int) (l:Int):fwd V l 8=bwd V l 8:=fwd_bwd (d:=8) (t:=0) rfl fun i hi=>absurd hi (by omega)
def upT (n:Net) (fs:List Fmt) (gs:List Gro) (l:Int) (k:Nat):List Int:=(List.range k).map fun i=>bwd (fun t=>planU n fs gs t i) l 8
theorem upT_step (n:Net) (fs:List Fmt) (gs:List Gro) (l:Int) (k:Nat):upT n fs gs l (k+1)=upT n fs gs l k++[bwd (fun t=>planU n fs gs t k) l 8]:=by
 unfold upT;rw[List.range_succ,List.map_append];rfl
theorem upT_len (n:Net) (fs:List Fmt) (gs:List Gro) (l:Int) (k:Nat):(upT n fs gs l k).length=k:=by simp[upT]
def upK (n:Net) (fs:List Fmt) (gs:List Gro) (l:Int):Bool:=planK n fs gs&&inB l 0 24
def upL (n:Net) (fs:List Fmt) (gs:List Gro) (l:Int):List Int:=if upK n fs gs l then upT n fs gs l n.fs.length else[]
def UpP (n:Net) (fs:List Fmt) (gs:List Gro) (l:Int) (w:World) (e:Ending) (w':World):Prop:=∃v,e= .returned (.tuple #[v,.bool (upK n fs gs l)])∧Ofr w' w.heap.size (inD (upL n fs gs l)) v∧Below w.heap.size w w'
def fwR (U:Nat→Nat→Int) (l:Int) (nf t k:Nat):List Int:=(List.range nf).map fun i=>fwd (fun t=>U t i) l (if i<k then t+1 else t)
theorem fwR_len (U:Nat→Nat→Int) (l:Int) (nf t k:Nat):(fwR U l nf t k).length=nf:=by simp[fwR]
theorem fwR_at (U:Nat→Nat→Int) (l:Int) {nf i:Nat} (t k:Nat) (h:i<nf):(fwR U l nf t k)[i]?.getD 0=fwd (fun t=>U t i) l (if i<k then t+1 else t):=by
 unfold fwR;rw[List.getElem?_map,List.getElem?_range h];rfl
theorem fwR_zero (U:Nat→Nat→Int) (l:Int) (nf:Nat):fwR U l nf 0 0=List.replicate nf (-1):=by
 unfold fwR
 apply List.ext_getElem?
 intro i
 by_cases h:i<nf
 · rw[List.getElem?_map,List.getElem?_range h,List.getElem?_replicate,if_pos h];rfl
 · rw[List.getElem?_eq_none (by simp;omega),List.getElem?_eq_none (by simp;omega)]
theorem fwR_next (U:Nat→Nat→Int) (l:Int) (nf t:Nat):fwR U l nf t nf=fwR U l nf (t+1) 0:=by
 unfold fwR
 refine List.map_congr_left fun i hi=> ?_
 rw[if_pos (List.mem_range.1 hi),if_neg (by omega)]
theorem fwR_ext {U:Nat→Nat→Int} {l:Int} {nf t k:Nat} {L:List Int} (hL:L.length=nf) (h:∀i,i<nf→L[i]?.getD 0=fwd (fun t=>U t i) l (if i<k then t+1 else t)):L=fwR U l nf t k:=by
 apply List.ext_getElem?
 intro i
 by_cases hi:i<nf
 · have h1:=h i hi
   rw[←fwR_at U l t k hi] at h1
   rw[List.getElem?_eq_getElem (by omega),List.getElem?_eq_getElem (by rw[fwR_len];exact hi)] at h1 ⊢
   simpa using h1
 · rw[List.getElem?_eq_none (by omega),List.getElem?_eq_none (by rw[fwR_len];omega)]
theorem fwR_set {U:Nat→Nat→Int} {l:Int} {nf t k:Nat} (hk:k<nf) (h1:l<U t k) (h2:(fwR U l nf t k)[k]?.getD 0<0):(fwR U l nf t k).set k (t:Int)=fwR U l nf t (k+1):=by
 refine fwR_ext (by rw[List.length_set,fwR_len]) fun i hi=> ?_
 rw[fwR_at U l t k hk,if_neg (by omega)] at h2
 by_cases e:i=k
 · subst e
   rw[List.getElem?_set_self (by rw[fwR_len];exact hi),if_pos (by omega)]
   exact(if_pos (show l<U t i∧fwd (fun t=>U t i) l t<0 from⟨h1,h2⟩)).symm
 · rw[List.getElem?_set_ne (fun x=>e x.symm),fwR_at U l t k hi]
   by_cases hik:i<k
   · rw[if_pos hik,if_pos (by omega)]
   · rw[if_neg hik,if_neg (by omega)]
theorem fwR_same {U:Nat→Nat→Int} {l:Int} {nf t k:Nat} (hk:k<nf) (h:¬(l<U t k∧(fwR U l nf t k)[k]?.getD 0<0)):fwR U l nf t k=fwR U l nf t (k+1):=by
 refine fwR_ext (fwR_len U l nf t k) fun i hi=> ?_
 rw[fwR_at U l t k hk,if_neg (by omega)] at h
 rw[fwR_at U l t k hi]
 by_cases e:i=k
 · subst e
   rw[if_neg (by omega),if_pos (by omega)]
   exact(if_neg h).symm
 · by_cases hik:i<k
   · rw[if_pos hik,if_pos (by omega)]
   · rw[if_neg hik,if_neg (by omega)]
theorem fwR_all (n:Net) (fs:List Fmt) (gs:List Gro) (l:Int) (nf:Nat):fwR (planU n fs gs) l nf 8 0=upT n fs gs l nf:=by
 unfold fwR upT
 refine List.map_congr_left fun i _=> ?_
 rw[if_neg (by omega),fwd_eq]
theorem upL_len (n:Net) (fs:List Fmt) (gs:List Gro) (l:Int):(upL n fs gs l).length≤14:=by
 unfold upL
 split
 · rename_i h
   unfold upK at h
   rw[Bool.and_eq_true] at h
   rw[upT_len]
   cases hO:planO n fs gs with
   | none=>rw[(planB_no hO).2] at h;cases h.1
   | some x=>exact(netOk_yes (planO_some (r:=x.2) (ps:=x.1) hO).2.1).2.2.1
 · simp
theorem implUpg_any (l:Int) (v vf vg:Value) (n:Net) (fs:List Fmt) (gs:List Gro) (w:World) (h:NetR w v n) (hf:Rdt w (flt 2 fmE fs) vf) (hg:Rdt w (flt 6 groE gs) vg):
 Calls Tryz.prog 40 #[v,vf,vg,.int .i64 l] w (UpP n fs gs l w):=by
 obtain⟨NP,hNP⟩:∃NP,NP=UpP n fs gs l w:=⟨_,rfl⟩
 rw[←hNP]
 have HNP:=Lib.hid hNP
 have HP:=Lib.hid (fun w' (hb:Below w.heap.size w w')=>planned_n v vf vg n fs gs w' (h.behind hb) (hf.behind hb) (hg.behind hb))
 have hnet:=h
 obtain⟨u1,u2,rfl,r1,r2,hsm⟩:=h
 obtain⟨⟨a1,m1,c1,rfl⟩,-⟩:=slice_of_net hnet
 obtain⟨a2,m2,c2,rfl,HN2,hc2,hm2,-⟩:=flt_opn (m:=4) (enc:=fibE) (fun _=>rfl) (by omega) nilB r2
 obtain⟨af,mf,cf,rfl,-,-,-,-⟩:=flt_opn (m:=2) (enc:=fmE) (fun _=>rfl) (by omega) nilFm hf
 obtain⟨ag,mg,cg,rfl,-,-,-,-⟩:=flt_opn (m:=6) (enc:=groE) (fun _=>rfl) (by omega) nilG hg
 have HSM:=Lib.hid (show NetSm n from hsm)
 have HB1:=Lib.hid ((Below.refl w.heap.size w).alloc (Nat.le_refl _) (.cells #[.slice a1 m1 c1,.slice a2 m2 c2] 35))
 have HX1:=Lib.hid (heap_alloc_new w (.cells #[.slice a1 m1 c1,.slice a2 m2 c2] 35))
 clear hnet hf hg hNP r1 r2 hsm
 go_enter Tryz.func40,Tryz.ntmps40
 go_wp2_with fail
 obtain⟨bx,hbx⟩:∃bx,bx=w.heap.size:=⟨_,rfl⟩
 rw[←hbx] at HX1 ⊢
 clear hbx
 generalize w.alloc (.cells #[.slice a1 m1 c1,.slice a2 m2 c2] 35)=w1 at *
 refine(HP.out w1 HB1.out).mono ?_
 rintro e w2 ⟨b2,aw,ms,cs,a,m,c,rfl,hpl,hno⟩
 have HB2:=Lib.hid (HB1.out.trans (b2.mono HB1.out.size))
 have HX2:=Lib.hid (kept_o' HX1.out b2)
 cases hO:planO n fs gs with
 | none=>
   obtain⟨-,k2⟩:=planB_no hO
   have HE:=Lib.hid (⟨by unfold upK;rw[k2];rfl,by unfold upL upK;rw[k2];rfl⟩:upK n fs gs l=false∧upL n fs gs l=[])
   rw[k2]
   clear b2 hpl hO hno k2
   go_wp2
   rw[HNP.out]
   exact⟨.slice none 0 0,by rw[HE.out.1];rfl,by rw[HE.out.2];exact Ofr.nil _ _ _,HB2.out⟩
 | some x=>
   obtain⟨ps,r⟩:=x
   have k3:=(planB_of hO).2.2
   rw[k3]
   obtain⟨hg8,-,-⟩:=hpl ps r hO
   obtain⟨hl8,hnok,hlsk⟩:=pls_ok hO
   obtain⟨bs,offs,cc,es,hbs,HPL⟩:=pls_at hg8 hl8 HSM.out
   cases es
   have HLS:=Lib.hid hlsk
   have HNOK:=Lib.hid hnok
   have HU:=Lib.hid (show∀t i,planU n fs gs t i=((popN (usedN (ps[t]?.getD []) (i:Int)):Nat):Int) from fun t i=>by unfold planU;rw[hO])
   cases hin:inB l 0 24 with
   | false=>
     have HE:=Lib.hid (⟨by unfold upK;rw[k3,hin];rfl,by unfold upL upK;rw[k3,hin];rfl⟩:upK n fs gs l=false∧upL n fs gs l=[])
     clear b2 hpl hno k3 hg8 hl8 hnok hlsk hO HP hbs
     go_wp2_with (go_at_call 74;refine(within_any _ _ _ _).mono ?_;rintro e w' ⟨rfl,rfl⟩;rw[hin])
     rw[HNP.out]
     exact⟨.slice none 0 0,by rw[HE.out.1];rfl,by rw[HE.out.2];exact Ofr.nil _ _ _,HB2.out⟩
   | true=>
     have HE:=Lib.hid (⟨by unfold upK;rw[k3,hin];rfl,by unfold upL upK;rw[k3,hin];rfl⟩:upK n fs gs l=true∧upL n fs gs l=upT n fs gs l n.fs.length)
     clear b2 hpl hno k3 hg8 hl8 hnok hlsk hO HP
     have h14:m2≤14:=by have:=(netOk_yes HNOK.out).2.2.1;have:=HN2.out;omega
     have HUO:=Lib.hid (fun t (ht:t<8) (vp:Value) w' (hp:PlnR w' vp ⟨n,ps[t]?.getD []⟩)=>usedOn_any vp ⟨n,ps[t]?.getD []⟩ w' hp (by show n.fs.length≤1048576;rw[HN2.out];omega) (Nat.le_trans (HLS.out t ht).1 (by decide)) ((HLS.out t ht).lgo HNOK.out))
     have HUG:=Lib.hid (fun t (ht:t<8) i (hi:i<m2)=>(useL_get (n:=n) (ls:=ps[t]?.getD []) ((HLS.out t ht).lgo HNOK.out) (i:=i) (by rw[HN2.out];exact hi)).trans (HU.out t i).symm)
     have HUL:=Lib.hid (fun(t:Nat)=>show(useL (orAll (ps[t]?.getD []) n.fs.length)).length=m2 by rw[useL_len];exact((orLs_len (ps[t]?.getD []) _).trans (by simp)).trans HN2.out)
     have HRS:=Lib.hid (show fwR (planU n fs gs) l m2 8 0=upT n fs gs l n.fs.length by rw[fwR_all,HN2.out])
     generalize planU n fs gs=U at *
     have HBS:=Lib.hid hbs
     have HB3:=Lib.hid ((Below.refl w2.heap.size w2).alloc (Nat.le_refl _) (.cells #[.int .i64 (-1)] 3))
     have HRP:=Lib.hid (repeat_any (.slice (some ⟨w2.heap.size,0,none⟩) 1 1) (-1) m2 (w2.alloc (.cells #[.int .i64 (-1)] 3)) (own_one w2 (-1) 3).rd (by omega))
     have z1:=blkc (kept_o' HX2.out HB3.out) (j:=1) (u:= .slice a2 m2 c2) rfl
     clear hbs
     go_wp2_with (go_at_call 74;refine(within_any _ _ _ _).mono ?_;rintro e w' ⟨rfl,rfl⟩;rw[hin])
     refine HRP.out.mono ?_
     rintro e w4 ⟨v4,rfl,o4,b4⟩
     have HB4:=Lib.hid (HB3.out.trans (b4.mono HB3.out.size))
     have HO4:=Lib.hid (show Own w4 w2.heap.size v4 (fwR U l m2 0 0) by rw[fwR_zero];exact o4.mono HB3.out.size)
     clear o4 b4 z1 HRP
     obtain⟨a4,c4,n4,HM4,rfl,-,-,ha4⟩:=HO4.out.rd.opn
     have hn4:n4=m2:=by have:=HM4.out;rw[fwR_len] at this;exact this.symm
     rw[hn4] at HO4 ha4 ⊢
     have HA4:=Lib.hid (show 0<m2→ ∃b off,a4=some ⟨b,off,none⟩ from fun h=>by obtain⟨b,off,e,-⟩:=ha4 h;exact⟨b,off,e⟩)
     clear hn4 HM4 ha4
     go_wp2_with fail
     go_loopw [40] (fun i wr=>∃t:Nat,t≤8∧i= .int .i64 t∧Hid (Own wr w2.heap.size (.slice a4 m2 c4) (fwR U l m2 t 0))∧Hid (Below w2.heap.size w2 wr)) (fun i _=>8-(intOf i).toNat)
     case atStart=>exact⟨0,by omega,rfl,HO4.out,HB4.out⟩
     case round=>
      obtain⟨t,ht,rfl,HO,HB⟩:=hrel
      by_cases hlt:t<8
      · have hltI:(t:Int)<8:=by omega
        obtain⟨p1,q1,d1,p2,q2,d2,p3,q3,d3,k0,k1,k2,hpr⟩:=HPL.out t hlt
        have c0:=(HB.out.cell (p:=⟨bs,offs+t * 3,none⟩) HBS.out).trans k0
        have c1:=(HB.out.cell (p:=⟨bs,offs+t * 3+1,none⟩) HBS.out).trans k1
        have c2:=(HB.out.cell (p:=⟨bs,offs+t * 3+2,none⟩) HBS.out).trans k2
        have HPR:=Lib.hid (hpr.behind HB.out)
        clear k0 k1 k2 hpr
        go_upto_region 8 with fail
        have n2':=heap_alloc_new wr (.cells #[.slice p1 q1 d1,.slice p2 q2 d2,.slice p3 q3 d3] 75)
        have HB5:=Lib.hid ((Below.refl wr.heap.size wr).alloc (Nat.le_refl _) (.cells #[.slice p1 q1 d1,.slice p2 q2 d2,.slice p3 q3 d3] 75))
        obtain⟨bq,hbq⟩:∃bq,bq=wr.heap.size:=⟨_,rfl⟩
        rw[←hbq] at n2' ⊢
        clear hbq c0 c1 c2
        generalize wr.alloc (.cells #[.slice p1 q1 d1,.slice p2 q2 d2,.slice p3 q3 d3] 75)=w5 at *
        have y0:=blkc n2' (j:=0) (u:= .slice p1 q1 d1) rfl
        have y1:=blkc n2' (j:=1) (u:= .slice p2 q2 d2) rfl
        have y2:=blkc n2' (j:=2) (u:= .slice p3 q3 d3) rfl
        have HL:=Lib.hid (HUL.out t)
        have HG:=Lib.hid (HUG.out t hlt)
        have HUS:=Lib.hid (HUO.out t hlt _ w5 (HPR.out.behind HB5.out))
        have HB6:=Lib.hid (HB.out.trans (HB5.out.mono HB.out.size))
        have HO5:=Lib.hid (HO.out.belowAll HB5.out)
        try dsimp only at HUS
        generalize useL (orAll (ps[t]?.getD []) n.fs.length)=L at *
        clear n2'
        go_wp2_with fail
        refine HUS.out.mono ?_
        rintro e w6 ⟨v6,rfl,o6,b6⟩
        obtain⟨a6,c6,m6,HM6,rfl,hc6,hm6,hcs⟩:=o6.rd.opn
        have hm6':m6=m2:=by rw[←HM6.out];exact HL.out
        rw[hm6'] at hcs o6 ⊢
        have HB7:=Lib.hid (HB6.out.trans (b6.mono HB6.out.size))
        have HO7:=Lib.hid (HO5.out.belowAll b6)
        have HCS:=Lib.hid hcs
        have HLO:=Lib.hid (show∀k,(Value.slice a6 m2 c6).ownBlock=some k→w5.heap.size≤k∧k<w6.heap.size from o6.lt)
        have HGO:=Lib.hid (show∀k,(Value.slice a4 m2 c4).ownBlock=some k→w2.heap.size≤k∧k<w5.heap.size from HO5.out.lt)
        clear o6 b6 y0 y1 y2 hcs HUS HO HO5 HM6 hm6' hc6 hm6
        go_wp2_with fail
        go_loopw [48] (fun i wq=>∃k:Nat,k≤m2∧i= .int .i64 k∧Hid (Own wq w2.heap.size (.slice a4 m2 c4) (fwR U l m2 t k))∧Hid (Below w2.heap.size w2 wq)∧Hid (∀b,w5.heap.size≤b→b<w6.heap.size→wq.heap[b]?= w6.heap[b]?)) (fun i _=>m2-(intOf i).toNat)
        case atStart=>exact⟨0,by omega,rfl,HO7.out,HB7.out,fun _ _ _=>rfl⟩
        case round=>
         obtain⟨k,hk,rfl,HO,HBK,HKP⟩:=hrel
         by_cases hlk:k<m2
         · have hlkI:(k:Int)<(m2:Int):=by omega
           obtain⟨b,off,rfl,hb6,hcs⟩:=HCS.out (by omega)
           obtain⟨g,og,rfl⟩:=HA4.out (by omega)
           have hgo:=HGO.out g rfl
           have hlo:=HLO.out b rfl
           have c0:=(World.cell?_of_block (w:=w6) (w':=wr) (a:=⟨b,off+k,none⟩) (HKP.out b hlo.1 hlo.2)).trans (hcs k hlk)
           have HGK:=Lib.hid (HG.out k hlk)
           rw[HGK.out] at c0
           have hkl:k<(fwR U l m2 t k).length:=by rw[fwR_len];exact hlk
           have d0:=(HO.out.cellAt rfl).2 k hkl
           have fz:=HO.out.frozenAt rfl (og+k)
           have HST:=Lib.hid (HO.out.stored rfl k hkl (t:Int))
           have HYES:=Lib.hid (fun(h1:l<U t k) (h2:(fwR U l m2 t k)[k]?.getD 0<0)=>fwR_set (U:=U) (l:=l) hlk h1 h2)
           have HNO:=Lib.hid (fun(h1:¬(l<U t k∧(fwR U l m2 t k)[k]?.getD 0<0))=>fwR_same (U:=U) (l:=l) hlk h1)
           generalize U t k=u at *
           generalize fwR U l m2 t k=X at *
           generalize X[k]?.getD 0=r at *
           clear hcs hb6
           by_cases hgt:l<u
           · have hgd:decide (u>l)=true:=decide_eq_true hgt
             by_cases hr0:r<0
             · have hrd:decide (r<0)=true:=decide_eq_true hr0
               have HY:=Lib.hid (HYES.out hgt hr0)
               go_wp2_with fail
               have HO9:=Lib.hid HST.out.1
               have HB9:=Lib.hid (HBK.out.grown HST.out.2 HBK.out.size (fun q hq=>by have:g=q:=Option.some.inj hq;have:=hgo.1;omega))
               have HK9:=Lib.hid (show∀b,w5.heap.size≤b→b<w6.heap.size→(wr.setCell ⟨g,og+k,none⟩ (.int .i64 (t:Int))).heap[b]?= w6.heap[b]? from fun b h1 h2=>(heap_setCell_other wr ⟨g,og+k,none⟩ b _ (by show b≠g;have:=hgo.2;omega)).trans (HKP.out b h1 h2))
               rw[HY.out] at HO9
               generalize wr.setCell ⟨g,og+k,none⟩ (.int .i64 (t:Int))=w9 at *
               clear c0 d0 fz
               go_wp2_with fail
               go_roundw
               case rel=>exact⟨k+1,by omega,by go_num,HO9.out,HB9.out,HK9.out⟩
               case measure=>simp[intOf];omega
             · have hrd:decide (r<0)=false:=decide_eq_false hr0
               have HN:=Lib.hid (HNO.out (fun e=>hr0 e.2))
               go_wp2_with fail
               go_roundw
               case rel=>exact⟨k+1,by omega,by go_num,by rw[←HN.out];exact HO.out,HBK.out,HKP.out⟩
               case measure=>simp[intOf];omega
           · have hgd:decide (u>l)=false:=decide_eq_false hgt
             have HN:=Lib.hid (HNO.out (fun e=>hgt e.1))
             go_wp2_with fail
             go_roundw
             case rel=>exact⟨k+1,by omega,by go_num,by rw[←HN.out];exact HO.out,HBK.out,HKP.out⟩
             case measure=>simp[intOf];omega
         · have hlkI:¬(k:Int)<(m2:Int):=by omega
           obtain rfl:k=m2:=by omega
           have HO9:=Lib.hid HO.out
           rw[fwR_next] at HO9
           go_wp2_with fail
           go_roundw
           case rel=>exact⟨t+1,by omega,by go_num,HO9.out,HBK.out⟩
           case measure=>simp[intOf];omega
      · obtain rfl:t=8:=by omega
        have HOF:=Lib.hid (HO.out.mono (show w.heap.size≤w2.heap.size from HB2.out.size))
        rw[HRS.out] at HOF
        go_wp2_with fail
        rw[HNP.out]
        exact⟨_,by rw[HE.out.1];rfl,by rw[HE.out.2];exact HOF.out.ofr,HB2.out.trans (HB.out.mono HB2.out.size)⟩
theorem specUpg_any (l:Int) (v vf vg:Value) (n:Net) (fs:List Fmt) (gs:List Gro) (w:World) (h:NetR w v n) (hf:Rdt w (flt 2 fmE fs) vf) (hg:Rdt w (flt 6 groE gs) vg):
 Calls Tryz.prog 41 #[v,vf,vg,.int .i64 l] w (UpP n fs gs l w):=by
 obtain⟨NP,hNP⟩:∃NP,NP=UpP n fs gs l w:=⟨_,rfl⟩
 rw[←hNP]
 have HNP:=Lib.hid hNP
 have HP:=Lib.hid (fun w' (hb:Below w.heap.size w w')=>l26Plan_n v vf vg n fs gs w' (h.behind hb) (hf.behind hb) (hg.behind hb))
 have hnet:=h
 obtain⟨u1,u2,rfl,r1,r2,hsm⟩:=h
 obtain⟨⟨a1,m1,c1,rfl⟩,-⟩:=slice_of_net hnet
 obtain⟨a2,m2,c2,rfl,HN2,hc2,hm2,-⟩:=flt_opn (m:=4) (enc:=fibE) (fun _=>rfl) (by omega) nilB r2
 obtain⟨af,mf,cf,rfl,-,-,-,-⟩:=flt_opn (m:=2) (enc:=fmE) (fun _=>rfl) (by omega) nilFm hf
 obtain⟨ag,mg,cg,rfl,-,-,-,-⟩:=flt_opn (m:=6) (enc:=groE) (fun _=>rfl) (by omega) nilG hg
 have HSM:=Lib.hid (show NetSm n from hsm)
 have HB1:=Lib.hid ((Below.refl w.heap.size w).alloc (Nat.le_refl _) (.cells #[.slice a1 m1 c1,.slice a2 m2 c2] 35))
 have HX1:=Lib.hid (heap_alloc_new w (.cells #[.slice a1 m1 c1,.slice a2 m2 c2] 35))
 clear hnet hf hg hNP r1 r2 hsm
 have HOa:=Lib.hid (own_none (w.alloc (.cells #[.slice a1 m1 c1,.slice a2 m2 c2] 35)) 3)
 have HBa:=Lib.hid (HB1.out.alloc HB1.out.size (.cells #[] 3))
 have HXa:=Lib.hid (kept_o' HX1.out ((Below.refl _ _).alloc (Nat.le_refl _) (.cells #[] 3)))
 go_enter Tryz.func41,Tryz.ntmps41
 go_wp2_with fail
 obtain⟨bx,hbx⟩:∃bx,bx=w.heap.size:=⟨_,rfl⟩
 have hz1:(w.alloc (.cells #[.slice a1 m1 c1,.slice a2 m2 c2] 35)).heap.size=w.heap.size+1:=by simp
 rw[hz1] at HOa
 have hz2:((w.alloc (.cells #[.slice a1 m1 c1,.slice a2 m2 c2] 35)).alloc (.cells #[] 3)).heap.size=w.heap.size+1+1:=by simp
 rw[←hbx] at HX1 HXa HOa hz2 ⊢
 clear hz1
 generalize (w.alloc (.cells #[.slice a1 m1 c1,.slice a2 m2 c2] 35)).alloc (.cells #[] 3)=w1 at *
 refine(HP.out w1 HBa.out).mono ?_
 rintro e w2 ⟨b2,aw,ms,cs,a,m,c,rfl,hpl⟩
 have HB2:=Lib.hid (HBa.out.trans (b2.mono HBa.out.size))
 have HX2:=Lib.hid (kept_o' HXa.out b2)
 have HO2:=Lib.hid (HOa.out.below b2 (fun k hk=>(HOa.out.lt k hk).2))
 have HZ2:=Lib.hid (hz2▸b2.size:bx+1+1≤w2.heap.size)
 have HZ1:=Lib.hid hz2
 have HBX:=Lib.hid hbx
 have HB3:=Lib.hid ((Below.refl w2.heap.size w2).alloc (Nat.le_refl _) (.cells #[.slice aw ms cs,.slice a m c] 95))
 have HX3:=Lib.hid (heap_alloc_new w2 (.cells #[.slice aw ms cs,.slice a m c] 95))
 have HB4:=Lib.hid (HB2.out.trans (HB3.out.mono HB2.out.size))
 clear hz2 hbx
 cases hO:planO n fs gs with
 | none=>
   obtain⟨-,k2⟩:=planB_no hO
   have HE:=Lib.hid (⟨by unfold upK;rw[k2];rfl,by unfold upL upK;rw[k2];rfl⟩:upK n fs gs l=false∧upL n fs gs l=[])
   have HO3:=Lib.hid ((HO2.out.below HB3.out (fun k hk=>(HO2.out.lt k hk).2)).mono (show w.heap.size≤bx+1 by have:=HBX.out;omega))
   rw[k2]
   clear b2 hpl hO k2
   go_wp2
   rw[HNP.out]
   exact⟨_,by rw[HE.out.1];rfl,by rw[HE.out.2];exact HO3.out.ofr,HB4.out⟩
 | some x=>
   obtain⟨ps,r⟩:=x
   have k3:=(planB_of hO).2.2
   have HO3:=Lib.hid (HO2.out.below HB3.out (fun k hk=>(HO2.out.lt k hk).2))
   rw[k3]
   obtain⟨hg8,-,-⟩:=hpl ps r hO
   obtain⟨hl8,hnok,hlsk⟩:=pls_ok hO
   obtain⟨bs,offs,cc,es,HPL⟩:=pls_atK hg8 hl8 HSM.out
   cases es
   have HLS:=Lib.hid hlsk
   have HNOK:=Lib.hid hnok
   have h14:n.fs.length≤14:=(netOk_yes hnok).2.2.1
   have HU:=Lib.hid (show∀t i,planU n fs gs t i=((popN (usedN (ps[t]?.getD []) (i:Int)):Nat):Int) from fun t i=>by unfold planU;rw[hO])
   have HRP:=Lib.hid (show∀t,t<8→plnOk ⟨n,ps[t]?.getD []⟩=true from fun t ht=>by
    obtain⟨-,h2,h3,h4⟩:=planO_some hO
    have he:ps[t]?= some (ps[t]?.getD []):=by rw[List.getElem?_eq_getElem (by omega)];rfl
    exact runP_pln h2 h3 h4 ht he)
   have HUO:=Lib.hid (fun t (ht:t<8) (vp:Value) (k:Nat) w' (hp:PlnR w' vp ⟨n,ps[t]?.getD []⟩)=>l9Used_any vp ⟨n,ps[t]?.getD []⟩ (k:Int) w' hp ((HLS.out t ht).lgo HNOK.out))
   have HUT:=Lib.hid (fun t (ht:t<8) (k:Nat)=>usedN_lt ((HLS.out t ht).lgo HNOK.out) (k:Int))
   have HUB:=Lib.hid (fun t i=>planU_bd n fs gs t i)
   have HST:=Lib.hid (fun k=>upT_step n fs gs l k)
   have HLN:=Lib.hid (fun k=>upT_len n fs gs l k)
   cases hin:inB l 0 24 with
   | false=>
     have HE:=Lib.hid (⟨by unfold upK;rw[k3,hin];rfl,by unfold upL upK;rw[k3,hin];rfl⟩:upK n fs gs l=false∧upL n fs gs l=[])
     have HOF:=Lib.hid (HO3.out.mono (show w.heap.size≤bx+1 by have:=HBX.out;omega))
     clear b2 hpl k3 hg8 hl8 hnok hlsk hO HP h14
     go_wp2_with (go_at_call 77;refine(l1In_any _ _ _ _).mono ?_;rintro e w' ⟨rfl,rfl⟩;rw[hin])
     rw[HNP.out]
     exact⟨_,by rw[HE.out.1];rfl,by rw[HE.out.2];exact HOF.out.ofr,HB4.out⟩
   | true=>
     have HE:=Lib.hid (⟨by unfold upK;rw[k3,hin];rfl,by unfold upL upK;rw[k3,hin];rfl⟩:upK n fs gs l=true∧upL n fs gs l=upT n fs gs l n.fs.length)
     have HX5:=Lib.hid (kept_o' HX2.out HB3.out)
     have HX3:=Lib.hid (heap_alloc_new w2 (.cells #[.slice (some ⟨bs,offs,none⟩) 8 cs,.slice a m c] 95))
     clear b2 hpl k3 hg8 hl8 hnok hlsk hO HP h14
     go_upto_region 3 with fail
     obtain⟨bq,hbq⟩:∃bq,bq=w2.heap.size:=⟨_,rfl⟩
     rw[←hbq] at HX3 ⊢
     have HBQ:=Lib.hid hbq
     clear hbq
     generalize w2.alloc (.cells #[.slice (some ⟨bs,offs,none⟩) 8 cs,.slice a m c] 95)=w3 at *
     obtain⟨bo,hbo⟩:∃bo,bo=bx+1:=⟨_,rfl⟩
     rw[←hbo] at HO3 HZ1 HZ2 ⊢
     have HBO:=Lib.hid hbo
     clear hbo
     go_wp2_with (go_at_call 77;refine(l1In_any _ _ _ _).mono ?_;rintro e w' ⟨rfl,rfl⟩;rw[hin])
     clear hin
     go_loopw [10,13] (fun s8 i wr=>∃(k:Nat) (ao:Option Addr) (no co:Nat),k≤m2∧i= .int .i64 k∧s8= .slice ao no co∧Hid (Own wr bo (.slice ao no co) (upT n fs gs l k))∧Hid (Mv (QQ bo) (QQ bo) w3 wr)∧Hid (∀g,(Value.slice ao no co).ownBlock=some g→g=bo∨w3.heap.size≤g)) (fun _ i _=>m2-(intOf i).toNat)
     case atStart=>exact⟨0,_,_,_,by omega,rfl,rfl,HO3.out,Mv.of_below (Below.refl _ _),fun g hg=> .inl (by simpa[Value.ownBlock] using hg.symm)⟩
     case round=>
      obtain⟨k,ao,no,co,hk,rfl,rfl,HO,HM,HOB⟩:=hrel
      have HKQ:=Lib.hid (fun wq (hb:Below wr.heap.size wr wq) k (hk:k≠bo) (hl:k<w3.heap.size)=>show wq.heap[k]?= w3.heap[k]? from(hb.block k (Nat.lt_of_lt_of_le hl HM.out.size)).trans (HM.out.block k hl hk))
      have HZ3:=Lib.hid HB3.out.size
      have HPW:=Lib.hid (fun t (ht:t<8) wq (hb:Below wr.heap.size wr wq)=>HPL.out wq (fun k h1 h2=>(HKQ.out wq hb k (by have:=HZ1.out;omega) (Nat.lt_of_lt_of_le h2 HZ3.out)).trans (HB3.out.block k h2)) t ht)
      have HXN:=Lib.hid (fun wq (hb:Below wr.heap.size wr wq)=>(HKQ.out wq hb bx (by have:=HBO.out;omega) (Array.getElem?_eq_some_iff.1 HX5.out).1).trans HX5.out)
      have HXR:=Lib.hid (fun wq (hb:Below wr.heap.size wr wq)=>(HKQ.out wq hb bq (by have:=HZ2.out;have:=HBQ.out;omega) (Array.getElem?_eq_some_iff.1 HX3.out).1).trans HX3.out)
      have z5:=blkc (HXN.out _ (Below.refl _ _)) (j:=1) (u:= .slice a2 m2 c2) rfl
      by_cases hlk:k<m2
      · have hlkI:(k:Int)<(m2:Int):=by omega
        have HSX:=Lib.hid (HST.out k)
        have HVU:=Lib.hid (fun t=>HU.out t k)
        have HLO:=Lib.hid (show(upT n fs gs l k).length≤4000000 by rw[HLN.out];have:=(netOk_yes HNOK.out).2.2.1;have:=HN2.out;omega)
        generalize upT n fs gs l k=ys at HO HLO HSX
        generalize hV:(fun t=>planU n fs gs t k)=V at HSX
        have HVV:=Lib.hid (show∀t,V t=planU n fs gs t k from fun t=>by rw[←hV])
        clear hV
        go_wp2_with fail
        clear z5
        obtain⟨wo,hwo⟩:∃wo,wo=wr:=⟨_,rfl⟩
        subst hwo
        go_loopw [14,15] (fun s14 i wq=>∃d:Nat,d≤8∧i= .int .i64 (7-(d:Int))∧s14= .int .i64 (bwd V l d)∧Hid (Below wo.heap.size wo wq)) (fun _ i _=>(intOf i+1).toNat)
        case atStart=>exact⟨0,by omega,rfl,rfl,Below.refl _ _⟩
        case round=>
         obtain⟨d,hd,rfl,rfl,HB⟩:=hrel
         by_cases hlt:d<8
         · obtain⟨t,ht⟩:∃t:Nat,t=7-d:=⟨_,rfl⟩
           have h7:7-(d:Int)=(t:Int):=by omega
           rw[h7]
           have ht8:t<8:=by omega
           have HT8:=Lib.hid ht8
           have h77:(7:Int)-((d+1:Nat):Int)=(t:Int)-1:=by omega
           have H77:=Lib.hid h77
           have f1:wrap64 ((t:Int)-1)=(t:Int)-1:=IntWalk.wrap64_in _ (by omega)
           have HSS:=Lib.hid (show bwd V l (d+1)=if l<V t then(t:Int) else bwd V l d by rw[bwd,←ht])
           have z3:=blkc (HXR.out _ HB.out) (j:=0) (u:= .slice (some ⟨bs,offs,none⟩) 8 cs) rfl
           obtain⟨p1,q1,d1,p2,q2,d2,p3,q3,d3,e0,e1,e2,hpr⟩:=HPW.out t ht8 _ HB.out
           have HC1:=Lib.hid (HUO.out t ht8 _ k _ hpr)
           have HMV:=Lib.hid ((HVV.out t).trans (HVU.out t))
           have HML:=Lib.hid (HUT.out t ht8 k)
           try dsimp only at HC1
           generalize usedN (ps[t]?.getD []) (k:Int)=M at *
           generalize bwd V l d=F at *
           generalize V t=u at *
           have HD:=Lib.hid hlt
           have htn:(0:Int)≤(t:Int):=by omega
           have HTD:=Lib.hid ht
           clear hpr h7 h77 ht hlt
           go_wp2_with fail
           refine HC1.out.mono ?_
           rintro e w7 ⟨rfl,b7⟩
           have HB7:=Lib.hid (HB.out.trans (b7.mono HB.out.size))
           have HCM:=Lib.hid (l8Count_any M HML.out w7)
           rw[←HMV.out] at HCM
           clear b7 z3 e0 e1 e2
           by_cases hgt:l<u
           · rw[if_pos hgt] at HSS
             have hgd:decide (u>l)=true:=decide_eq_true hgt
             go_wp2_with (go_at_call 83;refine HCM.out.mono ?_;rintro e w' ⟨rfl,rfl⟩)
             go_roundw
             case rel=>exact⟨d+1,by have:=HD.out;omega,by rw[H77.out],by rw[HSS.out],HB7.out⟩
             case measure=>simp[intOf]
           · rw[if_neg hgt] at HSS
             have hgd:decide (u>l)=false:=decide_eq_false hgt
             go_wp2_with (go_at_call 83;refine HCM.out.mono ?_;rintro e w' ⟨rfl,rfl⟩)
             go_roundw
             case rel=>exact⟨d+1,by have:=HD.out;omega,by rw[H77.out],by rw[HSS.out],HB7.out⟩
             case measure=>simp[intOf]
         · obtain rfl:d=8:=by omega
           have HO6:=Lib.hid (HO.out.below HB.out (fun k hk=>(HO.out.lt k hk).2))
           have HM6:=Lib.hid (HM.out.trans (Mv.of_below HB.out))
           have HSZ:=Lib.hid (show bo≤wr.heap.size by have:=HM6.out.size;have:=HZ3.out;have:=HZ2.out;omega)
           generalize bwd V l 8=F at *
           go_wp2_with (first
            | (at_builtin;go_loud (refine wpList_pushI rfl (.tmp 54) (.tmp 56) 58 rfl Tryz.underlying58 Tryz.infoI bo (.slice ao no co) ys rfl HO6.out rfl HLO.out HSZ.out ?_);intro v8 w8 o8 g8 l8;have HO8:=Lib.hid o8;have HM8:=Lib.hid (show Mv (QQ bo) (QQ bo) w3 w8 from HM6.out.grown8 g8 HOB.out);have HOB8:=Lib.hid (show∀g,v8.ownBlock=some g→g=bo∨w3.heap.size≤g from fun g hg=>(l8 g hg).elim (fun h=>HOB.out g h) (fun h=> .inr (Nat.le_trans HM6.out.size h)));obtain⟨a8,n8,c8,rfl⟩:∃a n c,v8= .slice a n c:=own_slice o8;clear o8 g8 l8))
           go_roundw
           case rel=>exact⟨k+1,_,_,_,by omega,by go_num,rfl,by rw[HSX.out];exact HO8.out,HM8.out,HOB8.out⟩
           case measure=>simp[intOf];omega
      · have hlkI:¬(k:Int)<(m2:Int):=by omega
        obtain rfl:k=m2:=by omega
        have HOF:=Lib.hid (HO.out.mono (show w.heap.size≤bo by have:=HBO.out;have:=HBX.out;omega))
        have HBF:=Lib.hid (HM.out.below HB4.out HB4.out.size (fun g hg=>by have:=HBO.out;have:=HBX.out;rw[show g=bo from hg];omega))
        rw[HN2.out] at HE
        go_wp2_with fail
        rw[HNP.out]
        exact⟨_,by rw[HE.out.1],by rw[HE.out.2];exact HOF.out.ofr,HBF.out⟩
end Go.Proofs.YtofcicomhnkocaaGreat
