import Derived.Test.YtofcicomhnkocaaGreatBx17
set_option linter.unusedVariables false
namespace Go.Proofs.YtofcicomhnkocaaGreat
set_option maxHeartbeats 12800000
open Go.RowKit Go.Sort
set_option maxRecDepth 100000
section
variable {α β : Type}
theorem tag_map (f:α→β) (L:List α):tagS (L.map f)=(tagS L).map fun y=>(f y.1,y.2):=by
 unfold tagS
 rw[List.zipIdx_map]
 rfl
theorem head_scan {k:α→Int} {p:α→Bool} {S:List (α × Nat)} {zs:List α} (hs:srtS k S) (hp:S.Perm (tagS zs)):(S.filter fun y=>p y.1).head?= scanS k p zs zs.length:=by
 have ht:(tagS zs).take zs.length=tagS zs:=List.take_of_length_le (by unfold tagS;simp)
 cases ho:scanS k p zs zs.length with
 | none=>
   have hn:=@scanS_some.scanS_none α k p zs 0 zs zs.length (ξr _) ho
   rw[ht] at hn
   cases hf:S.filter (fun y=>p y.1) with
   | nil=>rfl
   | cons x T=>
     have hb:=head_best hs hp hf
     have:=hn x hb.1
     rw[hb.2.1] at this;cases this
 | some b=>
   have hb:=scanS_some (ξr _) ho
   rw[ht] at hb
   cases hf:S.filter (fun y=>p y.1) with
   | nil=>
     have:=head_none hp hf b hb.1
     rw[hb.2.1] at this;cases this
   | cons x T=>rw[isBest_one (head_best hs hp hf) hb];rfl
end
def fitC (ls:List Lgt) (x:Chc):List Nat:=fitsN (ξP ls x.fb) x.ct
def encF (y:Chc × Nat):List Value:=[.int .i64 0,.int .i64 y.1.st,.slice y.1.a y.1.fb.length y.1.c,.int .i64 (y.2:Int),.int .i64 (y.1.ct:Int)]
def canC (ls:List Lgt) (C:List Chc):List (Chc × Nat):=C.filterMap fun x=>(fitC ls x).head?.map fun s=>(x,s)
theorem canC_step {ls:List Lgt} {C:List Chc} {k:Nat} (hk:k<C.length):canC ls (C.take (k+1))=canC ls (C.take k)++((fitC ls C[k]).head?.map fun s=>(C[k],s)).toList:=by
 unfold canC
 rw[List.take_add_one,List.filterMap_append,ξg hk]
 congr 1
theorem canC_head {ls:List Lgt} {n:Net} {fs:List Fmt} {d:Dem} {L:List Chc} {S:List (Chc × Nat)} (hs:srtS costC S) (hp:S.Perm (tagS L)) (hu:L.map usC=usaR n fs d):
 match pickU n fs d ls with
 | none=>canC ls (S.map Prod.fst)=[]
 | some (u,_)=>∃x T,canC ls (S.map Prod.fst)=(x,(fitU ls u).headD 0)::T∧usC x=u∧x∈L:=by
 have hs2:srtS costU (S.map fun y=>(usC y.1,y.2)):=by
  unfold srtS
  rw[List.pairwise_map]
  exact List.Pairwise.imp (fun h=>h) hs
 have hp2:(S.map fun y=>(usC y.1,y.2)).Perm (tagS (usaR n fs d)):=by
  rw[←hu,tag_map]
  exact hp.map _
 have hh:=head_scan (p:=okU ls) hs2 hp2
 rw[List.filter_map,List.head?_map] at hh
 have hfit:∀x:Chc,fitU ls (usC x)=fitC ls x:=fun x=>by
  unfold fitU fitC usC;simp
 have hok:∀y:Chc × Nat,((fun y=>okU ls y.1) ∘ fun y:Chc × Nat=>(usC y.1,y.2)) y= !(fitC ls y.1).isEmpty:=fun y=>by
  simp only[Function.comp,okU];rw[hfit]
 have key:∀S:List (Chc × Nat),(canC ls (S.map Prod.fst)).head?= (S.filter ((fun y=>okU ls y.1) ∘ fun y:Chc × Nat=>(usC y.1,y.2))).head?.map fun y=>(y.1,(fitU ls (usC y.1)).headD 0):=by
  intro S
  induction S with
  | nil=>rfl
  | cons y T ih=>
    cases hc:fitC ls y.1 with
    | nil=>
      have e1:canC ls ((y::T).map Prod.fst)=canC ls (T.map Prod.fst):=by
       unfold canC
       rw[List.map_cons,List.filterMap_cons_none (by rw[hc];rfl)]
      rw[e1,List.filter_cons_of_neg (by rw[hok,hc];simp),ih]
    | cons s t=>
      have e1:canC ls ((y::T).map Prod.fst)=(y.1,s)::canC ls (T.map Prod.fst):=by
       unfold canC
       rw[List.map_cons,List.filterMap_cons_some (by rw[hc];rfl)]
      rw[e1,List.filter_cons_of_pos (by rw[hok,hc];rfl)]
      simp[hfit,hc]
 have hk:=key S
 unfold pickU
 rw[←hh] at *
 cases hf:(S.filter ((fun y=>okU ls y.1) ∘ fun y:Chc × Nat=>(usC y.1,y.2))).head? with
 | none=>
   rw[hf] at hk
   simpa using hk
 | some y=>
   rw[hf] at hk
   simp only[Option.map_some] at hk ⊢
   obtain⟨x,T,e⟩:∃x T,canC ls (S.map Prod.fst)=x::T:=by
    cases h:canC ls (S.map Prod.fst) with
    | nil=>rw[h] at hk;cases hk
    | cons a b=>exact⟨a,b,rfl⟩
   rw[e] at hk
   simp only[List.head?_cons,Option.some.injEq] at hk
   refine⟨y.1,T,by rw[e,hk],rfl,?_⟩
   have hm:=List.mem_of_mem_head? (Option.mem_def.2 hf)
   have hm2:=hp.mem_iff.1 (List.mem_filter.1 hm).1
   rw[←tagS_fst L]
   exact List.mem_map.2 ⟨y,hm2,rfl⟩
open Go.RowKit
theorem Own.pushed' {w:World} {base:Nat} {v:Value} {xs:List Int} {g off n cap:Nat} (h:Own w base v xs) (hv:v= .slice (some ⟨g,off,none⟩) n cap) (hc:n+1≤cap) (u:Int):
 Own (w.setCell ⟨g,off+n,none⟩ (.int .i64 u)) base (.slice (some ⟨g,off,none⟩) (n+1) cap) (xs++[u])∧w.grownBy (w.setCell ⟨g,off+n,none⟩ (.int .i64 u)) (some g):=by
 rcases h with ⟨rfl,rfl⟩ | ⟨g',off',cap',cur,hv',hb,⟨T,hg⟩,h1,h2,h3,h4⟩
 · simp at hv
 · rw[hv'] at hv
   simp only[Value.slice.injEq,Option.some.injEq,Addr.mk.injEq,and_true] at hv
   obtain⟨⟨rfl,rfl⟩,rfl,rfl⟩:=hv
   refine⟨.inr ⟨g',off',cap',cur.setIfInBounds (off'+xs.length) (.int .i64 u),by simp,hb,⟨T,ξe w g' (off'+xs.length) cur _ _ hg⟩,by simpa using hc,h2,by simpa using h3,?_⟩,
    ⟨rfl,rfl,rfl,by simp,fun k _ hk=>ξm w ⟨g',off'+xs.length,none⟩ k _ (fun e=>hk (by simp[e]))⟩⟩
   have hlt:xs.length<(cur.toList.drop off').length:=by simp;omega
   rw[Array.toList_setIfInBounds,ξk]
   show List.take (xs.length+1) (List.drop off' (cur.toList.set (off'+xs.length) (.int .i64 u)))=(xs++[u]).map (Value.int .i64)
   rw[List.map_append]
   show _=ints xs++[Value.int .i64 u]
   rw[←h4,List.drop_set,if_neg (by omega),Nat.add_sub_cancel_left,List.take_add_one,List.getElem?_set_self hlt,List.take_set,List.set_eq_of_length_le (by simp;omega)]
   rfl
theorem ξa6 {P:Program} {ops:Array Oper} {rest:List Oper} {o:Oper} {a:Act} {Q:Exit→Act→World→Prop} {wr:World} {y:Int} (hgd:o.guard=none) (s x:Operand) (T:TypeId)
 (ho:o.op= .call {callee:= .builtin .append,args:=#[s,x],argTypes:=#[T,T]}) (ht:P.underlying T=some (.slice 3))
 (hinfo:(P.info? 3).map (fun i=>(i.zero,i.size,i.bytes))=some (some (.int .i64 0),1,8))
 (base:Nat) (v:Value) (xs:List Int) (hs:a.eval s=v) (hown:Own wr base v xs)
 (hx:a.eval x= .slice (some ⟨wr.heap.size,0,none⟩) 1 1) (hn:xs.length≤4000000) (hbase:base≤wr.heap.size)
 (h:∀v' w',Own w' base v' (xs++[y])→wr.grownBy w' v.ownBlock→(∀g,v'.ownBlock=some g→v.ownBlock=some g∨wr.heap.size≤g)→wpList P ops Q rest (a.put o.dst v') w'):
 wpList P ops Q (o::rest) a (wr.alloc (.cells #[.int .i64 y] 3)):=by
 have h0:=hown
 rcases hown with ⟨rfl,rfl⟩ | ⟨g,f,cap,cur,rfl,hb,⟨T',hg⟩,h1,h2,h3,h4⟩
 · obtain⟨i0,hi,hz0,hz1,hz2⟩:=info_parts hinfo
   have hr:(wr.alloc (.cells #[.int .i64 y] 3)).ownsRow wr.heap.size 3 1 (.slice none 0 0) 0 (ints []):=⟨by simp,.inl ⟨rfl,rfl⟩⟩
   refine wpList_append_own _ hgd s x T ho wr.heap.size 3 i0 (.int .i64 0) 1 8 ht hi hz0 hz1 hz2 rfl (by decide) (.slice none 0 0) 0 (ints []) hs hr ⟨wr.heap.size,0,none⟩ 1 1 [.int .i64 y] hx rfl ?_ ?_ (by unfold maxLen;omega) (by omega) (by simp) ?_
   · intro j u hu
     rcases j with _ | j
     · simp at hu;subst hu
       simp[Addr.add,World.cell?_alloc_at]
     · simp at hu
   · intro u hu;simp at hu;subst hu;rfl
   · intro v' w' g1 g2 _
     have g3:w'.ownsRow wr.heap.size 3 1 v' (0+1) (ints ([]++[y])):=by simpa[ints] using g1
     have o3:=ξa4 g3
     exact h v' w' (o3.mono hbase) ((World.grownBy_alloc _ _ _).trans' g2) (fun g hg=> .inr (o3.lt g hg).1)
 · obtain⟨i0,hi,hz0,hz1,hz2⟩:=info_parts hinfo
   have hba:Below wr.heap.size wr (wr.alloc (.cells #[.int .i64 y] 3)):=(ξb _ _).alloc (ξr _) _
   have ho2:=h0.belowAll hba
   obtain⟨hl,hc⟩:=ho2.cellAt rfl
   have hg0:wr.grownBy (wr.alloc (.cells #[.int .i64 y] 3)) (some g):=⟨hba.os,hba.tape,hba.output,hba.size,fun k hk _=>hba.block k hk⟩
   refine wpList_append_arg _ hgd s x T ho 3 i0 (.int .i64 0) 1 8 ht hi hz0 hz1 hz2 rfl (by decide) g f xs.length cap (ints xs) hs (by simp) ?_ ⟨wr.heap.size,0,none⟩ 1 1 [.int .i64 y] hx rfl ?_ ?_ ?_ (by unfold maxLen;omega) (by omega) ?_ ?_
   · intro j u hu
     have hj:j<xs.length:=by have:=(ξl hu).1;simpa using this
     rw[hc j hj,←hu]
     simp[hj]
   · intro j u hu
     rcases j with _ | j
     · simp at hu;subst hu
       simp[Addr.add,World.cell?_alloc_at]
     · simp at hu
   · intro u hu
     simp at hu;subst hu;rfl
   · intro hr j hj
     obtain rfl:j=0:=by simpa using hj
     have hblt:g<wr.heap.size:=(ξa hg).1
     have hg':(wr.alloc (.cells #[.int .i64 y] 3)).heap[g]?= some (.cells cur T' (0,0)):=(hba.block g hblt).trans hg
     refine⟨?_,ξz _ _ _ _ _ hg'⟩
     rw[cell_of_row _ _ _ _ _ _ hg']
     simp;omega
   · intro hr
     have hst:=ho2.pushed' rfl (by omega) y
     rw[show f+xs.length*1=f+xs.length from by omega]
     exact h _ _ hst.1 (hg0.trans' hst.2) (fun g' hg'=> .inl (by simpa[Value.ownBlock] using hg'))
   · intro hr v' w' h1 h2
     have h3:w'.ownsRow (wr.alloc (.cells #[.int .i64 y] 3)).heap.size 3 1 v' (xs.length+1) (ints (xs++[y])):=by simpa[ints] using h1
     have o3:=ξa4 h3
     exact h v' w' (o3.mono (by simp;omega)) (hg0.trans' ⟨h2.os,h2.tape,h2.output,h2.size,fun k hk _=>h2.block k hk (by simp)⟩) (fun g' hg'=> .inr (by have:=(o3.lt g' hg').1;simp at this;omega))
theorem Tryz.infoI:(Tryz.prog.info? 3).map (fun i=>(i.zero,i.size,i.bytes))=some (some (.int .i64 0),1,8):=by kernel_rfl
theorem ξaG (w:World) (T:TypeId):Own (w.alloc (.cells #[] T)) w.heap.size (.slice (some ⟨w.heap.size,0,none⟩) 0 0) []:=
 .inr ⟨w.heap.size,0,0,#[],rfl,ξr _,⟨T,ξn w _⟩,by simp,by unfold maxLen;omega,by simp,by simp[ints]⟩
def posI (u c k:Nat):List Int:=((List.range k).filter fun s=>u &&& mskN s c==0).map fun(s:Nat)=>((s:Nat):Int)
theorem posI_yes {u c k:Nat} (h:u &&& mskN k c=0):posI u c (k+1)=posI u c k++[(k:Int)]:=by
 unfold posI;rw[List.range_succ,List.filter_append,List.map_append];simp[h]
theorem posI_no {u c k:Nat} (h:u &&& mskN k c≠0):posI u c (k+1)=posI u c k:=by
 unfold posI;rw[List.range_succ,List.filter_append,List.map_append];simp[h]
theorem posI_len (u c k:Nat):(posI u c k).length≤k:=by
 unfold posI;rw[List.length_map];exact ξs (List.length_filter_le _ _) (by simp)
theorem isMask_any (u:Nat) (w:World) (hu:u<16777216):
 Calls Tryz.prog 245 #[.int .i64 u] w fun e w'=>e= .returned (.bool true)∧w=w':=by
 have hw:=ξE (u:Int) 0 16777215 w
 rw[show inB (u:Int) 0 16777215=true by unfold inB;simp;omega] at hw
 have HW:=ξh hw
 clear hw
 go_enter Tryz.func245,Tryz.ntmps245
 go_wp2_with (go_at_call 74;refine HW.mono ?_;rintro e w' ⟨rfl,rfl⟩)
 go_ret
 exact⟨rfl,rfl⟩
theorem isFit_any (u c:Nat) (w:World) (hu:u<16777216) (hc1:1≤c) (hc:c≤24):
 Calls Tryz.prog 223 #[.int .i64 u,.int .i64 c] w fun e w'=>e= .returned (.bool true)∧Below w.heap.size w w':=by
 have HM:=ξh (fun w'=>isMask_any u w' hu)
 have HW:=ξh (fun w'=>show Calls Tryz.prog 74 #[.int .i64 c,.int .i64 1,.int .i64 24] w' fun e w2=>e= .returned (.bool true)∧w'=w2 from by
  have hw:=ξE (c:Int) 1 24 w'
  rw[show inB (c:Int) 1 24=true by unfold inB;simp;omega] at hw
  exact hw)
 go_enter Tryz.func223,Tryz.ntmps223
 go_wp2_with (first | (go_at_call 245;refine(HM.out _).mono ?_;rintro e w' ⟨rfl,rfl⟩) | (go_at_call 74;refine(HW.out _).mono ?_;rintro e w' ⟨rfl,rfl⟩))
 go_ret
 exact⟨rfl,ξb _ _⟩
theorem positions_any (u c:Nat) (w:World) (hu:u<16777216) (hc1:1≤c) (hc:c≤24):
 Calls Tryz.prog 224 #[.int .i64 u,.int .i64 c] w fun e w'=>∃v',e= .returned v'∧Own w' w.heap.size v' (posI u c (25-c))∧Below w.heap.size w w':=by
 have HM:=ξh (fun k w' (hk:k+c≤24)=>ξbn k c w' hk)
 have HAND:=ξh (fun k (hk:k+c≤24)=>bits_and hu (ξbv k c hk))
 have HY:=ξh (fun k h=>@posI_yes u c k h)
 have HN:=ξh (fun k h=>@posI_no u c k h)
 have HL:=ξh (posI_len u c)
 have HO0:=ξh (show Own (w.alloc (.cells #[] 3)) w.heap.size (.slice (some ⟨w.heap.size,0,none⟩) 0 0) (posI u c 0) from ξaG w 3)
 have HB0:=ξh ((ξb w.heap.size w).alloc (ξr _) (.cells #[] 3))
 have hui:(u:Int)<16777216:=by omega
 have hci:(1:Int)≤c∧(c:Int)≤24:=by omega
 clear hu
 go_enter Tryz.func224,Tryz.ntmps224
 go_wp2
 go_loopw [5,6] (fun s5 i wr=>∃k:Nat,k+c≤25∧i= .int .i64 k∧Hid (Own wr w.heap.size s5 (posI u c k))∧Hid (Below w.heap.size w wr)) (fun _ i _=>25-(intOf i).toNat)
 case atStart=>exact⟨0,by omega,rfl,HO0.out,HB0.out⟩
 case round=>
  obtain⟨k,hk,rfl,HO,HB⟩:=hrel
  obtain⟨aR,cR,nR,HNR,rfl,hcR,hnR,-⟩:=HO.rd.opn
  by_cases hlt:k+c≤24
  · have hltI:(k:Int)+(c:Int)≤24:=by omega
    have hb:=HAND.out k hlt
    have HM1:=ξh (HM.out k wr hlt)
    have HY1:=ξh (HY.out k)
    have HN1:=ξh (HN.out k)
    have HLO:=ξh (show(posI u c k).length≤4000000 by have:=HL.out k;omega)
    generalize posI u c k=out at *
    generalize u &&& mskN k c=r at *
    generalize mskN k c=mk at *
    by_cases hr:r=0
    · subst hr
      have HE:=ξh (HY1.out rfl)
      have hb0:bits .and .i64 (u:Int) (mk:Int)=0:=hb
      clear hb
      go_wp2_with (first
       | (go_at_call 142;refine HM1.mono ?_;rintro e w4 ⟨rfl,b4⟩;have HB4:=ξh (HB.trans (b4.mono HB.size));have HO4:=ξh (HO.belowAll b4);clear b4)
       | (at_builtin;go_loud (refine ξa6 rfl (.tmp 21) (.tmp 23) 58 rfl Tryz.underlying58 Tryz.infoI w.heap.size (.slice aR nR cR) out rfl HO4.out rfl HLO.out HB4.size ?_);intro v5 w5 o5 g5 l5;have HO5:=ξh o5;have HB5:=ξh (HB4.grown g5 HB4.size (fun q hq=>(HO4.lt q hq).1));clear o5 g5 l5))
      go_roundw
      case rel=>exact⟨k+1,by omega,by go_num,by rw[HE.out];exact HO5.out,HB5.out⟩
      case measure=>simp[intOf];omega
    · have HE:=ξh (HN1.out hr)
      have hr0:((r:Int)==0)=false:=by simpa using(by omega:(r:Int)≠0)
      go_wp2_with (go_at_call 142;refine HM1.mono ?_;rintro e w4 ⟨rfl,b4⟩;have HB4:=ξh (HB.trans (b4.mono HB.size));have HO4:=ξh (HO.belowAll b4);clear b4)
      go_roundw
      case rel=>exact⟨k+1,by omega,by go_num,by rw[HE.out];exact HO4.out,HB4.out⟩
      case measure=>simp[intOf];omega
  · have hltI:¬(k:Int)+(c:Int)≤24:=by omega
    obtain rfl:k=25-c:=by omega
    go_wp2
    go_ret
    exact⟨_,rfl,HO.out,HB.out⟩
theorem posI_fits (u c:Nat):posI u c (25-c)=(fitsN u c).map fun(s:Nat)=>((s:Nat):Int):=rfl
def fitV (u c:Nat):Value:=match fitsN u c with
 | []=> .tuple #[.agg #[.int .i64 0,.int .i64 0],.bool false]
 | s::_=> .tuple #[.agg #[.int .i64 (s:Int),.int .i64 (c:Int)],.bool true]
theorem firstFit_any (u c:Nat) (w:World) (hu:u<16777216) (hc1:1≤c) (hc:c≤24):
 Calls Tryz.prog 195 #[.int .i64 u,.int .i64 c] w fun e w'=>e= .returned (fitV u c)∧Below w.heap.size w w':=by
 have HF:=ξh (fun w'=>isFit_any u c w' hu hc1 hc)
 have HP:=ξh (fun w'=>positions_any u c w' hu hc1 hc)
 have HFV:=ξh (show(fitsN u c=[]→fitV u c= .tuple #[.agg #[.int .i64 0,.int .i64 0],.bool false])∧ ∀s t,fitsN u c=s::t→fitV u c= .tuple #[.agg #[.int .i64 (s:Int),.int .i64 (c:Int)],.bool true] from⟨fun h=>by unfold fitV;rw[h],fun s t h=>by unfold fitV;rw[h]⟩)
 rw[posI_fits] at HP
 generalize fitV u c=RV at *
 generalize fitsN u c=L at *
 have hb1:=(ξb w.heap.size w).alloc (ξr _) (.cells #[.int .i64 0,.int .i64 0] 84)
 have k1:=ξn w (.cells #[.int .i64 0,.int .i64 0] 84)
 have HB1:=ξh hb1
 have HK1:=ξh k1
 have HZ1:=ξh (show(w.alloc (.cells #[.int .i64 0,.int .i64 0] 84)).heap.size=w.heap.size+1 by simp)
 clear hb1 k1 hu hc1 hc
 go_enter Tryz.func195,Tryz.ntmps195
 go_upto_region 1 with fail
 generalize w.alloc (.cells #[.int .i64 0,.int .i64 0] 84)=w1 at *
 go_wp2_with (go_at_call 223;refine(HF.out _).mono ?_;rintro e w2 ⟨rfl,b2⟩;have HB2:=ξh (HB1.trans (b2.mono HB1.size));have HK2:=ξh (ξA HK1.out b2);clear b2)
 refine(HP.out w2).mono ?_
 rintro e w3 ⟨v3,rfl,o3,b3⟩
 obtain⟨a3,c3,n3,HN3,rfl,hc3,hn3,hcs⟩:=o3.rd.opn
 have hn:=HN3.out
 rw[List.length_map] at hn
 have hk3:=ξA HK2.out b3
 have HB3:=ξh (HB2.trans (b3.mono HB2.size))
 have z0:=blkc hk3 (j:=0) (u:= .int .i64 0) rfl
 have z1:=blkc hk3 (j:=1) (u:= .int .i64 0) rfl
 have f0:w3.frozen? ⟨w.heap.size,0,none⟩=false:=ξz _ _ _ _ _ hk3
 have f1:w3.frozen? ⟨w.heap.size,1,none⟩=false:=ξz _ _ _ _ _ hk3
 cases hL:L with
 | nil=>
   subst hL
   obtain rfl:n3=0:=by simpa using hn.symm
   have HV:=ξh (HFV.1 rfl)
   have q1:=ξe w3 w.heap.size 0 _ 84 (.int .i64 0) hk3
   have q2:=ξe _ w.heap.size 1 _ 84 (.int .i64 0) q1
   have t0:=blkc q2 (j:=0) (u:= .int .i64 0) (by simp)
   have t1:=blkc q2 (j:=1) (u:= .int .i64 0) (by simp)
   have HB4:=ξh ((HB3.setCell (p:=⟨w.heap.size,0,none⟩) (ξr _) (.int .i64 0)).setCell (p:=⟨w.heap.size,1,none⟩) (ξr _) (.int .i64 0))
   clear q1 q2 hcs o3 b3 hk3 hn
   go_wp2_with fail
   exact bodyPost_ret (v:= .tuple #[.agg #[.int .i64 0,.int .i64 0],.bool false]) (by simp[results,Tryz.results195,go_sem,t0,t1]) rfl ⟨by rw[HV.out],HB4.out⟩
 | cons s t=>
   subst hL
   have hpos:0<n3:=by rw[←hn];simp
   obtain⟨b,off,rfl,-,hcl⟩:=hcs hpos
   have c0:=hcl 0 hpos
   simp only[List.map_cons,List.getElem?_cons_zero,Option.getD_some,Nat.add_zero] at c0
   have hne:((n3:Int)==0)=false:=by simpa using(by omega:(n3:Int)≠0)
   have hpi:(0:Int)<(n3:Int):=by omega
   have HV:=ξh (HFV.2 s t rfl)
   have q1:=ξe w3 w.heap.size 0 _ 84 (.int .i64 (s:Int)) hk3
   have q2:=ξe _ w.heap.size 1 _ 84 (.int .i64 (c:Int)) q1
   have t0:=blkc q2 (j:=0) (u:= .int .i64 (s:Int)) (by simp)
   have t1:=blkc q2 (j:=1) (u:= .int .i64 (c:Int)) (by simp)
   have HB4:=ξh ((HB3.setCell (p:=⟨w.heap.size,0,none⟩) (ξr _) (.int .i64 (s:Int))).setCell (p:=⟨w.heap.size,1,none⟩) (ξr _) (.int .i64 (c:Int)))
   clear q1 q2 hcs hcl o3 b3 hk3 hn
   go_wp2_with fail
   exact bodyPost_ret (v:= .tuple #[.agg #[.int .i64 (s:Int),.int .i64 (c:Int)],.bool true]) (by simp[results,Tryz.results195,go_sem,t0,t1]) rfl ⟨by rw[HV.out],HB4.out⟩
theorem fitting_any (u c:Nat) (w:World) (hu:u<16777216) (hc1:1≤c) (hc:c≤24):
 Calls Tryz.prog 158 #[.int .i64 u,.int .i64 c,.int .i64 1] w fun e w'=>e= .returned (fitV u c)∧Below w.heap.size w w':=by
 have HP:=ξh (fun w'=>firstFit_any u c w' hu hc1 hc)
 obtain⟨f1,f2,b,hv⟩:∃f1 f2 b,fitV u c= .tuple #[.agg #[.int .i64 f1,.int .i64 f2],.bool b]:=by
  unfold fitV
  split
  · exact⟨_,_,_,rfl⟩
  · exact⟨_,_,_,rfl⟩
 rw[hv] at HP ⊢
 have hb1:=(ξb w.heap.size w).alloc (ξr _) (.cells #[.int .i64 0,.int .i64 0] 84)
 have k1:=ξn w (.cells #[.int .i64 0,.int .i64 0] 84)
 have HB1:=ξh hb1
 have HK1:=ξh k1
 clear hb1 k1 hu hc1 hc hv
 go_enter Tryz.func158,Tryz.ntmps158
 go_upto_region 1 with fail
 generalize w.alloc (.cells #[.int .i64 0,.int .i64 0] 84)=w1 at *
 go_wp2_with fail
 refine(HP.out w1).mono ?_
 rintro e w2 ⟨rfl,b2⟩
 have HB2:=ξh (HB1.trans (b2.mono HB1.size))
 have hk2:=ξA HK1.out b2
 have z0:=blkc hk2 (j:=0) (u:= .int .i64 0) rfl
 have z1:=blkc hk2 (j:=1) (u:= .int .i64 0) rfl
 have g0:w2.frozen? ⟨w.heap.size,0,none⟩=false:=ξz _ _ _ _ _ hk2
 have g1:w2.frozen? ⟨w.heap.size,1,none⟩=false:=ξz _ _ _ _ _ hk2
 have q1:=ξe w2 w.heap.size 0 _ 84 (.int .i64 f1) hk2
 have q2:=ξe _ w.heap.size 1 _ 84 (.int .i64 f2) q1
 have t0:=blkc q2 (j:=0) (u:= .int .i64 f1) (by simp)
 have t1:=blkc q2 (j:=1) (u:= .int .i64 f2) (by simp)
 have HB4:=ξh ((HB2.setCell (p:=⟨w.heap.size,0,none⟩) (ξr _) (.int .i64 f1)).setCell (p:=⟨w.heap.size,1,none⟩) (ξr _) (.int .i64 f2))
 clear q1 q2 b2 hk2
 go_wp2_with fail
 exact bodyPost_ret (v:= .tuple #[.agg #[.int .i64 f1,.int .i64 f2],.bool b]) (by simp[results,Tryz.results158,go_sem,t0,t1]) rfl ⟨rfl,HB4.out⟩
theorem seg_step {L vs:List Value} {v:Value} {o:Nat} (h:o+(vs.length+1)≤L.length):(L.set o v).take (o+1)++vs++(L.set o v).drop (o+1+vs.length)=L.take o++(v::vs)++L.drop (o+(vs.length+1)):=by
 have e1:(L.set o v).take (o+1)=L.take o++[v]:=by
  rw[List.take_add_one,List.getElem?_set_self (by omega),List.take_set,List.set_eq_of_length_le (by simp;omega)];rfl
 have e2:(L.set o v).drop (o+1+vs.length)=L.drop (o+(vs.length+1)):=by
  rw[List.drop_set,if_pos (by omega),show o+1+vs.length=o+(vs.length+1) by omega]
 rw[e1,e2];simp
theorem ξaL (g:Nat) (T:TypeId):∀(vs:List Value) (o:Nat) (cur:Array Value) (w:World),w.heap[g]?= some (.cells cur T (0,0))→o+vs.length≤cur.size→(w.setCells g o vs).heap[g]?= some (.cells (cur.toList.take o++vs++cur.toList.drop (o+vs.length)).toArray T (0,0))
 | [],o,cur,w,h,_=>by simpa[World.setCells] using h
 | v::vs,o,cur,w,h,hl=>by
   simp only[List.length_cons] at hl
   have h1:=ξe w g o cur T v h
   have ih:=ξaL g T vs (o+1) (cur.setIfInBounds o v) (w.setCell ⟨g,o,none⟩ v) h1 (by simp;omega)
   rw[Array.toList_setIfInBounds] at ih
   rw[World.setCells,ih,List.length_cons,seg_step (by simp;omega)]
def delC (us:List Value) (i:Nat):List Value:=us.take (i*5)++us.drop ((i+1)*5)
def DelQ (w:World) (base n g c:Nat) (us:List Value) (i:Nat) (e:Ending) (w':World):Prop:=e= .returned (.slice (some ⟨g,0,none⟩) (n-1) c)∧w'.ownsRow base 86 5 (.slice (some ⟨g,0,none⟩) (n-1) c) (n-1) (delC us i)∧w.grownBy w' (some g)
theorem del_cells {cur us Z:List Value} {n i c:Nat} (hu:cur.take (n*5)=us) (hc:cur.length=c*5) (hul:us.length=n*5) (hz:Z.length=5) (hi:i<n) (hnc:n≤c):
 (cur.take (i*5)++us.drop ((i+1)*5)++cur.drop (i*5+(us.drop ((i+1)*5)).length)).length=c*5∧
 ((cur.take (i*5)++us.drop ((i+1)*5)++cur.drop (i*5+(us.drop ((i+1)*5)).length)).take ((n-1)*5)++Z++(cur.take (i*5)++us.drop ((i+1)*5)++cur.drop (i*5+(us.drop ((i+1)*5)).length)).drop ((n-1)*5+Z.length)).take ((n-1)*5)=delC us i∧
 ((cur.take (i*5)++us.drop ((i+1)*5)++cur.drop (i*5+(us.drop ((i+1)*5)).length)).take ((n-1)*5)++Z++(cur.take (i*5)++us.drop ((i+1)*5)++cur.drop (i*5+(us.drop ((i+1)*5)).length)).drop ((n-1)*5+Z.length)).length=c*5:=by
 have hl2:(us.drop ((i+1)*5)).length=(n-(i+1))*5:=by rw[List.length_drop];omega
 have e0:cur.take (i*5)=us.take (i*5):=by rw[←hu,List.take_take,Nat.min_eq_left (by omega)]
 have hl1:(us.take (i*5)).length=i*5:=by rw[List.length_take];omega
 have hx:(cur.take (i*5)++us.drop ((i+1)*5)++cur.drop (i*5+(us.drop ((i+1)*5)).length)).length=c*5:=by
  rw[ξk,ξk,e0,hl1,hl2,List.length_drop,hc];omega
 have e1:(cur.take (i*5)++us.drop ((i+1)*5)++cur.drop (i*5+(us.drop ((i+1)*5)).length)).take ((n-1)*5)=delC us i:=by
  rw[e0]
  refine List.take_left' ?_
  rw[ξk,hl1,hl2];omega
 have hd:(delC us i).length=(n-1)*5:=by unfold delC;rw[ξk,hl1,hl2];omega
 refine⟨hx,?_,?_⟩
 · rw[e1,List.append_assoc];exact List.take_left' hd
 · rw[e1]
   generalize (cur.take (i*5)++us.drop ((i+1)*5)++cur.drop (i*5+(us.drop ((i+1)*5)).length))=X at *
   simp only[ξk,List.length_drop,hd,hz]
   omega
theorem run_clear5 (w:World) (ty:TypeId) (b o c:Nat) (hc:∀j,j<5→(w.cell? ⟨b,o+j,none⟩).isSome=true) (hf:∀j,j<5→w.frozen? ⟨b,o+j,none⟩=false):
 (Builtin.clear_ #[73] ty #[.slice (some ⟨b,o,none⟩) 1 c]).run Tryz.prog w= .ok (.tuple #[]) (w.setCells b o [.int .i64 0,.int .i64 0,.slice none 0 0,.int .i64 0,.int .i64 0]):=by
 have hst:=run_storeCells_cells (P:=Tryz.prog) b o [.int .i64 0,.int .i64 0,.slice none 0 0,.int .i64 0,.int .i64 0] 0 w (by simpa using hc) (by simpa using hf) (by simp[Value.oneCell'])
 have hz:(Builtin.zeroCells (Value.agg #[.int .i64 0,.int .i64 0,.slice none 0 0,.int .i64 0,.int .i64 0]).cells 1).toList=[.int .i64 0,.int .i64 0,.slice none 0 0,.int .i64 0,.int .i64 0]:=by simp[Builtin.zeroCells,Value.cells,List.range,List.range.loop]
 have hv:=Tryz.zeroValue86
 simp[Builtin.clear_,run_underlying Tryz.underlying73,hv,hz,hst]
theorem deleteL_any (w:World) (base n c i g:Nat) (us:List Value) (cur:Array Value) (hb:base≤g) (hg:w.heap[g]?= some (.cells cur 86 (0,0))) (hcs:cur.size=c*5) (hus:cur.toList.take (n*5)=us) (hul:us.length=n*5) (hi:i<n) (hnc:n≤c) (hc63:c≤maxLen) (hn:n≤1000) (h1u:∀u∈us,u.oneCell'=true):
 Calls Tryz.prog 155 #[.slice (some ⟨g,0,none⟩) n c,.int .i64 i,.int .i64 ((i+1:Nat):Int)] w (DelQ w base n g c us i):=by
 obtain⟨NP,hNP⟩:∃NP,NP=DelQ w base n g c us i:=⟨_,rfl⟩
 rw[←hNP]
 have hc63':=hc63
 unfold maxLen at hc63
 obtain⟨i0,hi0,hz0,hzs,hzb⟩:=info_parts Tryz.infoLgtI
 obtain⟨hX1l,hX,hX2l⟩:=del_cells (cur:=cur.toList) (Z:=[.int .i64 0,.int .i64 0,.slice none 0 0,.int .i64 0,.int .i64 0]) hus (by simpa using hcs) hul rfl hi hnc
 have hcell:∀j u,us[j]?= some u→w.cell? ⟨g,j,none⟩=some u:=fun j u hj=>by
  rw[cell_of_row _ _ _ _ _ _ hg,←Array.getElem?_toList]
  rw[←hus] at hj
  have hjl:=(ξl hj).1
  rw[List.length_take] at hjl
  rwa [List.getElem?_take_of_lt (by omega)] at hj
 have hdl:(us.drop ((i+1)*5)).length=(n-(i+1))*5:=by rw[List.length_drop];omega
 obtain⟨news,hnews⟩:∃news,news=us.drop ((i+1)*5):=⟨_,rfl⟩
 rw[←hnews] at hX1l hX hX2l hdl
 obtain⟨X1,hX1⟩:∃X1,X1=cur.toList.take (i*5)++news++cur.toList.drop (i*5+news.length):=⟨_,rfl⟩
 rw[←hX1] at hX1l hX hX2l
 obtain⟨W1,hW1⟩:∃W1,W1=w.drew.setCells g (0+i*5) news:=⟨_,rfl⟩
 have hg1:W1.heap[g]?= some (.cells X1.toArray 86 (0,0)):=by
  rw[hW1,hX1,Nat.zero_add]
  exact ξaL g 86 news (i*5) cur w.drew hg (by rw[hdl,hcs];omega)
 have ho1:∀k,k<w.heap.size→k≠g→W1.heap[k]?= w.heap[k]?:=fun k hk hne=>by rw[hW1];exact World.heap_setCells_other w.drew g _ news hk hne
 have hs1:W1.heap.size=w.heap.size∧W1.os=w.os∧W1.tape=w.tape∧W1.output=w.output:=by
  have key:∀(vs:List Value) (o:Nat) (w:World),(w.setCells g o vs).heap.size=w.heap.size∧(w.setCells g o vs).os=w.os∧(w.setCells g o vs).tape=w.tape∧(w.setCells g o vs).output=w.output:=by
   intro vs
   induction vs with
   | nil=>intro o w;exact⟨rfl,rfl,rfl,rfl⟩
   | cons v vs ih=>
     intro o w
     obtain⟨a,b,c,d⟩:=ih (o+1) (w.setCell ⟨g,o,none⟩ v)
     rw[World.setCells]
     exact⟨a.trans (by simp),b,c,d⟩
  rw[hW1];exact key _ _ _
 have s1:Hid (news.length=(n-(i+1))*5):=hdl
 have s2:Hid (∀u∈news,u.oneCell'=true):=fun u hu=>by rw[hnews] at hu;exact h1u u (List.mem_of_mem_drop hu)
 have s3:Hid (∀t,t<news.length→(w.drew.cell? ⟨g,0+i*5+t,none⟩).isSome=true∧w.drew.frozen? ⟨g,0+i*5+t,none⟩=false):=fun t ht=>by
  rw[hdl] at ht
  rw[Nat.zero_add]
  have hg':w.drew.heap[g]?= some (.cells cur 86 (0,0)):=hg
  refine⟨?_,ξz _ _ _ _ _ hg'⟩
  rw[cell_of_row _ _ _ _ _ _ hg',Array.getElem?_eq_getElem (by omega)];rfl
 have hcl:∀ty cc,(Builtin.clear_ #[73] ty #[.slice (some ⟨g,(n-1)*5,none⟩) 1 cc]).run Tryz.prog W1= .ok (.tuple #[]) (W1.setCells g ((n-1)*5) [.int .i64 0,.int .i64 0,.slice none 0 0,.int .i64 0,.int .i64 0]):=fun ty cc=>
  run_clear5 W1 ty g ((n-1)*5) cc (fun j hj=>by rw[cell_of_row _ _ _ _ _ _ hg1];simp;omega) (fun j hj=>ξz _ _ _ _ _ hg1)
 have hpost:DelQ w base n g c us i (.returned (.slice (some ⟨g,0,none⟩) (n-1) c)) (W1.setCells g ((n-1)*5) [.int .i64 0,.int .i64 0,.slice none 0 0,.int .i64 0,.int .i64 0]):=by
  have h2:=ξaL g 86 [.int .i64 0,.int .i64 0,.slice none 0 0,.int .i64 0,.int .i64 0] ((n-1)*5) X1.toArray W1 hg1 (by simp;omega)
  refine⟨rfl,⟨?_,.inr ⟨g,c,_,rfl,hb,h2,by omega,hc63',by simpa using hX2l,by simpa using hX⟩⟩,⟨hs1.2.1,hs1.2.2.1,hs1.2.2.2,?_,fun k hk hne=> ?_⟩⟩
  · rw[←hX,List.length_take];omega
  · have:∀(vs:List Value) (o:Nat) (w:World),(w.setCells g o vs).heap.size=w.heap.size:=by
     intro vs
     induction vs with
     | nil=>intro o w;rfl
     | cons v vs ih=>intro o w;rw[World.setCells,ih];simp
    rw[this,hs1.1];exact ξr _
  · have hkg:k≠g:=fun e=>hne (by rw[e])
    rw[World.heap_setCells_other W1 g _ _ (by omega) hkg];exact ho1 k hk hkg
 have HPO:=ξh hpost
 have HW:=ξh hW1
 have HNP:=ξh hNP
 have hsrc:∃A:Addr,(if c=i+1 then(some ⟨g,0,none⟩:Option Addr) else some ⟨g,(i+1)*5,none⟩)=some A∧Hid (∀t u,news[t]?= some u→w.drew.cell? (A.add t)=some u):=by
  by_cases h:c=i+1
  · refine⟨⟨g,0,none⟩,by simp[h],fun t u hu=> ?_⟩
    have h0:news.length=0:=by rw[hdl];omega
    rw[List.length_eq_zero_iff.1 h0] at hu
    simp at hu
  · refine⟨⟨g,(i+1)*5,none⟩,by simp[h],fun t u hu=> ?_⟩
    rw[addr_add]
    rw[hnews,List.getElem?_drop] at hu
    exact hcell _ u hu
 obtain⟨A,hA,HSRC⟩:=hsrc
 obtain⟨j,hj⟩:∃j,j=i+1:=⟨_,rfl⟩
 rw[←hj] at hA s1 ⊢
 have hij:¬((i:Int)=(j:Int)):=by omega
 have hijb:((i:Int)==(j:Int))=false:=by rw[beq_eq_false_iff_ne];omega
 have hic:i≤c:=by omega
 have hjc:j≤c:=by omega
 have hjn:j≤n:=by omega
 have hle:i≤j:=by omega
 have HIJ:=ξh (show i+(n-j)=n-1 by omega)
 have mixed:Tryz.prog.follows .mixedOrders=true:=by kernel_rfl
 clear hX1l hX hX2l hcell hdl hnews hX1 hW1 hg1 ho1 hs1 hpost hNP hus hul hcs hg h1u hb hzb hj
 go_enter Tryz.func155,Tryz.ntmps155
 go_wp2_with fail
 have hIJ:i+(n-j)=n-1:=HIJ.out
 have hn1:n-(n-1)=1:=by omega
 have hcn:¬(c=n-1):=by omega
 have hn1c:n-1≤c:=by omega
 have hn1n:n-1≤n:=by omega
 have hn1I:((n-1:Nat):Int)≤(n:Int):=by omega
 go_region_law_o (refine step_append_room rfl (.tmp 22) (.tmp 25) 73 rfl 86 i0 5 Tryz.underlying73 hi0 hzs g 0 i c (by simp[Act.eval,Act.put]) A (n-j) (c-j) news (by simp[Act.eval,Act.put]) s1.out HSRC.out s2.out (by omega) s3.out ?_;rw[←HW.out])
 all_goals
  go_wp2
  rw[HNP.out]
  exact HPO.out
theorem ξcv {ls:List Lgt} {i:Nat} (hi:i<ls.length):(ls.eraseIdx i).flatMap lgtD=(ls.flatMap lgtD).take (i*5)++(ls.flatMap lgtD).drop ((i+1)*5)∧(ls.eraseIdx i).length=ls.length-1:=by
 rw[List.eraseIdx_eq_take_drop_succ,lgs_take,lgs_drop]
 refine⟨by simp,by simp;omega⟩
theorem ξb2 (w:World) (A B:Obj):Below w.heap.size w ((w.alloc A).alloc B)∧((w.alloc A).alloc B).heap[w.heap.size]?= some A∧((w.alloc A).alloc B).heap[w.heap.size+1]?= some B∧((w.alloc A).alloc B).heap.size=w.heap.size+1+1:=by
 have b1:=(ξb w.heap.size w).alloc (ξr _) A
 have b2:=b1.alloc b1.size B
 have k0:=ξn w A
 have k0':=(heap_alloc_old _ B (ξa k0).1).trans k0
 have k1:=ξn (w.alloc A) B
 rw[show(w.alloc A).heap.size=w.heap.size+1 by simp] at k1
 exact⟨b2,k0',k1,by simp⟩
theorem ξcC (v:Value) (p:Pln) (i:Nat) (w:World) (h:PlnR w v p) (hi:i<p.ls.length) (hn1:p.n.ns.length≤1048576) (hn2:p.n.fs.length≤1048576) (hl:p.ls.length≤1000) (hfb:∀x∈p.ls,x.fb.length≤1000000):
 Calls Tryz.prog 113 #[v,.int .i64 (i:Int)] w (MkpP ⟨p.n,p.ls.eraseIdx i⟩ w):=by
 obtain⟨NP,hNP⟩:∃NP,NP=MkpP ⟨p.n,p.ls.eraseIdx i⟩ w:=⟨_,rfl⟩
 rw[←hNP]
 have HPU:=ξh (ξcv hi)
 have HCN:=ξh (fun w' (hb:Below w.heap.size w w')=>ξbB v p w' (h.behind hb) hn1 hn2 hl hfb)
 obtain⟨u1,u2,u3,rfl,r1,r2,r3,hsm⟩:=h
 have hnet:NetR w (.agg #[u1,u2]) p.n:=⟨u1,u2,rfl,r1,r2,hsm⟩
 obtain⟨⟨a1,m1,c1,rfl⟩,a2,m2,c2,rfl⟩:=ξF hnet
 obtain⟨a3,m3,c3,rfl,HN3,hc3,hm3,ha3⟩:=ξa1 r3
 have hl3:m3≤1000:=by rw[←HN3.out];exact hl
 have hi3:i<m3:=by rw[←HN3.out];exact hi
 have hii:(i:Int)≤1000:=by omega
 obtain⟨n,ls⟩:=p
 dsimp only at *
 have HB3:=ξh (ξb2 w (.cells #[.slice a1 m1 c1,.slice a2 m2 c2,.slice a3 m3 c3] 75) (.cells #[.slice none 0 0,.slice none 0 0,.slice none 0 0] 75))
 have HNP:=ξh hNP
 clear r1 r2 r3 hsm hnet ha3 hfb hl hn1 hn2 hNP hi
 go_enter Tryz.func113,Tryz.ntmps113
 go_wp2_with fail
 generalize (w.alloc (.cells #[.slice a1 m1 c1,.slice a2 m2 c2,.slice a3 m3 c3] 75)).alloc (.cells #[.slice none 0 0,.slice none 0 0,.slice none 0 0] 75)=w3 at *
 refine(HCN.out w3 HB3.1).mono ?_
 rintro e w4 ⟨u1,u2,u3,B,fp,rfl,hG,b4⟩
 obtain⟨b3,g0,g1,hz3⟩:=HB3.out
 have K1:=ξh (ξA g1 b4)
 have HB4:=ξh (b3.trans (b4.mono b3.size))
 have HZ3:=ξh hz3
 obtain⟨a5,n5,c5,a6,n6,c6,e⟩:=hG.net.form
 simp only[Value.agg.injEq,Array.mk.injEq,List.cons.injEq,and_true] at e
 obtain⟨rfl,rfl⟩:=e
 have HBB:=ξh hG.bas
 obtain⟨us,fs,r4,gp⟩:=Grw.parts hG.lig
 dsimp only at r4 gp
 rw[HN3.out] at r4
 obtain⟨g,cap,cur,rfl,q1,q2,q3,q4,q5,q6⟩:∃g cap cur,u3= .slice (some ⟨g,0,none⟩) m3 cap∧_:=by
  rcases r4.2 with ⟨e1,e2⟩ | h
  · omega
  · exact h
 have HG:=ξh hG
 have HGP:=ξh gp
 have HR4:=ξh r4
 have HQ:=ξh (show B≤g∧w4.heap[g]?= some (.cells cur 86 (0,0))∧m3≤cap∧cap≤maxLen∧cur.size=cap*5∧cur.toList.take (m3*5)=us from⟨q1,q2,q3,q4,q5,q6⟩)
 have HL1:=ξh (lgt_one gp.ul gp.fl gp.el)
 have HGL:=ξh (ξa q2).1
 clear hG b4 b3 g0 g1 hz3 q1 q2 q3 q4 q5 q6 gp r4 HCN
 go_upto_region 2 with fail
 have k5:=ξn w4 (.cells #[.slice a5 n5 c5,.slice a6 n6 c6,.slice (some ⟨g,0,none⟩) m3 cap] 75)
 have b5:=(ξb w4.heap.size w4).alloc (ξr _) (.cells #[.slice a5 n5 c5,.slice a6 n6 c6,.slice (some ⟨g,0,none⟩) m3 cap] 75)
 have hz5:(w4.alloc (.cells #[.slice a5 n5 c5,.slice a6 n6 c6,.slice (some ⟨g,0,none⟩) m3 cap] 75)).heap.size=w4.heap.size+1:=by simp
 have HK5:=ξh k5
 have HB5:=ξh b5
 have HZ5:=ξh hz5
 clear k5 b5 hz5
 generalize w4.alloc (.cells #[.slice a5 n5 c5,.slice a6 n6 c6,.slice (some ⟨g,0,none⟩) m3 cap] 75)=w5 at *
 have y2:=blkc HK5.out (j:=2) (u:= .slice (some ⟨g,0,none⟩) m3 cap) rfl
 have hdel:=deleteL_any w5 B m3 cap i g us cur HQ.1 (ξA HQ.2.1 HB5.out) HQ.2.2.2.2.1 HQ.2.2.2.2.2 HR4.1 hi3 HQ.2.2.1 HQ.2.2.2.1 hl3 HL1.out
 rw[show((i+1:Nat):Int)=(i:Int)+1 by omega] at hdel
 have HDEL:=ξh hdel
 clear hdel
 go_wp2_with fail
 refine HDEL.mono ?_
 rintro e w10 ⟨rfl,o10,g10⟩
 have hzl:w.heap.size+1+1≤w4.heap.size:=by have:=HBB.out;have:=HZ3.out;omega
 have hgl:=HGL.out
 have hgb:=HQ.1
 have hbb:=HBB.out
 have hz3:=HZ3.out
 have hbx10:w10.heap[w4.heap.size]?= _:=(g10.block _ (by have:=HZ5.out;omega) (fun e=>by have:=ξo e;omega)).trans HK5.out
 have hr10:w10.heap[w.heap.size+1]?= _:=(g10.block _ (by have:=HZ5.out;omega) (fun e=>by have:=ξo e;omega)).trans (ξA K1.out HB5.out)
 have q11:=ξe w10 w4.heap.size 2 _ 75 (.slice (some ⟨g,0,none⟩) (m3-1) cap) hbx10
 have o11:∀j,j≠w4.heap.size→(w10.setCell ⟨w4.heap.size,2,none⟩ (.slice (some ⟨g,0,none⟩) (m3-1) cap)).heap[j]?= w10.heap[j]?:=fun j hj=>ξm _ ⟨w4.heap.size,2,none⟩ j _ hj
 have s11:(w10.setCell ⟨w4.heap.size,2,none⟩ (.slice (some ⟨g,0,none⟩) (m3-1) cap)).heap.size=w10.heap.size:=by simp
 have b10:Below w.heap.size w w10:=Below.grown (HB4.trans (HB5.mono HB4.size)) g10 (by have:=HZ5.out;omega) (fun q hq=>by have:=ξo hq;omega)
 have HB11:=ξh (b10.setCell (p:=⟨w4.heap.size,2,none⟩) (by show w.heap.size≤w4.heap.size;omega) (.slice (some ⟨g,0,none⟩) (m3-1) cap))
 have f2:w10.frozen? ⟨w4.heap.size,2,none⟩=false:=ξz _ _ _ _ _ hbx10
 clear y2
 have y2:=blkc hbx10 (j:=2) (u:= .slice (some ⟨g,0,none⟩) m3 cap) rfl
 have HR10:=ξh hr10
 have HO11:=ξh o11
 have HQ11:=ξh (show(w10.setCell ⟨w4.heap.size,2,none⟩ (.slice (some ⟨g,0,none⟩) (m3-1) cap)).heap[w4.heap.size]?= some (.cells #[.slice a5 n5 c5,.slice a6 n6 c6,.slice (some ⟨g,0,none⟩) (m3-1) cap] 75) from by rw[q11];simp)
 have HS11:=ξh s11
 have HS10:=ξh g10.size
 have HG10:=ξh g10
 have HO10:=ξh o10
 clear o10 g10 hbx10 hr10 q11 o11 s11 b10 hzl hgl hgb hbb hz3
 go_upto_region 3 with fail
 generalize w10.setCell ⟨w4.heap.size,2,none⟩ (.slice (some ⟨g,0,none⟩) (m3-1) cap)=w11 at *
 clear f2 y2
 have hr11:=(HO11.out _ (by have:=HBB.out;have:=HZ3.out;omega)).trans HR10.out
 obtain⟨q12,o12,s12,b12⟩:=ξaq (.slice a5 n5 c5) (.slice a6 n6 c6) (.slice (some ⟨g,0,none⟩) (m3-1) cap) hr11
 have y0:=blkc HQ11.out (j:=0) (u:= .slice a5 n5 c5) rfl
 have y1:=blkc HQ11.out (j:=1) (u:= .slice a6 n6 c6) rfl
 have y2:=blkc HQ11.out (j:=2) (u:= .slice (some ⟨g,0,none⟩) (m3-1) cap) rfl
 have z0:=blkc hr11 (j:=0) (u:= .slice none 0 0) rfl
 have z1:=blkc hr11 (j:=1) (u:= .slice none 0 0) rfl
 have z2:=blkc hr11 (j:=2) (u:= .slice none 0 0) rfl
 have f0:w11.frozen? ⟨w.heap.size+1,0,none⟩=false:=ξz _ _ _ _ _ hr11
 have f1:w11.frozen? ⟨w.heap.size+1,1,none⟩=false:=ξz _ _ _ _ _ hr11
 have f2:w11.frozen? ⟨w.heap.size+1,2,none⟩=false:=ξz _ _ _ _ _ hr11
 have HQ12:=ξh q12
 have HO12:=ξh o12
 have HS12:=ξh s12
 have HB12:=ξh (b12 w.heap.size w (by omega) HB11.out)
 clear hr11 q12 o12 s12 b12
 go_wp2_with fail
 generalize ((w11.setCell ⟨w.heap.size+1,0,none⟩ (.slice a5 n5 c5)).setCell ⟨w.heap.size+1,1,none⟩ (.slice a6 n6 c6)).setCell ⟨w.heap.size+1,2,none⟩ (.slice (some ⟨g,0,none⟩) (m3-1) cap)=w12 at *
 clear y0 y1 y2 z0 z1 z2 f0 f1 f2
 have t0:=blkc HQ12.out (j:=0) (u:= .slice a5 n5 c5) rfl
 have t1:=blkc HQ12.out (j:=1) (u:= .slice a6 n6 c6) rfl
 have t2:=blkc HQ12.out (j:=2) (u:= .slice (some ⟨g,0,none⟩) (m3-1) cap) rfl
 have hFIN:∀j,j≠w.heap.size+1→j≠w4.heap.size→w12.heap[j]?= w10.heap[j]?:=fun j h1 h2=>(HO12.out j h1).trans (HO11.out j h2)
 have hz3:=HZ3.out
 have hbb:=HBB.out
 have hz5:=HZ5.out
 have hs10:=HS10.out
 have hs11:=HS11.out
 have hs12:=HS12.out
 have hgl:=HGL.out
 have hgb:=HQ.1
 have hK12:∀j,w3.heap.size≤j→j<w4.heap.size→(Value.slice (some ⟨g,0,none⟩) m3 cap).ownBlock≠some j→w12.heap[j]?= w4.heap[j]?:=fun j h0 h1 h2=>
  (hFIN j (by omega) (by omega)).trans ((HG10.block j (by omega) (fun e=>h2 e.symm)).trans (HB5.block j h1))
 obtain⟨hp1,hp2⟩:=HPU.out
 have hdl:(ls.flatMap lgtD).length=m3*5:=by rw[←HGP.ul];exact HR4.1
 have hlig:Grw w12 B 86 5 (.slice (some ⟨g,0,none⟩) (m3-1) cap) (m3-1) ((ls.eraseIdx i).flatMap lgtD):=by
  rw[hp1]
  refine GrP.del (n:=m3) (w:=w4) HGP.out (ξaD HO10.out fun k hk=> ?_) (by omega) (by rw[hdl];omega) (fun j h0 h1 h2=>hK12 j (by omega) h1 h2) rfl
  have:g=k:=ξo hk
  exact hFIN k (by omega) (by omega)
 rw[HNP.out]
 exact bodyPost_ret (v:= .agg #[.slice a5 n5 c5,.slice a6 n6 c6,.slice (some ⟨g,0,none⟩) (m3-1) cap]) (by simp[results,Tryz.results113,go_sem,t0,t1,t2]) rfl ⟨_,_,_,B,fp,rfl,⟨HG.net.keepP fun j hj=>by have:=HG.fpr j hj;exact hK12 j this.1 (by omega) (fun e=>by have:g=j:=ξo e;omega),HG.nod,fun j hj=>by have:=HG.fpr j hj;omega,⟨by omega,by omega⟩,by(try dsimp only);rw[hp2,HN3.out];exact hlig⟩,HB12.out⟩
theorem ξcw {ls:List Lgt} {fb:List Int} {j:Nat} (hj:j<fb.length):ξP ls (fb.take (j+1))=ξP ls (fb.take j) ||| ξU ls (fb[j]?.getD 0):=by
 unfold ξP
 rw[List.take_add_one,List.foldl_append,ξg hj];rfl
theorem ξbg {ls:List Lgt} (h:∀i:Nat,ξU ls (i:Int)<16777216):∀(fb:List Int) (m:Nat),(∀f∈fb,0≤f)→m<16777216→fb.foldl (fun m i=>m ||| ξU ls i) m<16777216
 | [],m,_,hm=>hm
 | f::fb,m,h0,hm=>by
   rw[List.foldl_cons]
   refine ξbg h fb _ (fun x hx=>h0 x (List.mem_cons_of_mem _ hx)) (or_24 hm ?_)
   have:=h f.toNat
   rwa [Int.toNat_of_nonneg (h0 f (List.mem_cons_self ..))] at this
theorem ξaA {ls:List Lgt} {nf:Nat} (h:∀x∈ls,LgO nf x) (i:Int):ξU ls i<16777216:=by
 have key:∀(ls:List Lgt) (m:Nat),(∀x∈ls,LgO nf x)→m<16777216→ls.foldl (fun m x=>if x.fb.contains i then m ||| mskN x.fi.toNat x.ct.toNat else m) m<16777216:=by
  intro ls
  induction ls with
  | nil=>intro m _ hm;exact hm
  | cons x t ih=>
    intro m h hm
    rw[List.foldl_cons]
    refine ih _ (fun y hy=>h y (List.mem_cons_of_mem _ hy)) ?_
    split
    · exact or_24 hm (h x (List.mem_cons_self ..)).mk
    · exact hm
 exact key ls 0 h (by decide)
theorem routeMask_any (v fv:Value) (p:Pln) (st:Int) (fb:List Int) (w:World) (h:PlnR w v p) (hr:Rd w fv fb) (hfb:∀f∈fb,0≤f∧f<p.n.fs.length) (hn2:p.n.fs.length≤1048576) (hl:p.ls.length≤1000) (hlo:∀x∈p.ls,LgO p.n.fs.length x):
 Calls Tryz.prog 159 #[v,.agg #[.int .i64 st,fv]] w fun e w'=>e= .returned (.int .i64 (ξP p.ls fb:Nat))∧Below w.heap.size w w':=by
 have HFM:=ξh (fun w' (hb:Below w.heap.size w w')=>ξb7 v p w' (h.behind hb) hn2 hl hlo)
 obtain⟨u1,u2,u3,rfl,r1,r2,r3,hsm⟩:=h
 have hnet:NetR w (.agg #[u1,u2]) p.n:=⟨u1,u2,rfl,r1,r2,hsm⟩
 obtain⟨⟨a1,m1,c1,rfl⟩,a2,m2,c2,rfl⟩:=ξF hnet
 obtain⟨a3,m3,c3,rfl,HN3,hc3,hm3,ha3⟩:=ξa1 r3
 obtain⟨ar,cr,nr,HNR,rfl,-,hnr,hcr⟩:=hr.opn
 have HCR:=ξh hcr
 have HUN:=ξh (fun i (hi:i<p.n.fs.length)=>@ξaX p.ls p.n.fs.length i hi (fun x hx f hf=>((hlo x hx).1 f hf).1))
 have HUL:=ξh (fun i=>ξaA hlo i)
 have HAS:=ξh (fun j (hj:j<fb.length)=>@ξcw p.ls fb j hj)
 have HAL:=ξh (fun j=>show ξP p.ls (fb.take j)<16777216 from ξbg (fun i=>ξaA hlo i) _ 0 (fun f hf=>(hfb f (List.mem_of_mem_take hf)).1) (by decide))
 have HFB:=ξh (fun j (hj:j<nr)=>show 0≤(fb[j]?.getD 0)∧(fb[j]?.getD 0)<p.n.fs.length from by
  have h1:j<fb.length:=by rw[HNR.out];exact hj
  rw[ξg h1];exact hfb _ (ξj h1))
 have HLO:=ξh (show(ξa5 p.ls p.n.fs.length).length=p.n.fs.length from by unfold ξa5;rw[ξaF];simp)
 have HTA:=ξh (show ξP p.ls (fb.take nr)=ξP p.ls fb from by rw[List.take_of_length_le (Nat.le_of_eq HNR.out)])
 rw[HNR.out] at HAS
 have HB2:=ξh (ξb2 w (.cells #[.slice a1 m1 c1,.slice a2 m2 c2,.slice a3 m3 c3] 75) (.cells #[.int .i64 st,.slice ar nr cr] 82))
 generalize hnf:p.n.fs.length=nf at *
 clear r1 r2 r3 hsm hnet ha3 hl hn2 hlo hfb hr hcr hnf
 generalize ξa5 p.ls nf=OA at *
 go_enter Tryz.func159,Tryz.ntmps159
 go_wp2_with fail
 generalize (w.alloc (.cells #[.slice a1 m1 c1,.slice a2 m2 c2,.slice a3 m3 c3] 75)).alloc (.cells #[.int .i64 st,.slice ar nr cr] 82)=w2 at *
 refine(HFM.out w2 HB2.1).mono ?_
 rintro e w3 ⟨v3,rfl,o3,b3⟩
 obtain⟨b2,g0,g1,hz2⟩:=HB2.out
 have y1:=blkc (ξA g1 b3) (j:=1) (u:= .slice ar nr cr) rfl
 have HB3:=ξh (b2.trans (b3.mono b2.size))
 obtain⟨ao,co,no,HNO,rfl,-,hno,hco⟩:=o3.rd.opn
 have hnoe:no=nf:=by rw[←HNO.out,ξbC,HLO.out]
 subst hnoe
 have HCO:=ξh hco
 clear o3 b3 b2 g0 g1 hz2 hco HFM HB2 HNO
 go_wp2_with fail
 clear y1
 go_loopw [6,14] (fun s6 i wr=>∃j:Nat,j≤nr∧i= .int .i64 j∧s6= .int .i64 (ξP p.ls (fb.take j):Nat)∧wr=w3) (fun _ i _=>nr-(intOf i).toNat)
 case atStart=>exact⟨0,ξu _,rfl,rfl,rfl⟩
 case round=>
  obtain⟨j,hj,rfl,rfl,rfl⟩:=hrel
  by_cases hlt:j<nr
  · have hltI:(j:Int)<(nr:Int):=by omega
    obtain⟨bf,of,rfl,hbf,hcf⟩:=HCR.out (by omega)
    have ef:=(HB3.cell (p:=⟨bf,of+j,none⟩) hbf).trans (hcf j hlt)
    have hf:=HFB.out j hlt
    have HSJ:=ξh (HAS.out j hlt)
    have HLJ:=ξh (HAL.out j)
    clear hcf hbf
    generalize fb[j]?.getD 0=f at *
    obtain⟨fn,rfl⟩:∃fn:Nat,f=(fn:Int):=⟨f.toNat,by omega⟩
    have hfI:(fn:Int)<(no:Int):=hf.2
    have hfn:fn<no:=by omega
    obtain⟨bo,oo,rfl,hbo,hco⟩:=HCO.out (by omega)
    have eo:=hco fn hfn
    rw[nats_at,HUN.out fn hfn] at eo
    have hor:=ξb6 HLJ.out (HUL.out (fn:Int))
    clear hco hbo hf
    generalize ξP p.ls (fb.take j)=A at *
    generalize ξU p.ls (fn:Int)=U at *
    go_wp2
    go_roundw
    case rel=>exact⟨j+1,hlt,by go_num,by rw[HSJ.out],trivial⟩
    case measure=>simp[intOf];omega
  · have hltI:¬(j:Int)<(nr:Int):=by omega
    obtain rfl:nr=j:=by omega
    rw[HTA.out]
    go_wp2
    go_ret
    exact⟨rfl,HB3.out⟩
end Go.Proofs.YtofcicomhnkocaaGreat
