import Derived.Test.YtofcicomhnkocaaGreatBx11
import Derived.Test.YtofcicomhnkocaaGreatBx09
set_option linter.unusedVariables false
namespace Go.Proofs.YtofcicomhnkocaaGreat
set_option maxHeartbeats 12800000
open Go.RowKit Go.Sort
set_option maxRecDepth 100000
def lmk (x:Lgt):Nat:=mskN x.fi.toNat x.ct.toNat
def orAt (M:List Nat) (f:Int) (m:Nat):List Nat:=M.set f.toNat ((M[f.toNat]?.getD 0) ||| m)
def orF (M:List Nat) (m:Nat) (fb:List Int):List Nat:=fb.foldl (fun M f=>orAt M f m) M
def orL (M:List Nat) (x:Lgt):List Nat:=orF M (lmk x) x.fb
def ξa5 (ls:List Lgt) (nf:Nat):List Nat:=ls.foldl orL (List.replicate nf 0)
theorem orAt_len (M:List Nat) (f:Int) (m:Nat):(orAt M f m).length=M.length:=by unfold orAt;simp
theorem orF_len (m:Nat):∀(fb:List Int) (M:List Nat),(orF M m fb).length=M.length
 | [],M=>rfl
 | f::fb,M=>by unfold orF;rw[List.foldl_cons];exact(orF_len m fb (orAt M f m)).trans (orAt_len M f m)
theorem ξaF:∀(ls:List Lgt) (M:List Nat),(ls.foldl orL M).length=M.length
 | [],M=>rfl
 | x::ls,M=>by rw[List.foldl_cons,ξaF ls];exact orF_len _ _ _
theorem orAt_get (M:List Nat) (f:Int) (m i:Nat) (hi:i<M.length):(orAt M f m)[i]?.getD 0=if i=f.toNat then(M[i]?.getD 0) ||| m else M[i]?.getD 0:=by
 unfold orAt
 by_cases h:i=f.toNat
 · subst h
   rw[List.getElem?_set_self hi,if_pos rfl];rfl
 · rw[List.getElem?_set_ne (fun e=>h e.symm),if_neg h]
theorem orF_get (m i:Nat):∀(fb:List Int) (M:List Nat),i<M.length→(∀f∈fb,0≤f)→(orF M m fb)[i]?.getD 0=if fb.contains (i:Int) then(M[i]?.getD 0) ||| m else M[i]?.getD 0
 | [],M,_,_=>by simp[orF]
 | f::fb,M,hi,h0=>by
   have hf:=h0 f (List.mem_cons_self ..)
   have e:orF M m (f::fb)=orF (orAt M f m) m fb:=rfl
   rw[e,orF_get m i fb _ (by rw[orAt_len];exact hi) (fun x hx=>h0 x (List.mem_cons_of_mem _ hx)),orAt_get M f m i hi,List.contains_cons]
   by_cases h:i=f.toNat
   · have h2:((i:Int)==f)=true:=by simpa using(by omega:(i:Int)=f)
     rw[if_pos h,h2,Bool.true_or,if_pos rfl]
     split
     · rw[Nat.or_assoc,Nat.or_self]
     · rfl
   · have h2:((i:Int)==f)=false:=by simpa using(by omega:(i:Int)≠f)
     rw[if_neg h,h2,Bool.false_or]
theorem orLs_get (i:Nat):∀(ls:List Lgt) (M:List Nat),i<M.length→(∀x∈ls,∀f∈x.fb,0≤f)→(ls.foldl orL M)[i]?.getD 0=ls.foldl (fun m x=>if x.fb.contains (i:Int) then m ||| mskN x.fi.toNat x.ct.toNat else m) (M[i]?.getD 0)
 | [],M,_,_=>rfl
 | x::ls,M,hi,h0=>by
   rw[List.foldl_cons,List.foldl_cons,orLs_get i ls _ (by unfold orL;rw[orF_len];exact hi) (fun y hy=>h0 y (List.mem_cons_of_mem _ hy))]
   congr 1
   unfold orL
   rw[orF_get _ i _ _ hi (h0 x (List.mem_cons_self ..))]
   rfl
theorem ξaX {ls:List Lgt} {nf i:Nat} (hi:i<nf) (h0:∀x∈ls,∀f∈x.fb,0≤f):(ξa5 ls nf)[i]?.getD 0=ξU ls (i:Int):=by
 unfold ξa5 ξU
 rw[orLs_get i ls _ (by simpa using hi) h0]
 simp[hi]
def orK (ls:List Lgt) (nf k:Nat):List Nat:=(ls.take k).foldl orL (List.replicate nf 0)
def SmM (M:List Nat):Prop:=∀i:Nat,M[i]?.getD 0<16777216
theorem or_24 {a b:Nat} (ha:a<16777216) (hb:b<16777216):a ||| b<16777216:=Nat.or_lt_two_pow (n:=24) ha hb
theorem SmM.at {M:List Nat} (h:SmM M) (f:Int) {m:Nat} (hm:m<16777216):SmM (orAt M f m):=fun i=>by
 by_cases hi:i<M.length
 · rw[orAt_get M f m i hi]
   split
   · exact or_24 (h i) hm
   · exact h i
 · rw[List.getElem?_eq_none (by rw[orAt_len];omega)];decide
theorem SmM.fold {m:Nat} (hm:m<16777216):∀(fb:List Int) {M:List Nat},SmM M→SmM (orF M m fb)
 | [],_,h=>h
 | f::fb,M,h=>SmM.fold hm fb (M:=orAt M f m) (h.at f hm)
theorem SmM.ls:∀(ls:List Lgt) {M:List Nat},(∀x∈ls,lmk x<16777216)→SmM M→SmM (ls.foldl orL M)
 | [],_,_,h=>h
 | x::ls,M,hx,h=>SmM.ls ls (M:=orL M x) (fun y hy=>hx y (List.mem_cons_of_mem _ hy)) (SmM.fold (hx x (List.mem_cons_self ..)) x.fb h)
theorem SmM.zero (nf:Nat):SmM (List.replicate nf 0):=fun i=>by
 rw[List.getElem?_replicate];split <;> simp
def LgO (nf:Nat) (x:Lgt):Prop:=(∀f∈x.fb,0≤f∧f<nf)∧0≤x.fi∧0≤x.ct∧x.fi+x.ct≤24
theorem LgO.mk {nf:Nat} {x:Lgt} (h:LgO nf x):lmk x<16777216:=ξbv _ _ (by have:=h.2;omega)
theorem orF_step {M:List Nat} {m:Nat} {fb:List Int} {j:Nat} (hj:j<fb.length):orF M m (fb.take (j+1))=orAt (orF M m (fb.take j)) (fb[j]?.getD 0) m:=by
 unfold orF
 rw[List.take_add_one,List.foldl_append,ξg hj];rfl
theorem orLs_step {M:List Nat} {ls:List Lgt} {k:Nat} (hk:k<ls.length):(ls.take (k+1)).foldl orL M=orL ((ls.take k).foldl orL M) (ls[k]?.getD nilL):=by
 rw[List.take_add_one,List.foldl_append,ξg hk];rfl
theorem nats_set (M:List Nat) (i m:Nat):(nats M).set i (m:Int)=nats (M.set i m):=by
 unfold nats;rw[List.map_set]
theorem nats_rep (k:Nat):nats (List.replicate k 0)=List.replicate k 0:=by unfold nats;simp
theorem ξb7 (v:Value) (p:Pln) (w:World) (h:PlnR w v p) (hn2:p.n.fs.length≤1048576) (hl:p.ls.length≤1000) (hlo:∀x∈p.ls,LgO p.n.fs.length x):
 Calls Tryz.prog 133 #[v] w fun e w'=>∃v',e= .returned v'∧Own w' w.heap.size v' (nats (ξa5 p.ls p.n.fs.length))∧Below w.heap.size w w':=by
 obtain⟨i0,hi,hz0,hz1,hz2⟩:=info_parts Tryz.infoInt
 obtain⟨u1,u2,u3,rfl,r1,r2,r3,hsm⟩:=h
 have hnet:NetR w (.agg #[u1,u2]) p.n:=⟨u1,u2,rfl,r1,r2,hsm⟩
 obtain⟨⟨a1,m1,c1,rfl⟩,-⟩:=ξF hnet
 obtain⟨a2,m2,c2,rfl,HN2,-,hm2,-⟩:=ξC (m:=4) (enc:=fibE) (fun _=>rfl) (by omega) nilB r2
 obtain⟨a3,m3,c3,rfl,HN3,hc3,hm3,ha3⟩:=ξa1 r3
 have HA:=ξh ha3
 have hl3:m3≤1000:=by rw[←HN3.out];exact hl
 have hl2:m2≤1048576:=by rw[←HN2.out];exact hn2
 rw[HN2.out] at hlo ⊢
 have HLO:=ξh (fun k (hk:k<m3)=>show LgO m2 (p.ls[k]?.getD nilL) from by
  have h1:k<p.ls.length:=by rw[HN3.out];exact hk
  rw[ξg h1];exact hlo _ (ξj h1))
 have HSM:=ξh (fun k=>show SmM (orK p.ls m2 k) from SmM.ls _ (fun x hx=>(hlo x (List.mem_of_mem_take hx)).mk) (SmM.zero _))
 have HLN:=ξh (fun k=>show(orK p.ls m2 k).length=m2 from by unfold orK;rw[ξaF];simp)
 have HST:=ξh (fun k (hk:k<m3)=>show orK p.ls m2 (k+1)=orL (orK p.ls m2 k) (p.ls[k]?.getD nilL) from orLs_step (by rw[HN3.out];exact hk))
 have HTA:=ξh (show orK p.ls m2 m3=ξa5 p.ls m2 from by unfold orK;rw[List.take_of_length_le (Nat.le_of_eq HN3.out)];rfl)
 have hb1:=(ξb w.heap.size w).alloc (ξr _) (.cells #[.slice a1 m1 c1,.slice a2 m2 c2,.slice a3 m3 c3] 75)
 have k1:=ξn w (.cells #[.slice a1 m1 c1,.slice a2 m2 c2,.slice a3 m3 c3] 75)
 have HB1:=ξh hb1
 have HK1:=ξh k1
 have HZ1:=ξh (show(w.alloc (.cells #[.slice a1 m1 c1,.slice a2 m2 c2,.slice a3 m3 c3] 75)).heap.size=w.heap.size+1 by simp)
 clear r1 r2 r3 hsm hnet ha3 hl hn2 hb1 k1 hlo
 generalize ξa5 p.ls m2=RES at *
 go_enter Tryz.func133,Tryz.ntmps133
 go_upto_region 1 with fail
 generalize w.alloc (.cells #[.slice a1 m1 c1,.slice a2 m2 c2,.slice a3 m3 c3] 75)=w1 at *
 have y1:=blkc HK1.out (j:=1) (u:= .slice a2 m2 c2) rfl
 have y2:=blkc HK1.out (j:=2) (u:= .slice a3 m3 c3) rfl
 go_upto_region 2 with (refine wpList_make_full _ rfl _ _ 58 rfl w1.heap.size 3 i0 (.int .i64 0) 1 Tryz.underlying58 hi hz0 hz1 _ _ _ _ m2 rfl rfl rfl rfl (by rw[hz2];omega) (by unfold maxLen;omega) (ξr _) ?_;intro w2 hown1 hgrow1)
 obtain⟨g,hg⟩:∃g,g=w1.heap.size:=⟨_,rfl⟩
 have hown2:Own w2 w.heap.size (.slice (some ⟨g,0,none⟩) m2 m2) (nats (orK p.ls m2 0)):=by
  have hown1:=ξa4 (n:=m2) (xs:=List.replicate m2 0) (w:=w2) (base:=w1.heap.size) (v:= .slice (some ⟨w1.heap.size,0,none⟩) m2 m2) (by
   have e:(madeCells (Value.int .i64 0).cells (m2*1)).toList=ints (List.replicate m2 0):=by
    rw[Nat.mul_one]
    have:=toList_madeCells_one (.int .i64 0) m2
    simpa[ints,Value.cells] using this
   rw[←e];exact hown1)
  rw[show orK p.ls m2 0=List.replicate m2 0 from rfl,nats_rep,hg]
  exact hown1.mono (by have:=HZ1.out;omega)
 have hb2:Below w1.heap.size w1 w2:=(ξb _ _).grown hgrow1 (ξr _) (by simp)
 have HB2:=ξh (HB1.trans (hb2.mono HB1.size))
 have HO2:=ξh hown2
 have HGE:=ξh (show w.heap.size<g from by rw[hg,HZ1.out];omega)
 have z2:=blkc (ξA HK1.out hb2) (j:=2) (u:= .slice a3 m3 c3) rfl
 rw[←hg]
 clear hown1 hgrow1 hb2 hown2 y1 y2 hg hi hz0 hz1 hz2
 go_wp2_with fail
 clear z2
 go_loopw [16] (fun i wr=>∃k:Nat,k≤m3∧i= .int .i64 k∧Hid (Own wr w.heap.size (.slice (some ⟨g,0,none⟩) m2 m2) (nats (orK p.ls m2 k)))∧Hid (Below w.heap.size w wr)) (fun i _=>m3-(intOf i).toNat)
 case atStart=>exact⟨0,ξu _,rfl,HO2.out,HB2.out⟩
 case round=>
  obtain⟨k,hk,rfl,HO,HB⟩:=hrel
  by_cases hlt:k<m3
  · have hltI:(k:Int)<(m3:Int):=by omega
    obtain⟨b3,o3,rfl,hbl,hcs⟩:=HA.out (by omega)
    obtain⟨u,e0,e1,e2,e3,e4,hru⟩:=hcs k hlt
    have mv:∀j,wr.cell? ⟨b3,j,none⟩=w.cell? ⟨b3,j,none⟩:=fun j=>HB.cell (p:=⟨b3,j,none⟩) hbl
    rw[←mv] at e0 e1 e2 e3 e4
    obtain⟨au,cu,nu,HNU,rfl,-,hnu,hcu⟩:=hru.opn
    have HCU:=ξh hcu
    have HLX:=ξh (HLO.out k hlt)
    have HSK:=ξh (HST.out k hlt)
    have HSMK:=ξh (HSM.out k)
    have HLNK:=ξh (HLN.out k)
    clear hcs mv hru hbl hcu
    generalize p.ls[k]?.getD nilL=x at *
    generalize orK p.ls m2 k=M at *
    generalize hM2:orK p.ls m2 (k+1)=M' at *
    have HM2:=ξh hM2
    clear hM2
    have HSTP:=ξh (fun j (hj:j<x.fb.length)=>@orF_step M (lmk x) x.fb j hj)
    have HSMJ:=ξh (fun j=>SmM.fold HLX.mk (x.fb.take j) HSMK.out)
    have HLNJ:=ξh (fun j=>(orF_len (lmk x) (x.fb.take j) M).trans HLNK.out)
    go_upto_region 5 with fail
    have n2:=ξn wr (.cells #[.int .i64 x.id,.int .i64 x.st,.slice au nu cu,.int .i64 x.fi,.int .i64 x.ct] 86)
    have n3:=(ξb wr.heap.size wr).alloc (ξr _) (.cells #[.int .i64 x.id,.int .i64 x.st,.slice au nu cu,.int .i64 x.fi,.int .i64 x.ct] 86)
    obtain⟨bx,hbx⟩:∃bx,bx=wr.heap.size:=⟨_,rfl⟩
    rw[←hbx] at n2 n3 ⊢
    have HB5:=ξh n3
    have HX5:=ξh n2
    have HBX:=ξh hbx
    generalize wr.alloc (.cells #[.int .i64 x.id,.int .i64 x.st,.slice au nu cu,.int .i64 x.fi,.int .i64 x.ct] 86)=w5 at *
    have t2:=blkc n2 (j:=2) (u:= .slice au nu cu) rfl
    have HO5:=ξh (HO.belowAll (HBX.out▸HB5.out))
    have HGB:=ξh (show g<bx from by rw[hbx];exact(HO.lt g rfl).2)
    have HBW5:=ξh (HB.trans ((HBX.out▸HB5.out:Below wr.heap.size wr w5).mono HB.size))
    clear n2 n3 hbx e0 e1 e2 e3 e4
    go_wp2_with fail
    clear t2
    go_loopw [24] (fun i wq=>∃j:Nat,j≤nu∧i= .int .i64 j∧Hid (Own wq w.heap.size (.slice (some ⟨g,0,none⟩) m2 m2) (nats (orF M (lmk x) (x.fb.take j))))∧Hid (Below w.heap.size w wq)∧Hid (wq.heap[bx]?= some (.cells #[.int .i64 x.id,.int .i64 x.st,.slice au nu cu,.int .i64 x.fi,.int .i64 x.ct] 86))) (fun i _=>nu-(intOf i).toNat)
    case atStart=>exact⟨0,ξu _,rfl,HO5.out,HBW5.out,HX5.out⟩
    case round=>
     obtain⟨j,hj,rfl,HOQ,HBQ,HXQ⟩:=hrel
     by_cases hlj:j<nu
     · have hljI:(j:Int)<(nu:Int):=by omega
       obtain⟨bf,of,rfl,hbf,hcf⟩:=HCU.out (by omega)
       have ef:=(HBQ.cell (p:=⟨bf,of+j,none⟩) hbf).trans (hcf j hlj)
       have hjl:j<x.fb.length:=by rw[HNU.out];exact hlj
       have hfr:=HLX.1 (x.fb[j]?.getD 0) (by rw[ξg hjl];exact ξj hjl)
       have HN:=ξh (HSTP.out j hjl)
       have HSN:=ξh (HSMJ.out j)
       have HLE:=ξh (HLNJ.out j)
       have HMK:=ξh (fun w'=>show Calls Tryz.prog 142 #[.agg #[.int .i64 x.fi,.int .i64 x.ct]] w' fun e w2=>e= .returned (.int .i64 (lmk x:Nat))∧Below w'.heap.size w' w2 from by
        have hlx:=HLX.2
        have:=ξbn x.fi.toNat x.ct.toNat w' (by omega)
        rw[Int.toNat_of_nonneg hlx.1,Int.toNat_of_nonneg hlx.2.1] at this
        exact this)
       have HMX:=ξh HLX.mk
       generalize x.fb[j]?.getD 0=f at *
       obtain⟨fn,rfl⟩:∃fn:Nat,f=(fn:Int):=⟨f.toNat,by omega⟩
       have hfI:(fn:Int)<(m2:Int):=hfr.2
       have hfn:fn<m2:=by omega
       generalize hN2:orF M (lmk x) (x.fb.take (j+1))=N' at *
       have HN2':=ξh hN2
       clear hN2
       generalize orF M (lmk x) (x.fb.take j)=N at *
       generalize lmk x=mk at *
       have hon:=HSN.out fn
       have hor:=ξb6 hon HMX.out
       have HN':=ξh (show N'=N.set fn ((N[fn]?.getD 0) ||| mk) from HN.out)
       have c0:=(HOQ.cellAt rfl).2 fn (by rw[ξbC,HLE.out];exact hfn)
       rw[nats_at,Nat.zero_add] at c0
       generalize N[fn]?.getD 0=on at *
       have HC0:=ξh c0
       have HON:=ξh hon
       clear hcf hbf hfr hjl c0 hon
       go_upto_region 8 with fail
       have HSS:=ξh (fun(w':World) (hb:Below wr.heap.size wr w')=>show w'.cell? ⟨g,fn,none⟩=some (.int .i64 (on:Int))∧w'.cell? ⟨bx,3,none⟩=some (.int .i64 x.fi)∧w'.cell? ⟨bx,4,none⟩=some (.int .i64 x.ct) from
        have hx:=ξA HXQ.out hb
        ⟨(hb.cell (p:=⟨g,fn,none⟩) (HOQ.lt g rfl).2).trans HC0.out,blkc hx rfl,blkc hx rfl⟩)
       refine ξH [0,1,2,3,4,5,6,7,8] (S:=fun w'=>w'.cell? ⟨g,fn,none⟩=some (.int .i64 (on:Int))∧w'.cell? ⟨bx,3,none⟩=some (.int .i64 x.fi)∧w'.cell? ⟨bx,4,none⟩=some (.int .i64 x.ct)) (by kernel_rfl) (HSS.out _ (ξb _ _).drew) (fun hH=> ?_)
       refine hlF 0 rfl hH ?_
       try simp only[Act.put,hlA,hlB,hlC]
       refine hlF 1 rfl hH ?_
       try simp only[Act.put,hlA,hlB,hlC]
       refine hlF 2 rfl hH ?_
       try simp only[Act.put,hlA,hlB,hlC]
       refine hlF 3 rfl hH ?_
       try simp only[Act.put,hlA,hlB,hlC]
       refine hlF 4 rfl hH ?_
       try simp only[Act.put,hlA,hlB,hlC]
       refine hlF 5 rfl hH ?_
       try simp only[Act.put,hlA,hlB,hlC]
       refine ξB (rs:=[6]) (by kernel_rfl) (by simp) ?_
       refine AllReadyL.cons rfl (fun KK hKK=> ?_) AllReadyL.nil
       go_simp
       go_at_call 142
       refine(HMK.out _).mono ?_
       rintro e w34 ⟨rfl,b34⟩
       have B34:Below wr.heap.size wr w34:=(ξb wr.heap.size wr).drew.trans b34
       have O34:=ξh (HOQ.belowAll B34)
       have fz:w34.frozen? ⟨g,fn,none⟩=false:=O34.frozenAt rfl fn
       refine hKK.out _ _ (HSS.out _ B34) (fun hH=> ?_)
       clear hKK KK
       try simp only[Act.put,hlA,hlB,hlC]
       refine hlF 7 rfl hH ?_
       try simp only[Act.put,hlA,hlB,hlC]
       refine ξG 8 rfl (by kernel_rfl) (by kernel_rfl) (fun KK hKK=> ?_)
       go_simp
       refine hKK.out _ _ ?_
       clear hKK KK
       try simp only[Act.put,hlA,hlB,hlC]
       refine ξG 9 rfl (by kernel_rfl) (by kernel_rfl) (fun KK hKK=> ?_)
       go_simp
       refine hKK.out _ _ ?_
       clear hKK KK
       try simp only[Act.put,hlA,hlB,hlC]
       refine ξS (by kernel_rfl) ?_ _
       rotate_left 1
       have hst:=O34.stored rfl fn (by rw[ξbC,HLE.out];exact hfn) ((on ||| mk:Nat):Int)
       rw[nats_set,←HN'.out,Nat.zero_add] at hst
       have HO9:=ξh hst.1
       have HB9:=ξh ((HBQ.trans (B34.mono HBQ.size)).grown hst.2 (ξs HBQ.size B34.size) (fun q hq=>by have:g=q:=ξo hq;have:=HGE.out;omega))
       have HX9:=ξh (show(w34.setCell ⟨g,fn,none⟩ (.int .i64 ((on ||| mk:Nat):Int))).heap[bx]?= _ from(ξm _ ⟨g,fn,none⟩ bx _ (by have:=HGB.out;show bx≠g;omega)).trans (ξA HXQ.out B34))
       generalize w34.setCell ⟨g,fn,none⟩ (.int .i64 ((on ||| mk:Nat):Int))=w9 at *
       clear hst fz b34 B34 hor
       go_wp2
       go_roundw
       exact⟨j+1,by omega,by simp,by rw[HN2'.out];exact HO9.out,HB9.out,HX9.out⟩
       simp[intOf];omega
     · have hljI:¬(j:Int)<(nu:Int):=by omega
       have HM':=ξh (show M'=orF M (lmk x) (x.fb.take j) from by
        have e:=HSK.out
        unfold orL at e
        rw[e,List.take_of_length_le (by rw[HNU.out];omega)])
       go_wp2
       go_roundw
       exact⟨k+1,by omega,by simp,by rw[HM2.out,HM'.out];exact HOQ.out,HBQ.out⟩
       simp[intOf];omega
  · obtain rfl:m3=k:=by omega
    have hltI:¬(m3:Int)<(m3:Int):=by omega
    go_wp2
    go_ret
    exact⟨_,rfl,by rw[←HTA.out];exact HO.out,HB.out⟩
theorem wlk_nd {n:Net} :∀{xs:List Int} {out:List Int} {t:Int} {nd:List Int},wlk n out t xs=some nd→out.Nodup→nd.Nodup
 | [],out,t,nd,h,ho=>by
   rw[wlk] at h;rw[←ξo h];exact ho
 | i::is,out,t,nd,h,ho=>by
   rw[wlk] at h
   split at h
   · split at h
     · cases h
     · rename_i hc
       refine wlk_nd h ?_
       rw[List.nodup_append]
       refine⟨ho,by simp,fun a ha b hb e=> ?_⟩
       simp only[List.mem_singleton] at hb
       subst hb;subst e
       exact hc (.inr ha)
   · cases h
theorem rouOk_fb {n:Net} {r:Rou} (hn:ξL n=true) (h:rouOk n r=true):r.fb.length≤8∧ ∀f∈r.fb,0≤f∧f<n.fs.length:=by
 unfold rouOk at h
 obtain⟨nd,hnd⟩:=Option.isSome_iff_exists.1 h
 obtain⟨h1,h2,h3,h4,h5,h6⟩:=rou_facts hn hnd
 have hd:nd.Nodup:=by
  unfold rouN at hnd
  split at hnd
  · exact wlk_nd hnd (by simp)
  · cases hnd
 have hl:nd.length≤n.ns.length:=ξbM _ hd fun x hx=>by
  obtain⟨k,hk,rfl⟩:=List.getElem_of_mem hx
  have:=h5 k hk
  rw[ξg hk] at this
  exact this
 have:=ξaE hn
 refine⟨by omega,fun f hf=> ?_⟩
 obtain⟨k,hk,rfl⟩:=List.getElem_of_mem hf
 have:=h6 k hk
 rw[ξg hk] at this
 exact this
theorem lgtOk_o {n:Net} {x:Lgt} (hn:ξL n=true) (h:ξah n x=true):LgO n.fs.length x∧x.fb.length≤8:=by
 unfold ξah at h
 simp only[Bool.and_eq_true] at h
 obtain⟨h1,h2⟩:=rouOk_fb hn h.1.1
 have hb:=ξb4 h.2
 exact⟨⟨h2,hb.1,by omega,hb.2.2⟩,h1⟩
theorem erase_lix (n:Net) (ls:List Lgt) (c:Int):ls.eraseP (fun x=>decide (x.id=c))=if 0≤lix ⟨n,ls⟩ c then ls.eraseIdx (lix ⟨n,ls⟩ c).toNat else ls:=by
 unfold lix idxG
 simp only
 have hp:(fun x:Lgt=>decide (x.id=c))=fun x=>x.id==c:=by
  funext x
  by_cases h:x.id=c
  · rw[ξt h];simp[h]
  · rw[ξf h];simp[h]
 rw[hp]
 cases hf:ls.findIdx? (fun x=>x.id==c) with
 | none=>
   rw[if_neg (by simp)]
   refine List.eraseP_of_forall_not fun x hx=> ?_
   have:=List.findIdx?_eq_none_iff.1 hf x hx
   simpa using this
 | some k=>
   rw[if_pos (by simp)]
   obtain⟨hk,h1,h2⟩:=List.findIdx?_eq_some_iff_getElem.1 hf
   show _=ls.eraseIdx ((k:Int).toNat)
   rw[Int.toNat_natCast]
   clear hf hp
   induction ls generalizing k with
   | nil=>simp at hk
   | cons a t ih=>
     cases k with
     | zero=>rw[List.eraseP_cons_of_pos (by simpa using h1)];rfl
     | succ k=>
       have h0:=h2 0 (by omega)
       rw[List.eraseP_cons_of_neg (by simpa using h0),List.eraseIdx_cons_succ]
       congr 1
       exact ih k (by simpa using hk) (by simpa using h1) (fun j hj=>by have:=h2 (j+1) (by omega);simpa using this)
theorem delP_lix (n:Net) (gs:List Gro) (t:Int) (ls:List Lgt) (i:Nat):delP gs t ls i=if(gs[i]?.getD nilG).e=t-1∧0≤lix ⟨n,ls⟩ ((i:Int)+1) then ls.eraseIdx (lix ⟨n,ls⟩ ((i:Int)+1)).toNat else ls:=by
 unfold delP
 by_cases h:(gs[i]?.getD nilG).e=t-1
 · rw[if_pos h,erase_lix n]
   simp only[h,true_and]
 · rw[if_neg h,if_neg (fun hh=>h hh.1)]
def plnD (p:Pln):List Dt:=[flt 1 strE p.n.ns,flt 4 fibE p.n.fs,rws 5 lgtD p.ls]
theorem newPln {w:World} {lo:Nat} {u1 u2 u3:Value} {p:Pln} {fp:List Nat} (h:PlnO w p (.agg #[u1,u2,u3]) fp) (hn:fp.Nodup) (hl:∀k∈fp,lo≤k):Newd w lo [u1,u2,u3] (plnD p):=by
 obtain⟨x1,x2,x3,f1,f2,f3,e,h1,h2,h3,rfl⟩:=h
 simp only[Value.agg.injEq,Array.mk.injEq,List.cons.injEq,and_true] at e
 obtain⟨rfl,rfl,rfl⟩:=e
 refine⟨[f1,f2,f3],rfl,rfl,fun j d u f e1 e2 e3=> ?_,?_,fun k hk=>hl k ?_⟩
 · match j with
   | 0=>cases e1;cases e2;cases e3;exact h1
   | 1=>cases e1;cases e2;cases e3;exact h2
   | 2=>cases e1;cases e2;cases e3;exact h3
   | j+3=>simp[plnD] at e1
 · simpa using hn
 · simpa using hk
theorem PlnO.kept {w w':World} {p:Pln} {v:Value} {fp:List Nat} (h:PlnO w p v fp) (hk:∀k∈fp,w'.heap[k]?= w.heap[k]?):PlnO w' p v fp:=by
 obtain⟨x1,x2,x3,f1,f2,f3,e,h1,h2,h3,rfl⟩:=h
 exact⟨x1,x2,x3,f1,f2,f3,e,h1.kept fun k h=>hk k (List.mem_append_left _ (List.mem_append_left _ h)),h2.kept fun k h=>hk k (List.mem_append_left _ (List.mem_append_right _ h)),h3.kept fun k h=>hk k (List.mem_append_right _ h),rfl⟩
/-! ### A plan in a variable -/
def PlK (w0 w:World) (R:Nat→Prop) (s b v:Value) (p:Pln):Prop:=∀w',Below w0.heap.size w0 w'→(∀k,w0.heap.size≤k→k<w.heap.size→ ¬R k→s.ownBlock≠some k→b.ownBlock≠some k→w'.heap[k]?= w.heap[k]?)→PlnR w' v p
theorem PlK.init {w0 w:World} {R:Nat→Prop} {s b v:Value} {p:Pln} (h:PlnR w0 v p):PlK w0 w R s b v p:=fun _ hb _=>h.behind hb
theorem PlK.rd {w0 w:World} {R:Nat→Prop} {s b v:Value} {p:Pln} (h:PlK w0 w R s b v p) (hb:Below w0.heap.size w0 w):PlnR w v p:=h w hb fun _ _ _ _ _ _=>rfl
theorem PlK.step {w0 w w':World} {R:Nat→Prop} {s b s' b' v:Value} {p:Pln} (h:PlK w0 w R s b v p) (hs:w.heap.size≤w'.heap.size) (hk:∀k,w0.heap.size≤k→k<w.heap.size→ ¬R k→s.ownBlock≠some k→b.ownBlock≠some k→w'.heap[k]?= w.heap[k]?)
 (h1:∀k,s'.ownBlock=some k→s.ownBlock=some k∨w.heap.size≤k) (h2:∀k,b'.ownBlock=some k→b.ownBlock=some k∨w.heap.size≤k):PlK w0 w' R s' b' v p:=fun w2 hb hk2=>
 h w2 hb fun k q1 q2 q3 q4 q5=>(hk2 k q1 (by omega) q3 (fun e=>(h1 k e).elim q4 (fun h=>by omega)) (fun e=>(h2 k e).elim q5 (fun h=>by omega))).trans (hk k q1 q2 q3 q4 q5)
theorem PlK.new {w0 w:World} {R:Nat→Prop} {base B:Nat} {s b u1 u2 u3:Value} {p:Pln} {fp:List Nat} (h:PlG w base B u1 u2 u3 p fp) (hs:NetSm p.n) (h0:w0.heap.size≤base) (hp:∀k,R k→k<base) (h1:∀k,s.ownBlock=some k→k<base) (h2:∀k,b.ownBlock=some k→k<base):PlK w0 w R s b (.agg #[u1,u2,u3]) p:=fun w' _ hk=>by
 obtain⟨fq,ho,-,hl⟩:=h.o
 refine(ho.kept fun k hkq=> ?_).rd hs
 have:=hl k hkq
 exact hk k (by omega) this.2 (fun e=>by have:=hp k e;omega) (fun e=>by have:=h1 k e;omega) (fun e=>by have:=h2 k e;omega)
/-! ### A row under way that keeps clear of some blocks -/
def GrwX (w:World) (base:Nat) (T:TypeId) (size:Nat) (v:Value) (n:Nat) (ds:List Dt) (X:Nat→Prop):Prop:=∃us fs,w.ownsRow base T size v n us∧GrP w base v us fs ds∧ ∀k∈fs.flatten,¬X k
theorem GrwX.grw {w:World} {base size n:Nat} {T:TypeId} {v:Value} {ds:List Dt} {X:Nat→Prop} (h:GrwX w base T size v n ds X):Grw w base T size v n ds:=by
 obtain⟨us,fs,r,g,-⟩:=h
 exact⟨us,fs,r,g.ul,g.fl,g.el,g.nd,g.lo,g.ow⟩
theorem GrwX.start {w:World} {base size g:Nat} (T:TypeId) (X:Nat→Prop) (hb:base≤g) (hg:w.heap[g]?= some (.cells #[] T (0,0))):GrwX w base T size (.slice (some ⟨g,0,none⟩) 0 0) 0 [] X:=
 ⟨[],[],⟨by simp,.inr ⟨g,0,#[],rfl,hb,hg,ξr _,by simp[maxLen],by simp,by simp⟩⟩,⟨rfl,rfl,(fun j d u f h=>by simp at h),List.nodup_nil,(fun k hk=>by simp at hk),(fun g _ hk=>by simp at hk)⟩,(fun k hk=>by simp at hk)⟩
theorem GrwX.kept {w w':World} {base size n:Nat} {T:TypeId} {v:Value} {ds:List Dt} {X Y:Nat→Prop} (h:GrwX w base T size v n ds X) (hk:∀k,base≤k→k<w.heap.size→(¬X k∨v.ownBlock=some k)→w'.heap[k]?= w.heap[k]?) (hY:∀k,k<w.heap.size→Y k→X k):GrwX w' base T size v n ds Y:=by
 obtain⟨us,fs,r,g,hx⟩:=h
 have hlt:=g.lt
 refine⟨us,fs,ξaD r fun q hq=>hk q (r.lt q hq).1 (r.lt q hq).2 (.inr hq),⟨g.ul,g.fl,fun j d u f e1 e2 e3=> ?_,g.nd,g.lo,g.ow⟩,fun k hkm hy=>hx k hkm (hY k (hlt k hkm) hy)⟩
 refine(g.el j d u f e1 e2 e3).kept fun k hkf=> ?_
 have hm:k∈fs.flatten:=List.mem_flatten.2 ⟨f,List.mem_of_getElem? e3,hkf⟩
 exact hk k (g.lo k hm) (hlt k hm) (.inl (hx k hm))
theorem ξck {P:Program} {ops:Array Oper} {rest:List Oper} {o:Oper} {a:Act} {Q:Exit→Act→World→Prop} {w w2:World} (hgd:o.guard=none) (s x:Operand) (t e:TypeId)
 (ho:o.op= .call {callee:= .builtin .append,args:=#[s,x],argTypes:=#[t,t]}) (ht:P.underlying t=some (.slice e)) (z:Value) (size bytes:Nat)
 (hinfo:(P.info? e).map (fun i=>(i.zero,i.size,i.bytes))=some (some z,size,bytes)) (hzs:z.cells.size=size) (hsz:0<size) (hby:bytes≤1000)
 (base n:Nat) (v:Value) (ds ds':List Dt) (X:Nat→Prop) (hX:∀k,X k→k<w.heap.size) (hs:a.eval s=v) (hG:GrwX w base e size v n ds X) (hbb:base≤w.heap.size) (hb:Below w.heap.size w w2)
 (news:List Value) (hN:Newd w2 w.heap.size news ds') (hnl:news.length=size) (h1:∀u∈news,u.oneCell'=true) (hx:a.eval x= .slice (some ⟨w2.heap.size,0,none⟩) 1 1) (hn:n≤1000000)
 (h:∀v' w3,GrwX w3 base e size v' (n+1) (ds++ds') X→w2.grownBy w3 v.ownBlock→(∀g,v'.ownBlock=some g→v.ownBlock=some g∨w2.heap.size≤g)→wpList P ops Q rest (a.put o.dst v') w3):
 wpList P ops Q (o::rest) a (w2.alloc (.cells news.toArray e)):=by
 obtain⟨i0,hi,hz0,hz1,hz2⟩:=info_parts hinfo
 obtain⟨us,fs,r1,gp,hxx⟩:=hG
 have hr2:(w2.alloc (.cells news.toArray e)).ownsRow base e size v n us:=(ξaD r1 fun g hg=>hb.block g (r1.lt g hg).2).alloc _
 have hblk:=ξn w2 (.cells news.toArray e)
 refine wpList_append_lies _ hgd s x t ho base e i0 z size bytes ht hi hz0 hz1 hz2 hzs hsz v n us hs hr2 ⟨w2.heap.size,0,none⟩ 1 1 news hx (by omega) (fun j u hu=>World.news_of_block hblk j u (by simpa using hu)) h1 (by omega) (by unfold maxLen;omega) ?_ (ξs (ξs hbb hb.size) (by simp)) _ rfl ?_
 · have:(n+1)*bytes≤1000001*1000:=Nat.mul_le_mul (by omega) hby
   omega
 · intro g cap w3 g1 g2 g3 _
   have hgr:w2.grownBy w3 v.ownBlock:=⟨g2.os,g2.tape,g2.output,ξs (by simp) g2.size,fun k hk hne=>by
    rw[g2.block k (by simp;omega) hne];exact heap_alloc_old w2 _ hk⟩
   have hlie:v.ownBlock=some g∨w2.heap.size≤g:=by
    rcases g3 with e | e
    · exact .inl e
    · exact .inr (by rw[e];simp)
   refine h _ w3 ?_ hgr (fun g' hg'=> ?_)
   · obtain⟨fs',k1,k2,k3,k4,k5⟩:=hN
     have hv:=fun g hg=>(r1.lt g hg).2
     have hlt:∀k∈fs.flatten,k<w.heap.size:=gp.lt
     have hlt':∀k∈fs'.flatten,k<w2.heap.size:=Grw.flt k1 k2 k3
     have hkold:∀k∈fs.flatten,w3.heap[k]?= w.heap[k]?:=fun k hk=>by
      rw[hgr.block k (ξq (hlt k hk) hb.size) (fun e=>gp.ow k e.symm hk),hb.block k (hlt k hk)]
     have hknew:∀k∈fs'.flatten,w3.heap[k]?= w2.heap[k]?:=fun k hk=>hgr.block k (hlt' k hk) (fun e=>by have:=hv k e.symm;have:=k5 k hk;omega)
     have h2:=gp.ul
     have h3:=gp.fl
     refine⟨us++news,fs++fs',g1,⟨by simp[h2,k1],by simp[h3,k2],fun j d u f e1 e2 e3=> ?_,?_,fun k hk=> ?_,fun k hk hm=> ?_⟩,fun k hk hxk=> ?_⟩
     · by_cases hj:j<ds.length
       · rw[List.getElem?_append_left (by omega)] at e1 e2 e3
         exact(gp.el j d u f e1 e2 e3).kept fun k hk=>hkold k (List.mem_flatten.2 ⟨f,List.mem_of_getElem? e3,hk⟩)
       · rw[List.getElem?_append_right (by omega)] at e1 e2 e3
         rw[h2] at e2;rw[h3] at e3
         exact(k3 _ d u f e1 e2 e3).kept fun k hk=>hknew k (List.mem_flatten.2 ⟨f,List.mem_of_getElem? e3,hk⟩)
     · rw[List.flatten_append,List.nodup_append]
       exact⟨gp.nd,k4,fun a ha b hb e=>by have:=hlt a ha;have:=k5 b hb;omega⟩
     · rw[List.flatten_append,List.mem_append] at hk
       rcases hk with hk | hk
       · exact gp.lo k hk
       · have:=k5 k hk;omega
     · have:g=k:=by simpa[Value.ownBlock] using hk
       subst this
       rw[List.flatten_append,List.mem_append] at hm
       rcases hlie with e | e
       · rcases hm with hm | hm
         · exact gp.ow g e hm
         · have:=hv g e;have:=k5 g hm;omega
       · rcases hm with hm | hm
         · have:=hlt g hm;have:=hb.size;omega
         · have:=hlt' g hm;omega
     · rw[List.flatten_append,List.mem_append] at hk
       rcases hk with hk | hk
       · exact hxx k hk hxk
       · have:=k5 k hk;have:=hX k hxk;omega
   · have:g=g':=by simpa[Value.ownBlock] using hg'
     rw[←this];exact hlie
/-! ### The state of a planning: the plan in its variable, the plans so far, the blocked demands -/
structure PgS (w0 w:World) (R:Nat→Prop) (s b v:Value) (p:Pln) (m:Nat) (ps:List Pln) (bl:List Int):Prop where
 bel:Below w0.heap.size w0 w
 rsv:∀k,R k→w0.heap.size≤k∧k<w.heap.size
 pl:PlK w0 w R s b v p
 out:GrwX w w0.heap.size 75 3 s m (ps.flatMap plnD) (fun k=>R k∨b.ownBlock=some k)
 blo:Own w w0.heap.size b bl
 aps:∀g,s.ownBlock=some g→ ¬R g∧b.ownBlock≠some g
 apb:∀g,b.ownBlock=some g→ ¬R g
theorem PgS.own {w0 w:World} {R:Nat→Prop} {s b v:Value} {p:Pln} {m:Nat} {ps:List Pln} {bl:List Int} (h:PgS w0 w R s b v p m ps bl):∀k,s.ownBlock=some k→w0.heap.size≤k∧k<w.heap.size:=h.out.grw.own
theorem PgS.step {w0 w w':World} {R:Nat→Prop} {s b v:Value} {p:Pln} {m:Nat} {ps:List Pln} {bl:List Int} (h:PgS w0 w R s b v p m ps bl) (hb:Below w0.heap.size w0 w') (hs:w.heap.size≤w'.heap.size) (hk:∀k,k<w.heap.size→ ¬R k→w'.heap[k]?= w.heap[k]?):PgS w0 w' R s b v p m ps bl:=
 ⟨hb,fun k hr=>⟨(h.rsv k hr).1,by have:=(h.rsv k hr).2;omega⟩,h.pl.step hs (fun k _ q1 q2 _ _=>hk k q1 q2) (fun _ h=> .inl h) (fun _ h=> .inl h),
  h.out.kept (fun k _ q1 q2=>hk k q1 (q2.elim (fun e hr=>e (.inl hr)) (fun e=>(h.aps k e).1))) (fun _ _ h=>h),h.blo.kept fun k hk2=>hk k (h.blo.lt k hk2).2 (h.apb k hk2),h.aps,h.apb⟩
theorem PgS.below {w0 w w':World} {R:Nat→Prop} {s b v:Value} {p:Pln} {m:Nat} {ps:List Pln} {bl:List Int} (h:PgS w0 w R s b v p m ps bl) (hb:Below w.heap.size w w'):PgS w0 w' R s b v p m ps bl:=
 h.step (h.bel.trans (hb.mono h.bel.size)) hb.size fun k hk _=>hb.block k hk
theorem PgS.put {w0 w w1 w':World} {R:Nat→Prop} {s b v u1 u2 u3:Value} {p p':Pln} {m B:Nat} {ps:List Pln} {bl:List Int} {fp:List Nat} (h:PgS w0 w R s b v p m ps bl) (hb1:Below w.heap.size w w1) (hG:PlG w1 w.heap.size B u1 u2 u3 p' fp) (hsm:NetSm p'.n) (hb:Below w0.heap.size w0 w') (hs:w1.heap.size=w'.heap.size) (hk:∀k,¬R k→w'.heap[k]?= w1.heap[k]?):PgS w0 w' R s b (.agg #[u1,u2,u3]) p' m ps bl:=by
 have h1:=h.below hb1
 have h2:=h1.step hb (Nat.le_of_eq hs) fun k _ hr=>hk k hr
 refine⟨h2.bel,h2.rsv,?_,h2.out,h2.blo,h2.aps,h2.apb⟩
 have hp:PlK w0 w1 R s b (.agg #[u1,u2,u3]) p':=PlK.new hG hsm h.bel.size (fun k hr=>(h.rsv k hr).2) (fun k hk=>(h.own k hk).2) (fun k hk=>(h.blo.lt k hk).2)
 exact hp.step (Nat.le_of_eq hs) (fun k _ _ q2 _ _=>hk k q2) (fun _ h=> .inl h) (fun _ h=> .inl h)
theorem PgS.push {w0 w w':World} {R:Nat→Prop} {s b b' v:Value} {p:Pln} {m:Nat} {ps:List Pln} {bl bl':List Int} (h:PgS w0 w R s b v p m ps bl) (ho:Own w' w0.heap.size b' bl') (hg:w.grownBy w' b.ownBlock) (hl:∀g,b'.ownBlock=some g→b.ownBlock=some g∨w.heap.size≤g):PgS w0 w' R s b' v p m ps bl':=by
 have hb:Below w0.heap.size w0 w':=h.bel.grown hg h.bel.size fun q hq=>(h.blo.lt q hq).1
 refine⟨hb,fun k hr=>⟨(h.rsv k hr).1,by have:=(h.rsv k hr).2;have:=hg.size;omega⟩,h.pl.step hg.size (fun k _ q1 _ _ q2=>hg.block k q1 fun e=>q2 e.symm) (fun _ h=> .inl h) hl,h.out.kept (fun k _ q1 q2=>hg.block k q1 fun e=> ?_) (fun k hk hy=>hy.imp id fun e=>(hl k e).elim id fun h=>by omega),ho,fun g e=>⟨(h.aps g e).1,fun e2=> ?_⟩,fun g e hr=> ?_⟩
 · rcases q2 with q2 | q2
   · exact q2 (.inr e.symm)
   · exact(h.aps k q2).2 e.symm
 · rcases hl g e2 with e2 | e2
   · exact(h.aps g e).2 e2
   · have:=(h.own g e).2;omega
 · rcases hl g e with e2 | e2
   · exact h.apb g e2 hr
   · have:=(h.rsv g hr).2;omega
theorem PgS.grow {w0 w w2 w':World} {R:Nat→Prop} {s s' b v:Value} {p q:Pln} {m:Nat} {ps:List Pln} {bl:List Int} (h:PgS w0 w R s b v p m ps bl) (hb:Below w.heap.size w w2) (ho:GrwX w' w0.heap.size 75 3 s' (m+1) (ps.flatMap plnD++plnD q) (fun k=>R k∨b.ownBlock=some k)) (hg:w2.grownBy w' s.ownBlock) (hl:∀g,s'.ownBlock=some g→s.ownBlock=some g∨w2.heap.size≤g):PgS w0 w' R s' b v p (m+1) (ps++[q]) bl:=by
 have h2:=h.below hb
 have hbb:Below w0.heap.size w0 w':=h2.bel.grown hg h2.bel.size fun q hq=>(h2.own q hq).1
 refine⟨hbb,fun k hr=>⟨(h2.rsv k hr).1,by have:=(h2.rsv k hr).2;have:=hg.size;omega⟩,h2.pl.step hg.size (fun k _ q1 _ q2 _=>hg.block k q1 fun e=>q2 e.symm) hl (fun _ h=> .inl h),?_,h2.blo.kept fun k hk=>hg.block k (h2.blo.lt k hk).2 fun e=>(h2.aps k e.symm).2 hk,fun g e=>⟨fun hr=> ?_,fun e2=> ?_⟩,h2.apb⟩
 · rw[List.flatMap_append];simpa using ho
 · rcases hl g e with e2 | e2
   · exact(h2.aps g e2).1 hr
   · have:=(h2.rsv g hr).2;omega
 · rcases hl g e with e3 | e3
   · exact(h2.aps g e3).2 e2
   · have:=(h2.blo.lt g e2).2;omega
def PgB (w0 w:World) (R:Nat→Prop) (bp:Nat) (s b:Value) (p:Pln) (m:Nat) (ps:List Pln) (bl:List Int):Prop:=R bp∧ ∃a1 m1 c1 a2 m2 c2 a3 m3 c3,w.heap[bp]?= some (.cells #[.slice a1 m1 c1,.slice a2 m2 c2,.slice a3 m3 c3] 75 (0,0))∧PgS w0 w R s b (.agg #[.slice a1 m1 c1,.slice a2 m2 c2,.slice a3 m3 c3]) p m ps bl
theorem PgB.below {w0 w w':World} {R:Nat→Prop} {bp m:Nat} {s b:Value} {p:Pln} {ps:List Pln} {bl:List Int} (h:PgB w0 w R bp s b p m ps bl) (hb:Below w.heap.size w w'):PgB w0 w' R bp s b p m ps bl:=by
 obtain⟨h0,a1,m1,c1,a2,m2,c2,a3,m3,c3,h1,h2⟩:=h
 exact⟨h0,a1,m1,c1,a2,m2,c2,a3,m3,c3,ξA h1 hb,h2.below hb⟩
theorem PgB.bel {w0 w:World} {R:Nat→Prop} {bp m:Nat} {s b:Value} {p:Pln} {ps:List Pln} {bl:List Int} (h:PgB w0 w R bp s b p m ps bl):Below w0.heap.size w0 w:=by
 obtain⟨h0,a1,m1,c1,a2,m2,c2,a3,m3,c3,h1,h2⟩:=h
 exact h2.bel
theorem PgB.put {w0 w w1:World} {R:Nat→Prop} {bp m B n1 d1 n2 d2 n3 d3:Nat} {s b:Value} {e1 e2 e3:Option Addr} {p p':Pln} {ps:List Pln} {bl:List Int} {fp:List Nat} (h:PgB w0 w R bp s b p m ps bl) (hb1:Below w.heap.size w w1) (hG:PlG w1 w.heap.size B (.slice e1 n1 d1) (.slice e2 n2 d2) (.slice e3 n3 d3) p' fp) (hsm:NetSm p'.n):
 PgB w0 (((w1.setCell ⟨bp,0,none⟩ (.slice e1 n1 d1)).setCell ⟨bp,1,none⟩ (.slice e2 n2 d2)).setCell ⟨bp,2,none⟩ (.slice e3 n3 d3)) R bp s b p' m ps bl:=by
 obtain⟨h0,a1,m1,c1,a2,m2,c2,a3,m3,c3,h1,h2⟩:=h
 obtain⟨q1,q2,q3,q4⟩:=ξaq (.slice e1 n1 d1) (.slice e2 n2 d2) (.slice e3 n3 d3) (ξA h1 hb1)
 exact⟨h0,e1,n1,d1,e2,n2,d2,e3,n3,d3,q1,h2.put hb1 hG hsm (q4 _ _ (h2.rsv _ h0).1 (h2.bel.trans (hb1.mono h2.bel.size))) q3.symm fun k hk=>q2 k fun e=>hk (e▸h0)⟩
theorem PgB.push {w0 w w':World} {R:Nat→Prop} {bp m:Nat} {s b b':Value} {p:Pln} {ps:List Pln} {bl bl':List Int} (h:PgB w0 w R bp s b p m ps bl) (ho:Own w' w0.heap.size b' bl') (hg:w.grownBy w' b.ownBlock) (hl:∀g,b'.ownBlock=some g→b.ownBlock=some g∨w.heap.size≤g):PgB w0 w' R bp s b' p m ps bl':=by
 obtain⟨h0,a1,m1,c1,a2,m2,c2,a3,m3,c3,h1,h2⟩:=h
 exact⟨h0,a1,m1,c1,a2,m2,c2,a3,m3,c3,(hg.block bp (h2.rsv _ h0).2 fun e=>h2.apb bp e.symm h0).trans h1,h2.push ho hg hl⟩
theorem PgB.grow {w0 w w2 w':World} {R:Nat→Prop} {bp m:Nat} {s s' b:Value} {p q:Pln} {ps:List Pln} {bl:List Int} (h:PgB w0 w R bp s b p m ps bl) (hb:Below w.heap.size w w2) (ho:GrwX w' w0.heap.size 75 3 s' (m+1) (ps.flatMap plnD++plnD q) (fun k=>R k∨b.ownBlock=some k)) (hg:w2.grownBy w' s.ownBlock) (hl:∀g,s'.ownBlock=some g→s.ownBlock=some g∨w2.heap.size≤g):PgB w0 w' R bp s' b p (m+1) (ps++[q]) bl:=by
 obtain⟨h0,a1,m1,c1,a2,m2,c2,a3,m3,c3,h1,h2⟩:=h
 exact⟨h0,a1,m1,c1,a2,m2,c2,a3,m3,c3,(hg.block bp (ξq (h2.rsv _ h0).2 hb.size) fun e=>(h2.aps bp e.symm).1 h0).trans (ξA h1 hb),h2.grow hb ho hg hl⟩
theorem PgB.start {w0 w3:World} {a1 a2:Option Addr} {m1 c1 m2 c2:Nat} {n:Net} (hb:Below w0.heap.size w0 w3) (hp:PlnR w0 (.agg #[.slice a1 m1 c1,.slice a2 m2 c2,.slice none 0 0]) ⟨n,[]⟩):
 PgB w0 (((w3.alloc (.cells #[] 75)).alloc (.cells #[] 3)).alloc (.cells #[.slice a1 m1 c1,.slice a2 m2 c2,.slice none 0 0] 75)) (fun k=>k=w3.heap.size+1+1) (w3.heap.size+1+1) (.slice (some ⟨w3.heap.size,0,none⟩) 0 0) (.slice (some ⟨w3.heap.size+1,0,none⟩) 0 0) ⟨n,[]⟩ 0 [] []:=by
 obtain⟨q0,q1,q2,q3,q4⟩:=ξal w3 (.cells #[] 75) (.cells #[] 3) (.cells #[.slice a1 m1 c1,.slice a2 m2 c2,.slice none 0 0] 75)
 have hz:=hb.size
 refine⟨rfl,_,_,_,_,_,_,_,_,_,q3,hb.trans (q0.mono hz),fun k hk=>by subst hk;omega,PlK.init hp,GrwX.start _ _ (by omega) q1,.inr ⟨w3.heap.size+1,0,0,#[],rfl,by omega,⟨_,q2⟩,ξr _,by simp[maxLen],by simp,by simp[ints]⟩,fun g hg=> ?_,fun g hg=> ?_⟩
 · have:w3.heap.size=g:=ξo hg
   subst this
   exact⟨(show¬(w3.heap.size=w3.heap.size+1+1) by omega),fun e=>(by have:w3.heap.size+1=w3.heap.size:=ξo e;omega)⟩
 · have:w3.heap.size+1=g:=ξo hg
   subst this
   show¬(w3.heap.size+1=w3.heap.size+1+1)
   omega
open Go.RowKit
def RdB (w:World) (v:Value):Prop:=
 ∃a len cap,v= .slice a len cap∧len≤cap∧len≤281474976710656∧(0<len→ ∃b off,a=some ⟨b,off,none⟩∧b<w.heap.size∧ ∀j,j<len→ ∃x:Int,0≤x∧x≤255∧w.cell? ⟨b,off+j,none⟩=some (.int .u8 x))
def bb:Value→Option Nat
 | .slice (some a) (_+1) _=>some a.block
 | _=>none
theorem bb_some {b off len cap:Nat} (h:0<len):bb (.slice (some ⟨b,off,none⟩) len cap)=some b:=by
 obtain⟨n,rfl⟩:∃n,len=n+1:=⟨len-1,by omega⟩
 rfl
theorem RdB.lt {w:World} {v:Value} (h:RdB w v):∀j,bb v=some j→j<w.heap.size:=by
 obtain⟨a,len,cap,rfl,h1,h2,h3⟩:=h
 intro j hj
 rcases Nat.eq_zero_or_pos len with h0 | h0
 · subst h0;cases a <;> simp[bb] at hj
 · obtain⟨b,off,rfl,hb,_⟩:=h3 h0
   rw[bb_some h0] at hj
   simp at hj;omega
theorem RdB.kept {w w':World} {v:Value} (h:RdB w v) (hs:w.heap.size≤w'.heap.size) (hk:∀k,bb v=some k→w'.heap[k]?= w.heap[k]?):RdB w' v:=by
 obtain⟨a,len,cap,rfl,h1,h2,h3⟩:=h
 refine⟨a,len,cap,rfl,h1,h2,fun hl=> ?_⟩
 obtain⟨b,off,rfl,hb,hc⟩:=h3 hl
 refine⟨b,off,rfl,by omega,fun j hj=> ?_⟩
 obtain⟨x,x1,x2,x3⟩:=hc j hj
 exact⟨x,x1,x2,by rw[World.cell?_of_block (w:=w) (hk b (bb_some hl))];exact x3⟩
def Cur (w:World) (B:Nat) (c:Value) (k:Nat):Prop:=
 RdB w c∧(∀j,bb c=some j→j≠B)∧ ∃s:Int,0≤s∧s<18446744073709551616∧w.heap[B]?= some (.cells #[c,.int .i64 k,.int .u64 s] 117 (0,0))
def CurPost (w:World) (B:Nat) (c:Value) (k m:Nat) (lo hi:Int) (e:Ending) (w':World):Prop:=
 ∃(x:Int) (k':Nat),lo≤x∧x≤hi∧e= .returned (.int .i64 x)∧k'≤k+m∧Cur w' B c k'∧w.grownBy w' (some B)∧w'.heap.size=w.heap.size
theorem u64_bd (n:Int):0≤IntKind.u64.wrap n∧IntKind.u64.wrap n<18446744073709551616:=by
 have:IntKind.u64.wrap n=n%18446744073709551616:=by simp[IntKind.wrap,IntKind.bits,IntKind.signed]
 rw[this];omega
theorem and255_bd (y:Int) (h0:0≤y) (h1:y<18446744073709551616):0≤wrap64 (bits BinOp.and .u64 y 255)∧wrap64 (bits BinOp.and .u64 y 255)≤255:=by
 rw[u64_and y 255 h0 h1 (by omega) (by omega)]
 have:y.toNat &&& (255:Int).toNat≤255:=Nat.and_le_right
 rw[ξw _ (by omega)];omega
theorem cur_after {w:World} {B k:Nat} {c:Value} {s s2:Int} (hB:w.heap[B]?= some (.cells #[c,.int .i64 k,.int .u64 s] 117 (0,0))) (hne:∀j,bb c=some j→j≠B)
 (hs2:0≤s2∧s2<18446744073709551616) (hc:RdB w c) (m n:Nat):
 let w':=(((w.drewN m).setCell ⟨B,1,none⟩ (.int .i64 ((k:Int)+1))).setCell ⟨B,2,none⟩ (.int .u64 s2)).drewN n
 Cur w' B c (k+1)∧w.grownBy w' (some B)∧w'.heap.size=w.heap.size:=by
 intro w'
 have h1:((w.drewN m).setCell ⟨B,1,none⟩ (.int .i64 ((k:Int)+1))).heap[B]?= some (.cells #[c,.int .i64 ((k:Int)+1),.int .u64 s] 117 (0,0)):=by
  rw[ξe (w.drewN m) B 1 _ _ _ hB];rfl
 have h2:w'.heap[B]?= some (.cells #[c,.int .i64 ((k:Int)+1),.int .u64 s2] 117 (0,0)):=by
  show(((w.drewN m).setCell ⟨B,1,none⟩ (.int .i64 ((k:Int)+1))).setCell ⟨B,2,none⟩ (.int .u64 s2)).heap[B]?= _
  rw[ξe _ B 2 _ _ _ h1];rfl
 have ho:∀j,j≠B→w'.heap[j]?= w.heap[j]?:=fun j hj=>by
  show(((w.drewN m).setCell ⟨B,1,none⟩ (.int .i64 ((k:Int)+1))).setCell ⟨B,2,none⟩ (.int .u64 s2)).heap[j]?= _
  rw[ξm _ _ _ _ hj,ξm _ _ _ _ hj];rfl
 have hsz:w'.heap.size=w.heap.size:=by simp[w']
 refine⟨⟨hc.kept (by omega) fun j hj=>ho j (hne j hj),hne,s2,hs2.1,hs2.2,?_⟩,⟨rfl,rfl,rfl,by omega,fun j _ hj=>ho j fun e=>hj (by rw[e])⟩,hsz⟩
 rw[h2];rfl
theorem next_any (B:Nat) (c:Value) (k:Nat) (w:World) (h:Cur w B c k) (hk:k≤4611686018427387904):
 Calls Tryz.prog 125 #[.pointer (some ⟨B,0,none⟩)] w (CurPost w B c k 1 0 255):=by
 obtain⟨hc,hne,s,hs0,hs1,hB⟩:=h
 obtain⟨a,len,cap,rfl,hlc,hlen,ha⟩:=hc
 have c0:w.cell? ⟨B,0,none⟩=some (.slice a len cap):=by rw[cell_of_row w _ _ _ _ _ hB];rfl
 have c1:w.cell? ⟨B,1,none⟩=some (.int .i64 k):=by rw[cell_of_row w _ _ _ _ _ hB];rfl
 have c2:w.cell? ⟨B,2,none⟩=some (.int .u64 s):=by rw[cell_of_row w _ _ _ _ _ hB];rfl
 have fr:∀j,w.frozen? ⟨B,j,none⟩=false:=fun j=>ξz w _ j _ _ hB
 have HB:=ξh hB
 clear hB
 by_cases hlt:k<len
 · obtain⟨b,off,rfl,hbs,hcc⟩:=ha (by omega)
   obtain⟨x,x0,x1,hx⟩:=hcc k hlt
   clear hcc
   have hltI:(k:Int)<(len:Int):=by omega
   have hd:decide ((k:Int)<(len:Int))=true:=by simpa using hlt
   go_enter Tryz.func125,Tryz.ntmps125
   go_wp2
   go_quiet (fail)
   go_wp2
   go_quiet (fail)
   go_wp2
   have hs2:=u64_bd (IntKind.u64.wrap (IntKind.u64.wrap (s*6364136223846793005)+x)+897897)
   generalize IntKind.u64.wrap (IntKind.u64.wrap (IntKind.u64.wrap (s*6364136223846793005)+x)+897897)=s2 at *
   have hle:((k:Int)+1≤(len:Int)):=by omega
   go_quiet (fail)
   go_wp2
   go_ret
   exact⟨x,k+1,x0,x1,rfl,ξr _,cur_after HB.out hne hs2 ⟨_,len,cap,rfl,hlc,hlen,ha⟩ _ _⟩
 · have hd:decide ((k:Int)<(len:Int))=false:=by simpa using hlt
   have hltI:¬((k:Int)<(len:Int)):=by omega
   go_enter Tryz.func125,Tryz.ntmps125
   go_wp2
   go_quiet (fail)
   go_wp2
   have hs2:=u64_bd (IntKind.u64.wrap (IntKind.u64.wrap (s*6364136223846793005))+897897)
   generalize IntKind.u64.wrap (IntKind.u64.wrap (IntKind.u64.wrap (s*6364136223846793005))+897897)=s2 at *
   obtain⟨hs20,hs21⟩:=hs2
   have hle:decide ((k:Int)+1≤(len:Int))=false:=by simp;omega
   have hleI:¬((k:Int)+1≤(len:Int)):=by omega
   go_quiet (fail)
   go_wp2
   have hy:0≤s2/1099511627776∧s2/1099511627776<18446744073709551616:=by omega
   have hx:=and255_bd (s2/1099511627776) hy.1 hy.2
   go_ret
   exact⟨_,k+1,hx.1,hx.2,rfl,ξr _,cur_after HB.out hne ⟨hs20,hs21⟩ ⟨_,len,cap,rfl,hlc,hlen,ha⟩ _ _⟩
theorem pick_any (B:Nat) (c:Value) (k:Nat) (n:Int) (w:World) (h:Cur w B c k) (hk:k≤4611686018427387000) (hn:1≤n) (hn2:n≤1073741824):
 Calls Tryz.prog 72 #[.pointer (some ⟨B,0,none⟩),.int .i64 n] w (CurPost w B c k 2 0 (n-1)):=by
 by_cases h1:n=1
 · subst h1
   go_enter Tryz.func72,Tryz.ntmps72
   go_wp2
   go_ret
   exact⟨0,k,by omega,by omega,rfl,by omega,h,World.grownBy.refl _ _,rfl⟩
 · have h2:¬n≤1:=by omega
   by_cases h3:200<n
   · go_enter Tryz.func72,Tryz.ntmps72
     go_wp2_with fail
     refine(next_any B c k _ h (by omega)).mono ?_
     rintro e w1 ⟨x,k1,x0,x1,rfl,hk1,hc1,hg1,hs1⟩
     go_wp2_with fail
     refine(next_any B c k1 _ hc1 (by omega)).mono ?_
     rintro e w2 ⟨y,k2,y0,y1,rfl,hk2,hc2,hg2,hs2⟩
     go_wp2
     go_ret
     have:=Int.emod_nonneg (x*256+y) (show n≠0 by omega)
     have:=Int.emod_lt_of_pos (x*256+y) (show 0<n by omega)
     exact⟨_,k2,by omega,by omega,rfl,by omega,hc2,hg1.trans' hg2,hs2.trans hs1⟩
   · go_enter Tryz.func72,Tryz.ntmps72
     go_wp2_with fail
     refine(next_any B c k _ h (by omega)).mono ?_
     rintro e w1 ⟨x,k1,x0,x1,rfl,hk1,hc1,hg1,hs1⟩
     go_wp2
     go_ret
     have:=Int.emod_nonneg x (show n≠0 by omega)
     have:=Int.emod_lt_of_pos x (show 0<n by omega)
     exact⟨_,k1,by omega,by omega,rfl,by omega,hc1,hg1,hs1⟩
open Go.RowKit Go.Sort Go.Shelf
theorem flatv_at {α β:Type} {F:α→List β} {k:Nat} (hF:∀a,(F a).length=k):∀(xs:List α) (i r:Nat),r<k→(xs.flatMap F)[i*k+r]?= (xs[i]?).bind fun a=>(F a)[r]?
 | [],i,r,_=>by simp
 | a::xs,0,r,h=>by
   rw[List.flatMap_cons,List.getElem?_append_left (by rw[hF];omega)]
   simp
 | a::xs,i+1,r,h=>by
   rw[List.flatMap_cons,List.getElem?_append_right (by rw[hF,Nat.add_mul];omega),hF,show(i+1)*k+r-k=i*k+r by rw[Nat.add_mul];omega,flatv_at hF xs i r h]
   simp
theorem ξbD {α β:Type} {F:α→List β} {k:Nat} (hF:∀a,(F a).length=k) (xs:List α):(xs.flatMap F).length=xs.length*k:=by
 induction xs with
 | nil=>simp
 | cons a xs ih=>rw[List.flatMap_cons,ξk,ih,hF,List.length_cons,Nat.add_mul];omega
section
variable {α : Type} [Inhabited α] {enc : α → List Value} {k : Nat}
theorem flatK_list (hk:∀x,(enc x).length=k) (hk0:0<k) (d:Array α):(flatK enc k d).toList=d.toList.flatMap enc:=by
 apply List.ext_getElem?
 intro t
 by_cases ht:t<d.size*k
 · have h1:=get_flatK enc k d t ht
   have hi:t/k<d.size:=Nat.div_lt_of_lt_mul (by rw[Nat.mul_comm];exact ht)
   have hr:t%k<k:=Nat.mod_lt _ hk0
   have e:t=t/k*k+t%k:=by rw[Nat.mul_comm];exact(Nat.div_add_mod t k).symm
   rw[Array.getElem?_toList]
   have h2:(flatK enc k d)[t]?= some ((flatK enc k d)[t]!):=by
    rw[getElem!_pos _ t (by simpa using ht)];exact Array.getElem?_eq_getElem (by simpa using ht)
   rw[h2,h1]
   conv=>rhs;rw[e]
   rw[flatv_at hk d.toList (t/k) (t%k) hr,Array.getElem?_toList,Array.getElem?_eq_getElem hi,Option.bind_some]
   rw[getElem!_pos d (t/k) hi]
   have hl:t%k<(enc d[t/k]).length:=by rw[hk];exact hr
   rw[ξg hl,getElem!_pos (enc d[t/k]) (t%k) hl]
 · rw[List.getElem?_eq_none (by simp;omega),List.getElem?_eq_none (by rw[ξbD hk];simp;omega)]
theorem ξc3 {w:World} {base n g cap:Nat} {T:TypeId} {d:Array α} (hk:∀x,(enc x).length=k) (hk0:0<k) (h:w.ownsRow base T k (.slice (some ⟨g,0,none⟩) n cap) n (d.toList.flatMap enc)):d.size=n∧HoldsK enc k w g 0 d∧g<w.heap.size∧base≤g:=by
 have hn:d.size=n:=by
  have:=h.1
  rw[ξbD hk] at this
  have:=Nat.eq_of_mul_eq_mul_right hk0 this
  simpa using this
 rcases h.2 with ⟨e,_⟩ | ⟨g',cap',cur,e,q1,q2,q3,q4,q5,q6⟩
 · cases e
 · simp only[Value.slice.injEq,Option.some.injEq,Addr.mk.injEq,and_true,true_and] at e
   obtain⟨rfl,rfl⟩:=e
   refine⟨hn,fun t ht=> ?_,(ξa q2).1,q1⟩
   have ht':t<n*k:=by rw[←hn];simpa using ht
   refine⟨?_,ξz _ _ _ _ _ q2⟩
   rw[cell_of_row _ _ _ _ _ _ q2]
   have h2:(flatK enc k d)[t]?= some ((flatK enc k d)[t]!):=by
    rw[getElem!_pos _ t (by simpa using ht)];exact Array.getElem?_eq_getElem (by simpa using ht)
   show cur[0+t]?= some (id (flatK enc k d)[t]!)
   rw[id,←h2,←Array.getElem?_toList (xs:=flatK enc k d),flatK_list hk hk0,←q6,List.getElem?_take_of_lt ht',Nat.zero_add,Array.getElem?_toList]
theorem row_sortK {w:World} {base n g cap:Nat} {T:TypeId} {d:Array α} (hk:∀x,(enc x).length=k) (hk0:0<k) (h:w.ownsRow base T k (.slice (some ⟨g,0,none⟩) n cap) n (d.toList.flatMap enc)) (d':Array α) (hs:d'.size=d.size) (m:Nat) (os:Array Obj):
 (sortWorldK enc k w g 0 m d' os).ownsRow base T k (.slice (some ⟨g,0,none⟩) n cap) n (d'.toList.flatMap enc)∧w.grownBy (sortWorldK enc k w g 0 m d' os) (some g):=by
 have hn:=(ξc3 hk hk0 h).1
 rcases h.2 with ⟨e,_⟩ | ⟨g',cap',cur,e,q1,q2,q3,q4,q5,q6⟩
 · cases e
 · simp only[Value.slice.injEq,Option.some.injEq,Addr.mk.injEq,and_true,true_and] at e
   obtain⟨rfl,rfl⟩:=e
   have hnk:n*k≤cap*k:=Nat.mul_le_mul_right k q3
   refine⟨⟨by rw[ξbD hk];simp[hs,hn],.inr ⟨g,cap,putCells id 0 (flatK enc k d') cur,rfl,q1,?_,q3,q4,by simp[putCells,q5],?_⟩⟩,⟨rfl,rfl,rfl,?_,fun j hj hne=> ?_⟩⟩
   · unfold sortWorldK putRowK putRow
     rw[heap_grow_old _ _ (by simp[mapBlock,Sort.ahead];exact(ξa q2).1)]
     simp[mapBlock,Sort.ahead,Array.getElem?_modify,q2,onCells]
   · rw[←flatK_list hk hk0]
     apply List.ext_getElem?
     intro t
     by_cases ht:t<n*k
     · rw[List.getElem?_take_of_lt ht,Array.getElem?_toList,Array.getElem?_toList]
       have hts:t<(flatK enc k d').size:=by rw[size_flatK,hs,hn];exact ht
       have htc:t<cur.size:=by omega
       rw[Array.getElem?_eq_getElem hts]
       simp only[putCells,Array.getElem?_mapIdx,Array.getElem?_eq_getElem htc,Option.map_some]
       rw[if_pos ⟨ξu _,by omega⟩,Nat.sub_zero,getElem!_pos _ t hts];rfl
     · rw[List.getElem?_take_eq_none (by omega),List.getElem?_eq_none (by simp[hs,hn];omega)]
   · unfold sortWorldK putRowK putRow
     simp[mapBlock,Sort.ahead]
   · unfold sortWorldK putRowK putRow
     rw[heap_grow_old _ _ (by simpa[mapBlock,Sort.ahead] using hj)]
     have:g≠j:=fun e=>hne (by rw[e])
     simp[mapBlock,Sort.ahead,Array.getElem?_modify,this]
end
end Go.Proofs.YtofcicomhnkocaaGreat
