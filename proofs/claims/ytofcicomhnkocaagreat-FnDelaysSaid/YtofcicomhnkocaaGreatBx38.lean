import Derived.Test.YtofcicomhnkocaaGreatBx37
set_option linter.unusedVariables false
namespace Go.Proofs.YtofcicomhnkocaaGreat
set_option maxHeartbeats 12800000
open Go.RowKit Go.Sort
set_option maxRecDepth 100000
def carA (gs:List Gro):Nat→Int
 | 0=>0
 | k+1=>carA gs k+carX (gwA gs k)
theorem carX_one {g:Gro} (h:1≤g.d.r∧g.d.r≤1000∧0≤g.s∧g.s≤g.e∧g.e<8):1≤carX g:=by
 unfold carX
 have:=Int.mul_le_mul (a:=1) (c:=g.d.r) (b:=1) (d:=g.e-g.s+1) (by omega) (by omega) (by omega) (by omega)
 omega
theorem carA_bd {n:Net} {gs:List Gro} (h:GrsP n gs):∀k,k≤gs.length→0≤carA gs k∧carA gs k≤8000*(k:Int)
 | 0,_=>by simp[carA]
 | k+1,hk=>by
   have h1:=carA_bd h k (by omega)
   have h2:=carX_bd (h.bd (k:=k) (by omega))
   rw[carA];omega
theorem carS_le {n:Net} {gs:List Gro} (h:GrsP n gs) (bl:List Int):∀k,k≤gs.length→carS bl gs k≤carA gs k∧(carS bl gs k=carA gs k↔ ∀i:Nat,i<k→(i:Int) ∉ bl)
 | 0,_=>⟨Int.le_refl _,⟨fun _ i hi=>by omega,fun _=>rfl⟩⟩
 | k+1,hk=>by
   obtain⟨h1,h3⟩:=carS_le h bl k (by omega)
   have h2:=carX_one (h.bd (k:=k) (by omega))
   rw[carS,carA]
   by_cases hb:bl.contains (k:Int)=true
   · rw[if_pos hb]
     refine⟨by omega,⟨fun e=>by omega,fun e=> ?_⟩⟩
     exact absurd (by simpa using hb) (e k (by omega))
   · rw[if_neg hb]
     have hb':(k:Int) ∉ bl:=by simpa using hb
     refine⟨by omega,⟨fun e i hi=> ?_,fun e=> ?_⟩⟩
     · rcases Nat.lt_succ_iff_lt_or_eq.1 hi with hi | hi
       · exact(h3.1 (by omega)) i hi
       · subst hi;exact hb'
     · rw[h3.2 fun i hi=>e i (by omega)]
theorem fd_rate {n:Net} {fs:List Fmt} {gs:List Gro} (hk:ξa0 n fs gs=true):GrsP n gs∧planC n fs gs≤carA gs gs.length∧(decide ((ξai n fs gs).length=0)=decide (planC n fs gs=carA gs gs.length)):=by
 cases hO:ξR n fs gs with
 | none=>rw[(ξap hO).2] at hk;cases hk
 | some x=>
   obtain⟨ps,r⟩:=x
   obtain⟨hf,hn,hg,hr⟩:=ξau hO
   obtain⟨hB,-,-⟩:=ξaf hO
   obtain⟨h1,h2⟩:=carS_le hg (ξai n fs gs) gs.length (ξr _)
   have hC:planC n fs gs=carS (ξai n fs gs) gs gs.length:=by unfold planC;rw[if_pos hk]
   rw[hC]
   refine⟨hg,h1,decide_eq_decide.2 ?_⟩
   rw[h2,hB]
   constructor
   · intro e i _ hm
     rw[List.eq_nil_of_length_eq_zero e] at hm
     cases hm
   · intro e
     cases hu:ust r.bl with
     | nil=>rfl
     | cons b l=>
       have hbm:b∈ust r.bl:=by rw[hu];exact List.mem_cons_self ..
       obtain⟨j,hj,rfl,-⟩:=(ξaz hg hr).1.bls b (ξb3.1 hbm)
       exact absurd hbm (e j hj)
theorem fd_back {n:Net} {gs:List Gro} {i d:Int} (h:ξad n gs i d=true):
 ∃k:Nat,i=(k:Int)∧k<gs.length∧delR n gs i d=delL gs k d∧ξQ n (delL gs k d)=true∧ξad n (delL gs k d) i (-d)=true∧delR n (delL gs k d) i (-d)=gs∧(∀j,j≠k→(delL gs k d)[j]?.getD nilG=gs[j]?.getD nilG)∧ -8≤d∧d≤8∧gs.length≤12:=by
 have h0:=h
 unfold ξad delOk0 at h
 simp only[Bool.and_eq_true] at h
 obtain⟨⟨⟨h1,h2⟩,h3⟩,h4⟩:=h
 have g2:=h2
 have g3:=h3
 unfold inB at g2 g3
 simp only[Bool.and_eq_true,decide_eq_true_eq] at g2 g3
 obtain⟨k,rfl⟩:∃k:Nat,i=(k:Int):=⟨i.toNat,by omega⟩
 have hk:k<gs.length:=by omega
 rw[Int.toNat_natCast] at h4
 have hlen:(delL gs k d).length=gs.length:=by unfold delL;simp
 have hback:delL (delL gs k d) k (-d)=gs:=by
  unfold delL
  rw[List.set_set,List.getElem?_set_self hk,ξg hk]
  simp only[Option.getD_some]
  have:delG (delG gs[k] d) (-d)=gs[k]:=by
   unfold delG
   obtain⟨x,s,e⟩:=gs[k]
   simp only
   rw[show s+d + -d=s by omega,show e+d + -d=e by omega]
  rw[this];exact List.set_getElem_self hk
 have hok2:ξad n (delL gs k d) (k:Int) (-d)=true:=by
  unfold ξad delOk0
  rw[h4,Int.toNat_natCast,hback,h1,hlen,h2]
  have:inB (-d) (-8) 8=true:=by unfold inB;simp;omega
  rw[this];rfl
 refine⟨k,rfl,hk,by unfold delR;rw[if_pos h0,Int.toNat_natCast],h4,hok2,by unfold delR;rw[if_pos hok2,Int.toNat_natCast,hback],fun j hj=> ?_,by omega,by omega,(ξaN h1).2.1⟩
 unfold delL
 rw[List.getElem?_set_ne (fun e=>hj e.symm)]
def DdP (w:World) (e:Ending) (w':World):Prop:=∃a1 m1 c1 a2 m2 c2 ag mg cg n gs,∃x y:Int,e= .returned (.tuple #[.agg #[.slice a1 m1 c1,.slice a2 m2 c2],.slice ag mg cg,.int .i64 x,.int .i64 y])∧NtD w' w.heap.size (.slice a1 m1 c1) (.slice a2 m2 c2) n∧GwR w' w.heap.size (.slice ag mg cg) gs∧gs.length≤14∧Below w.heap.size w w'
theorem per_rng:∀j,j<7→ ∃x:Int,-3≤x∧x≤9∧(#[.int .i64 0,.int .i64 1,.int .i64 2,.int .i64 (-1),.int .i64 (-3),.int .i64 8,.int .i64 9]:Array Value)[j]?= some (.int .i64 x)
 | 0,_=>⟨0,by omega,by omega,rfl⟩
 | 1,_=>⟨1,by omega,by omega,rfl⟩
 | 2,_=>⟨2,by omega,by omega,rfl⟩
 | 3,_=>⟨-1,by omega,by omega,rfl⟩
 | 4,_=>⟨-3,by omega,by omega,rfl⟩
 | 5,_=>⟨8,by omega,by omega,rfl⟩
 | 6,_=>⟨9,by omega,by omega,rfl⟩
 | j+7,h=>by omega
theorem drawDG_any (a:Option Addr) (len cap:Nat) (w:World) (h:RdB w (.slice a len cap)):
 Calls Tryz.prog 24 #[.slice a len cap] w (DdP w):=by
 obtain⟨NP,hNP⟩:∃NP,NP=DdP w:=⟨_,rfl⟩
 rw[←hNP]
 obtain⟨d1,d2,d3,d4⟩:=ξbu h 35 #[.slice none 0 0,.slice none 0 0]
 have HC2:=ξh d1
 have HR:=ξh d2
 have HB2:=ξh d3
 have HZ2:=ξh d4
 clear d1 d2 d3 d4 h
 go_enter Tryz.func24,Tryz.ntmps24
 go_upto_region 2 with fail
 generalize (w.alloc (.cells #[.slice none 0 0,.slice none 0 0] 35)).alloc (.cells #[.slice a len cap,.int .i64 0,.int .u64 0] 117)=w2 at *
 obtain⟨br,hq⟩:∃br,br=w.heap.size:=⟨_,rfl⟩
 obtain⟨B,hB⟩:∃B,B=w.heap.size+1:=⟨_,rfl⟩
 have hbr:w.heap.size≤br:=by omega
 have hBb:w.heap.size≤B:=by omega
 have hrB:br<B:=by omega
 rw[←hq] at HR
 rw[←hB] at HC2
 have hB2:B+1≤w2.heap.size:=by have:=HZ2.out;omega
 rw[←hB,←hq]
 clear hq hB HZ2
 go_wp2_with fail
 refine(ξbX B _ 0 w2 HC2.out (by omega)).mono ?_
 rintro e w3 ⟨u1,u2,n,rfl,-,hd,hc3⟩
 obtain⟨⟨a1,c1,rfl⟩,⟨a2,c2,rfl⟩⟩:=hd.slices
 have HR:=ξh (hc3.blk HR.out (by omega))
 have HBW:=ξh (hc3.belowAll HB2.out hBb)
 have CC:=ξh (HC2.here.call hc3)
 have HN:=ξh (hd.base hB2)
 clear hd hc3 HC2 HB2
 have hBw3:B<w3.heap.size:=CC.st.lt.1
 go_upto_region 3 with fail
 have ha:=(ξb w3.heap.size w3).alloc (ξr _) (.cells #[.slice a1 n.ns.length c1,.slice a2 n.fs.length c2] 35)
 have HX:=ξh (ξn w3 (.cells #[.slice a1 n.ns.length c1,.slice a2 n.fs.length c2] 35))
 have HR:=ξh (ξA HR.out ha)
 have HN:=ξh (HN.below ha)
 have HBW:=ξh (HBW.trans (ha.mono HBW.size))
 have CC:=ξh (CC.below ha)
 obtain⟨bx,hq⟩:∃bx,bx=w3.heap.size:=⟨_,rfl⟩
 have hxB:bx≠B:=by omega
 rw[←hq] at HX ⊢
 have hrx:br≠bx:=by omega
 have hrBn:br≠B:=by omega
 have HS4:=ξh (show B+1≤(w3.alloc (.cells #[.slice a1 n.ns.length c1,.slice a2 n.fs.length c2] 35)).heap.size by simp;omega)
 clear hq ha
 generalize w3.alloc (.cells #[.slice a1 n.ns.length c1,.slice a2 n.fs.length c2] 35)=w4 at *
 have y0:=blkc HX.out (j:=0) (u:= .slice a1 n.ns.length c1) rfl
 have y1:=blkc HX.out (j:=1) (u:= .slice a2 n.fs.length c2) rfl
 go_wp2_with fail
 refine(ξc7 B _ _ a1 a2 n.ns.length c1 n.fs.length c2 _ CC.st (by omega) HN.nl.1 HN.nl.2).mono ?_
 rintro e w5 ⟨v9,gs,rfl,r9,hg14,hcA⟩
 have HX:=ξh (hcA.blk HX.out hxB)
 have HR:=ξh (hcA.blk HR.out hrBn)
 have HN:=ξh (HN.cs hcA (by omega))
 have HBW:=ξh (hcA.belowAll HBW.out hBb)
 have HG:=ξh (SrR.lower r9 HS4.out)
 have CC:=ξh (CC.call hcA)
 obtain⟨ag,cg,rfl⟩:=SrR.form r9
 clear hcA r9 y0 y1 HS4
 have HSS:=ξh (fun(w':World) (hx:w'.heap[bx]?= some (.cells #[.slice a1 n.ns.length c1,.slice a2 n.fs.length c2] 35 (0,0)))=>show w'.cell? ⟨bx,0,none⟩=some (.slice a1 n.ns.length c1)∧w'.cell? ⟨bx,1,none⟩=some (.slice a2 n.fs.length c2) from⟨blkc hx rfl,blkc hx rfl⟩)
 have hwl:IntKind.i64.wrap ((gs.length:Int)+1)=(gs.length:Int)+1:=ξi _ (by omega)
 go_upto_region 4 with fail
 refine ξH [0,1,2,3,4,5,6,7,8,9,10,11,12,13,14,15,16,17] (S:=fun w'=>w'.cell? ⟨bx,0,none⟩=some (.slice a1 n.ns.length c1)∧w'.cell? ⟨bx,1,none⟩=some (.slice a2 n.fs.length c2)) (by kernel_rfl) (HSS.out _ (show w5.drew.heap[bx]?= _ from HX.out)) (fun hH=> ?_)
 have CC:=ξh CC.drew
 have HX:=ξh (show w5.drew.heap[bx]?= _ from HX.out)
 have HR:=ξh (show w5.drew.heap[br]?= _ from HR.out)
 have HN:=ξh (HN.below (ξb _ _).drew)
 have HG:=ξh (SrR.below HG.out (ξb _ _).drew)
 have HBW:=ξh HBW.drew
 obtain⟨wc,hwc⟩:∃wc,wc=w5.drew:=⟨_,rfl⟩
 rw[←hwc] at CC HX HR HN HG HBW hH ⊢
 clear hwc
 refine hlF 0 rfl hH ?_
 try simp only[Act.put,hlA,hlB,hlC]
 refine hlF 1 rfl hH ?_
 try simp only[Act.put,hlA,hlB,hlC]
 refine hlF 2 rfl hH ?_
 try simp only[Act.put,hlA,hlB,hlC]
 refine hlF 3 rfl hH ?_
 try simp only[Act.put,hlA,hlB,hlC]
 refine hlF 4 rfl hH ?_
 try simp only[Act.put,hlA,hlB,hlC]
 refine hlF 5 rfl hH ?_
 try simp only[Act.put,hlA,hlB,hlC]
 refine hlF 7 rfl hH ?_
 try simp only[Act.put,hlA,hlB,hlC]
 refine hlF 11 rfl hH ?_
 try simp only[Act.put,hlA,hlB,hlC]
 refine ξB (rs:=[6,12]) (by kernel_rfl) (by simp) ?_
 refine AllReadyL.cons rfl (fun KK hKK=> ?_) (AllReadyL.cons rfl (fun KK hKK=> ?_) AllReadyL.nil)
 go_simp
 go_at_call 72
 refine(ξX B _ _ ((gs.length:Int)+1) _ CC.st (by omega) (by omega) (by omega)).mono ?_
 rintro e wn ⟨xp,p0,p1,rfl,hcA,-⟩
 skip
 have HX:=ξh (hcA.blk HX.out hxB)
 have HR:=ξh (hcA.blk HR.out hrBn)
 have HN:=ξh (HN.cs hcA (by omega))
 have HG:=ξh (SrR.cs HG.out (by omega) hcA)
 have HBW:=ξh (hcA.belowAll HBW.out hBb)
 have CC:=ξh (CC.call hcA)
 clear hcA
 obtain⟨wc,hwc⟩:∃wc,wc=wn:=⟨_,rfl⟩
 subst hwc
 refine hKK.out _ _ (HSS.out _ HX.out) (fun hH=> ?_)
 clear hKK KK
 try simp only[Act.put,hlA,hlB,hlC]
 have R6:True:=trivial
 rotate_left 1
 go_simp
 obtain⟨bg,hbg⟩:∃bb,bb=wc.heap.size:=⟨_,rfl⟩
 have BA:Below wc.heap.size wc (wc.alloc (.cells #[.int .i64 0,.int .i64 1,.int .i64 2,.int .i64 (-1),.int .i64 (-3),.int .i64 8,.int .i64 9] 3)):=(ξb _ _).alloc (ξr _) _
 have HL:=ξn wc (.cells #[.int .i64 0,.int .i64 1,.int .i64 2,.int .i64 (-1),.int .i64 (-3),.int .i64 8,.int .i64 9] 3)
 have hgB:bg≠B:=by have:=CC.st.lt.1;omega
 rw[←hbg] at HL ⊢
 have HL:=ξh HL
 have HX:=ξh (ξA HX.out BA)
 have HR:=ξh (ξA HR.out BA)
 have HN:=ξh (HN.below BA)
 have HG:=ξh (SrR.below HG.out BA)
 have HBW:=ξh (HBW.trans (BA.mono HBW.size))
 have CC:=ξh (CC.below BA)
 clear hbg BA
 generalize wc.alloc (.cells #[.int .i64 0,.int .i64 1,.int .i64 2,.int .i64 (-1),.int .i64 (-3),.int .i64 8,.int .i64 9] 3)=wn at *
 obtain⟨wc,hwc⟩:∃wc,wc=wn:=⟨_,rfl⟩
 subst hwc
 refine hKK.out _ _ (HSS.out _ HX.out) (fun hH=> ?_)
 clear hKK KK
 try simp only[Act.put,hlA,hlB,hlC]
 have R12:True:=trivial
 rotate_left 1
 all_goals
  first
   | have hD:True:=R6
     clear hD
     refine ξB (rs:=[8,12]) (by kernel_rfl) (by simp) ?_
     refine AllReadyL.cons rfl (fun KK hKK=> ?_) (AllReadyL.cons rfl (fun KK hKK=> ?_) AllReadyL.nil)
     go_simp
     go_at_call 72
     refine(ξX B _ _ 20 _ CC.st (by omega) (by omega) (by omega)).mono ?_
     rintro e wn ⟨xq,q0,q1,rfl,hcA,-⟩
     skip
     have HX:=ξh (hcA.blk HX.out hxB)
     have HR:=ξh (hcA.blk HR.out hrBn)
     have HN:=ξh (HN.cs hcA (by omega))
     have HG:=ξh (SrR.cs HG.out (by omega) hcA)
     have HBW:=ξh (hcA.belowAll HBW.out hBb)
     have CC:=ξh (CC.call hcA)
     clear hcA
     obtain⟨wc,hwc⟩:∃wc,wc=wn:=⟨_,rfl⟩
     subst hwc
     refine hKK.out _ _ (HSS.out _ HX.out) (fun hH=> ?_)
     clear hKK KK
     try simp only[Act.put,hlA,hlB,hlC]
     have R8:True:=trivial
     refine hlF 9 rfl hH ?_
     try simp only[Act.put,hlA,hlB,hlC]
     refine hlF 10 rfl hH ?_
     try simp only[Act.put,hlA,hlB,hlC]
     rotate_left 1
     go_simp
     obtain⟨bg,hbg⟩:∃bb,bb=wc.heap.size:=⟨_,rfl⟩
     have BA:Below wc.heap.size wc (wc.alloc (.cells #[.int .i64 0,.int .i64 1,.int .i64 2,.int .i64 (-1),.int .i64 (-3),.int .i64 8,.int .i64 9] 3)):=(ξb _ _).alloc (ξr _) _
     have HL:=ξn wc (.cells #[.int .i64 0,.int .i64 1,.int .i64 2,.int .i64 (-1),.int .i64 (-3),.int .i64 8,.int .i64 9] 3)
     have hgB:bg≠B:=by have:=CC.st.lt.1;omega
     rw[←hbg] at HL ⊢
     have HL:=ξh HL
     have HX:=ξh (ξA HX.out BA)
     have HR:=ξh (ξA HR.out BA)
     have HN:=ξh (HN.below BA)
     have HG:=ξh (SrR.below HG.out BA)
     have HBW:=ξh (HBW.trans (BA.mono HBW.size))
     have CC:=ξh (CC.below BA)
     clear hbg BA
     generalize wc.alloc (.cells #[.int .i64 0,.int .i64 1,.int .i64 2,.int .i64 (-1),.int .i64 (-3),.int .i64 8,.int .i64 9] 3)=wn at *
     obtain⟨wc,hwc⟩:∃wc,wc=wn:=⟨_,rfl⟩
     subst hwc
     refine hKK.out _ _ (HSS.out _ HX.out) (fun hH=> ?_)
     clear hKK KK
     try simp only[Act.put,hlA,hlB,hlC]
     have R12:True:=trivial
     rotate_left 1
   | have hD:True:=R12
     clear hD
     refine ξB (rs:=[6]) (by kernel_rfl) (by simp) ?_
     refine AllReadyL.cons rfl (fun KK hKK=> ?_) AllReadyL.nil
     go_simp
     go_at_call 72
     refine(ξX B _ _ ((gs.length:Int)+1) _ CC.st (by omega) (by omega) (by omega)).mono ?_
     rintro e wn ⟨xp,p0,p1,rfl,hcA,-⟩
     have HL:=ξh (hcA.blk HL.out hgB)
     have HX:=ξh (hcA.blk HX.out hxB)
     have HR:=ξh (hcA.blk HR.out hrBn)
     have HN:=ξh (HN.cs hcA (by omega))
     have HG:=ξh (SrR.cs HG.out (by omega) hcA)
     have HBW:=ξh (hcA.belowAll HBW.out hBb)
     have CC:=ξh (CC.call hcA)
     clear hcA
     obtain⟨wc,hwc⟩:∃wc,wc=wn:=⟨_,rfl⟩
     subst hwc
     refine hKK.out _ _ (HSS.out _ HX.out) (fun hH=> ?_)
     clear hKK KK
     try simp only[Act.put,hlA,hlB,hlC]
     have R6:True:=trivial
 all_goals
  first
   | have hD:True:=(fun _ _=>trivial:True→True→True) R6 R8
     clear hD
     refine ξB (rs:=[12]) (by kernel_rfl) (by simp) ?_
     refine AllReadyL.cons rfl (fun KK hKK=> ?_) AllReadyL.nil
     go_simp
     obtain⟨bg,hbg⟩:∃bb,bb=wc.heap.size:=⟨_,rfl⟩
     have BA:Below wc.heap.size wc (wc.alloc (.cells #[.int .i64 0,.int .i64 1,.int .i64 2,.int .i64 (-1),.int .i64 (-3),.int .i64 8,.int .i64 9] 3)):=(ξb _ _).alloc (ξr _) _
     have HL:=ξn wc (.cells #[.int .i64 0,.int .i64 1,.int .i64 2,.int .i64 (-1),.int .i64 (-3),.int .i64 8,.int .i64 9] 3)
     have hgB:bg≠B:=by have:=CC.st.lt.1;omega
     rw[←hbg] at HL ⊢
     have HL:=ξh HL
     have HX:=ξh (ξA HX.out BA)
     have HR:=ξh (ξA HR.out BA)
     have HN:=ξh (HN.below BA)
     have HG:=ξh (SrR.below HG.out BA)
     have HBW:=ξh (HBW.trans (BA.mono HBW.size))
     have CC:=ξh (CC.below BA)
     clear hbg BA
     generalize wc.alloc (.cells #[.int .i64 0,.int .i64 1,.int .i64 2,.int .i64 (-1),.int .i64 (-3),.int .i64 8,.int .i64 9] 3)=wn at *
     obtain⟨wc,hwc⟩:∃wc,wc=wn:=⟨_,rfl⟩
     subst hwc
     refine hKK.out _ _ (HSS.out _ HX.out) (fun hH=> ?_)
     clear hKK KK
     try simp only[Act.put,hlA,hlB,hlC]
     have R12:True:=trivial
   | have hD:True:=(fun _ _=>trivial:True→True→True) R6 R12
     clear hD
     refine ξB (rs:=[8]) (by kernel_rfl) (by simp) ?_
     refine AllReadyL.cons rfl (fun KK hKK=> ?_) AllReadyL.nil
     go_simp
     go_at_call 72
     refine(ξX B _ _ 20 _ CC.st (by omega) (by omega) (by omega)).mono ?_
     rintro e wn ⟨xq,q0,q1,rfl,hcA,-⟩
     have HL:=ξh (hcA.blk HL.out hgB)
     have HX:=ξh (hcA.blk HX.out hxB)
     have HR:=ξh (hcA.blk HR.out hrBn)
     have HN:=ξh (HN.cs hcA (by omega))
     have HG:=ξh (SrR.cs HG.out (by omega) hcA)
     have HBW:=ξh (hcA.belowAll HBW.out hBb)
     have CC:=ξh (CC.call hcA)
     clear hcA
     obtain⟨wc,hwc⟩:∃wc,wc=wn:=⟨_,rfl⟩
     subst hwc
     refine hKK.out _ _ (HSS.out _ HX.out) (fun hH=> ?_)
     clear hKK KK
     try simp only[Act.put,hlA,hlB,hlC]
     have R8:True:=trivial
     refine hlF 9 rfl hH ?_
     try simp only[Act.put,hlA,hlB,hlC]
     refine hlF 10 rfl hH ?_
     try simp only[Act.put,hlA,hlB,hlC]
 all_goals
  refine ξB (rs:=[13]) (by kernel_rfl) (by simp) ?_
  refine AllReadyL.cons rfl (fun KK hKK=> ?_) AllReadyL.nil
  go_simp
  go_at_call 73
  refine(ξaw B _ _ bg 7 7 (-3) 9 _ CC.st (by omega) (by omega) (by omega) hgB (ξar HL.out per_rng)).mono ?_
  rintro e wn ⟨xr,r0,r1,rfl,hcA,-⟩
  have HX:=ξh (hcA.blk HX.out hxB)
  have HR:=ξh (hcA.blk HR.out hrBn)
  have HN:=ξh (HN.cs hcA (by omega))
  have HG:=ξh (SrR.cs HG.out (by omega) hcA)
  have HBW:=ξh (hcA.belowAll HBW.out hBb)
  have CC:=ξh (CC.call hcA)
  clear hcA
  clear HL hgB
  obtain⟨wc,hwc⟩:∃wc,wc=wn:=⟨_,rfl⟩
  subst hwc
  refine hKK.out _ _ (HSS.out _ HX.out) (fun hH=> ?_)
  clear hKK KK
  try simp only[Act.put,hlA,hlB,hlC]
  have R13:True:=trivial
 all_goals
  refine ξB (rs:=[14]) (by kernel_rfl) (by simp) ?_
  refine AllReadyL.cons rfl (fun KK hKK=> ?_) AllReadyL.nil
  have r0:=blkc HR.out (j:=0) (u:= .slice none 0 0) rfl
  have r1:=blkc HR.out (j:=1) (u:= .slice none 0 0) rfl
  have g0:wc.frozen? ⟨br,0,none⟩=false:=ξz _ _ _ _ _ HR.out
  have g1:wc.frozen? ⟨br,1,none⟩=false:=ξz _ _ _ _ _ HR.out
  go_simp
  have HX:=ξh ((ξm _ ⟨br,1,none⟩ bx (.slice a2 n.fs.length c2) (fun e=>hrx e.symm)).trans ((ξm wc ⟨br,0,none⟩ bx (.slice a1 n.ns.length c1) (fun e=>hrx e.symm)).trans HX.out))
  refine hKK.out _ _ (HSS.out _ HX.out) (fun hH=> ?_)
  clear hKK KK
  try simp only[Act.put,hlA,hlB,hlC]
  have R14:True:=trivial
 all_goals
  refine ξB (rs:=[15]) (by kernel_rfl) (by simp) ?_
  refine AllReadyL.cons rfl (fun KK hKK=> ?_) AllReadyL.nil
  go_simp
  refine hKK.out _ _ (HSS.out _ HX.out) (fun hH=> ?_)
  clear hKK KK
  try simp only[Act.put,hlA,hlB,hlC]
  have R15:True:=trivial
 all_goals
  refine ξB (rs:=[16]) (by kernel_rfl) (by simp) ?_
  refine AllReadyL.cons rfl (fun KK hKK=> ?_) AllReadyL.nil
  go_simp
  refine hKK.out _ _ (HSS.out _ HX.out) (fun hH=> ?_)
  clear hKK KK
  try simp only[Act.put,hlA,hlB,hlC]
  have R16:True:=trivial
 all_goals
  refine ξG 17 rfl (by kernel_rfl) (by kernel_rfl) (fun KK hKK=> ?_)
  go_simp
  refine hKK.out _ _ ?_
  clear hKK KK
  try simp only[Act.put,hlA,hlB,hlC]
  refine ξS (by kernel_rfl) ?_ _
 all_goals
  obtain⟨X,hX⟩:∃X,X=IntKind.i64.wrap (xp-IntKind.i64.wrap (xq.tdiv 19)):=⟨_,rfl⟩
  rw[←hX]
  clear hX r0 r1 g0 g1
  have s0:=ξe wc br 0 _ _ (.slice a1 n.ns.length c1) HR.out
  have s1:=ξe _ br 1 _ _ (.slice a2 n.fs.length c2) s0
  have BW9:=ξh ((HBW.setCell (p:=⟨br,0,none⟩) hbr (.slice a1 n.ns.length c1)).setCell (p:=⟨br,1,none⟩) hbr (.slice a2 n.fs.length c2))
  have hk:∀g,B+1≤g→((wc.setCell ⟨br,0,none⟩ (.slice a1 n.ns.length c1)).setCell ⟨br,1,none⟩ (.slice a2 n.fs.length c2)).heap[g]?= wc.heap[g]?:=fun g hg=>(ξm _ ⟨br,1,none⟩ g _ (by show g≠br;omega)).trans (ξm wc ⟨br,0,none⟩ g _ (by show g≠br;omega))
  have N9:=ξh ((HN.kept (fun g h1 _=>hk g h1)).base (show w.heap.size≤B+1 by omega))
  have G9:=ξh (SrR.lower (SrR.kept HG.out (fun g hg=>hk g (World.ownsRow.lt HG.out g hg).1)) (show w.heap.size≤B+1 by omega))
  have t0:=blkc s1 (j:=0) (u:= .slice a1 n.ns.length c1) rfl
  have t1:=blkc s1 (j:=1) (u:= .slice a2 n.fs.length c2) rfl
  clear s0 s1 hk
  go_wp2_with fail
  subst hNP
  exact bodyPost_ret (v:= .tuple #[.agg #[.slice a1 n.ns.length c1,.slice a2 n.fs.length c2],.slice ag gs.length cg,.int .i64 X,.int .i64 xr]) (by simp[results,Tryz.results24,go_sem,t0,t1]) rfl ⟨_,_,_,_,_,_,_,_,_,n,gs,X,xr,rfl,N9.out,G9.out,hg14,BW9.out⟩
theorem eqf_all {P:Program} {d:Nat} {xs:Array Value} {w:World} :∀fs:List Field,(∀f∈fs,∃a,(part f.type xs f.offset).run P w= .ok a w∧(Op.equalIn d f.type a a).run P w= .ok true w)→(Op.eqFields d xs xs fs).run P w= .ok true w
 | [],_=>by simp[Op.eqFields]
 | f::fs,h=>by
   obtain⟨a,h1,h2⟩:=h f (List.mem_cons_self ..)
   have ih:=eqf_all fs fun g hg=>h g (List.mem_cons_of_mem _ hg)
   rw[Op.eqFields]
   split
   · simp only[Sem.run_bind,h1,h2,Result.andThen_ok,Bool.not_true,Bool.false_eq_true,if_false,ih]
   · exact ih
theorem dem_eqd (d:Dem) (w:World):(Op.equalIn 9999 53 (.agg #[.int .i64 d.a,.int .i64 d.b,.int .i64 d.r,.int .i64 d.c]) (.agg #[.int .i64 d.a,.int .i64 d.b,.int .i64 d.r,.int .i64 d.c])).run Tryz.prog w= .ok true w:=by
 have hi:Tryz.prog.underlying 3=some (.int .i64):=by kernel_rfl
 have hf:(Tryz.prog.fieldsOf 53).toList.map (fun f=>(f.type,f.offset))=[(3,0),(3,1),(3,2),(3,3)]:=by kernel_rfl
 rw[run_equalIn_agg _ _ _ _ _ (by kernel_rfl) (by kernel_rfl)]
 generalize (Tryz.prog.fieldsOf 53).toList=fs at hf
 refine eqf_all _ fun f hm=> ?_
 have hm2:=List.mem_map_of_mem (f:=fun f:Field=>(f.type,f.offset)) hm
 rw[hf] at hm2
 simp only[List.mem_cons,List.not_mem_nil,or_false,Prod.mk.injEq] at hm2
 have key:∀(k:Nat) (z:Int),(#[.int .i64 d.a,.int .i64 d.b,.int .i64 d.r,.int .i64 d.c]:Array Value)[k]?= some (.int .i64 z)→ ∃a,(part 3 #[.int .i64 d.a,.int .i64 d.b,.int .i64 d.r,.int .i64 d.c] k).run Tryz.prog w= .ok a w∧(Op.equalIn 9998 3 a a).run Tryz.prog w= .ok true w:=by
  intro k z hk
  refine⟨.int .i64 z,?_,by rw[run_equalIn_int _ _ _ _ _ _ _ hi];simp⟩
  simp[part,go_sem,hi,hk]
 rcases hm2 with ⟨e1,e2⟩ | ⟨e1,e2⟩ | ⟨e1,e2⟩ | ⟨e1,e2⟩ <;> rw[e1,e2] <;> exact key _ _ rfl
theorem gro_eqd (g:Gro) (w:World):(Op.equalIn 10000 55 (.agg #[.int .i64 g.d.a,.int .i64 g.d.b,.int .i64 g.d.r,.int .i64 g.d.c,.int .i64 g.s,.int .i64 g.e]) (.agg #[.int .i64 g.d.a,.int .i64 g.d.b,.int .i64 g.d.r,.int .i64 g.d.c,.int .i64 g.s,.int .i64 g.e])).run Tryz.prog w= .ok true w:=by
 have hi:Tryz.prog.underlying 3=some (.int .i64):=by kernel_rfl
 have hD:Tryz.prog.underlying 53=some (.struct (Tryz.prog.fieldsOf 53)):=by kernel_rfl
 have hS:Tryz.prog.cellsOf 53=4:=by kernel_rfl
 have hf:(Tryz.prog.fieldsOf 55).toList.map (fun f=>(f.type,f.offset))=[(53,0),(3,4),(3,5)]:=by kernel_rfl
 rw[run_equalIn_agg _ _ _ _ _ (by kernel_rfl) (by kernel_rfl)]
 generalize (Tryz.prog.fieldsOf 55).toList=fs at hf
 refine eqf_all _ fun f hm=> ?_
 have hm2:=List.mem_map_of_mem (f:=fun f:Field=>(f.type,f.offset)) hm
 rw[hf] at hm2
 simp only[List.mem_cons,List.not_mem_nil,or_false,Prod.mk.injEq] at hm2
 have key:∀(k:Nat) (z:Int),(#[.int .i64 g.d.a,.int .i64 g.d.b,.int .i64 g.d.r,.int .i64 g.d.c,.int .i64 g.s,.int .i64 g.e]:Array Value)[k]?= some (.int .i64 z)→ ∃a,(part 3 #[.int .i64 g.d.a,.int .i64 g.d.b,.int .i64 g.d.r,.int .i64 g.d.c,.int .i64 g.s,.int .i64 g.e] k).run Tryz.prog w= .ok a w∧(Op.equalIn 9999 3 a a).run Tryz.prog w= .ok true w:=by
  intro k z hk
  refine⟨.int .i64 z,?_,by rw[run_equalIn_int _ _ _ _ _ _ _ hi];simp⟩
  simp[part,go_sem,hi,hk]
 rcases hm2 with ⟨e1,e2⟩ | ⟨e1,e2⟩ | ⟨e1,e2⟩ <;> rw[e1,e2]
 · refine⟨.agg #[.int .i64 g.d.a,.int .i64 g.d.b,.int .i64 g.d.r,.int .i64 g.d.c],?_,dem_eqd g.d w⟩
   simp[part,go_sem,hD,hS]
 · exact key _ _ rfl
 · exact key _ _ rfl
end Go.Proofs.YtofcicomhnkocaaGreat
