/- FnPlanning: the walk of the law. -/
import Derived.Test.YtofcicomhnkocaaGreatBx42
set_option linter.unusedVariables false
namespace Go.Proofs.YtofcicomhnkocaaGreat
set_option maxHeartbeats 12800000
open Go.RowKit Go.Sort
set_option maxRecDepth 100000
theorem plaR_no {n:Net} {fs:List Fmt} {gs:List Gro} {p:Int} (h:plaK n fs gs p=false):(plaR n fs gs p).ls=[]:=by
 unfold plaR
 cases hO:ξR n fs gs with
 | none=>rfl
 | some x=>
   obtain⟨ps,r⟩:=x
   simp only
   rw[if_neg]
   intro hp
   unfold plaK at h
   rw[(ξaf hO).2.2,hp] at h
   cases h
theorem actR_yes {n:Net} {gs:List Gro} {p:Int} (h:actOk n gs p=true):actR n gs p=actI gs p gs.length:=by unfold actR;rw[if_pos h]
theorem useH_yes {n:Net} {fs:List Fmt} {gs:List Gro} (h:ξa0 n fs gs=true):useH n fs gs=useT n fs gs 8:=by unfold useH;rw[if_pos h]
theorem sumK_U {ls:List Lgt} {nf:Nat} (h0:∀x∈ls,∀f∈x.fb,0≤f):sumK (ξa5 ls nf) nf=sumU ls nf:=sumK_R nf fun i hi=>by rw[ξaX hi h0]
theorem pln_sl {w:World} {P:Pln} {v:Value} {fp:List Nat} (h:PlnO w P v fp):∃b1 k1 d1 b2 k2 d2 b3 d3,v= .agg #[.slice b1 k1 d1,.slice b2 k2 d2,.slice b3 P.ls.length d3]:=by
 obtain⟨a1,n1,c1,a2,n2,c2,a3,n3,c3,e⟩:=h.form
 obtain⟨u1,u2,u3,f1,f2,f3,e2,-,-,h3,-⟩:=h
 rw[e] at e2
 simp only[Value.agg.injEq,Array.mk.injEq,List.cons.injEq,and_true] at e2
 obtain⟨-,-,rfl⟩:=e2
 obtain⟨a,m,c,e3,HN,-⟩:=ξa1 h3.rd
 cases e3
 rw[HN.out]
 exact⟨_,_,_,_,_,_,_,_,e⟩
theorem actI_bd {gs:List Gro} {p:Int} {k i:Nat} (hi:i<(actI gs p k).length):0≤(actI gs p k)[i]?.getD 0∧(actI gs p k)[i]?.getD 0<k:=by
 rw[ξg hi,Option.getD_some]
 have hm:=ξj hi
 generalize (actI gs p k)[i]=x at hm ⊢
 unfold actI at hm
 obtain⟨j,hj,e⟩:=List.mem_map.1 hm
 have h1:=List.mem_range.1 (List.mem_filter.1 hj).1
 have e2:x=(j:Int):=e.symm
 omega
theorem actOk_len {n:Net} {gs:List Gro} {p:Int} (h:actOk n gs p=true):gs.length≤12:=by
 unfold actOk at h
 rw[Bool.and_eq_true] at h
 exact(ξaN h.1).2.1
theorem rd_cells {w:World} {a:Option Addr} {m c:Nat} {xs:List Int} (h:Rd w (.slice a m c) xs):xs.length=m∧m≤9223372036854775807∧ ∀k,k<m→ ∃b off,a=some ⟨b,off,none⟩∧w.cell? ⟨b,off+k,none⟩=some (.int .i64 (xs[k]?.getD 0)):=by
 obtain⟨a',c',m',HM,e,-,h63,ha⟩:=h.opn
 cases e
 refine⟨HM.out,h63,fun k hk=> ?_⟩
 obtain⟨b,off,e,hb,hc⟩:=ha (by omega)
 exact⟨b,off,e,hc k hk⟩
theorem FnPlanning_walk (a0:Option Addr) (len0 cap0:Nat) (z0:List Int) (w:World) (hr:RawB w a0 len0 cap0 z0):
 Calls Tryz.prog 9 #[.slice a0 len0 cap0] w fun e w'=>e= .returned (.bool true)∧Below w.heap.size w w':=by
 show Calls Tryz.prog 9 #[.slice a0 len0 cap0] w (LwP w)
 by_cases hbig:(65536:Int)<(len0:Int)
 · have hd:decide ((65536:Int)<(len0:Int))=true:=by simpa using hbig
   go_enter Tryz.func9,Tryz.ntmps9
   go_wp2_with fail
   refine(ξb8 _ _ _ _).mono ?_
   rintro e w' ⟨rfl,rfl⟩
   go_wp2
   go_ret
   exact⟨rfl,ξb _ _⟩
 have hd:decide ((65536:Int)<(len0:Int))=false:=by simpa using hbig
 have hrd:=hr.rd (by omega)
 obtain⟨NP,hNP⟩:∃NP,NP=LwP w:=⟨_,rfl⟩
 rw[←hNP]
 have HNP:=ξh hNP
 have HRD:=ξh hrd
 clear hr hrd hNP
 go_enter Tryz.func9,Tryz.ntmps9
 go_wp2_with fail
 refine(ξb8 _ _ _ _).mono ?_
 rintro e w' ⟨rfl,rfl⟩
 go_wp2_with fail
 refine(drawPA_any a0 len0 cap0 w HRD.out).mono ?_
 rintro e w1 ⟨a1,m1,c1,a2,m2,c2,af,mf,cf,ag,mg,cg,n,gs,p,rfl,hg,hb1⟩
 obtain⟨fs,hn1,hf1,hg1⟩:=hg.rd
 have HB1:=ξh hb1
 have HSM:=ξh (show NetSm n from by obtain⟨_,_,_,_,_,h⟩:=hn1;exact h)
 have HW:=ξh (fun w' (hb:Below w1.heap.size w1 w')=>(⟨hn1.behind hb,hf1.behind hb,hg1.behind hb⟩:NetR w' (.agg #[.slice a1 m1 c1,.slice a2 m2 c2]) n∧Rdt w' (flt 2 fmE fs) (.slice af mf cf)∧Rdt w' (flt 6 groE gs) (.slice ag mg cg)))
 clear hg hb1 hn1 hf1 hg1 HRD hd hbig
 go_upto_region 4 with fail
 have ha:=(ξb w1.heap.size w1).alloc (ξr _) (.cells #[.slice a1 m1 c1,.slice a2 m2 c2] 35)
 have HX:=ξh (ξn w1 (.cells #[.slice a1 m1 c1,.slice a2 m2 c2] 35))
 have HBW:=ξh ha
 obtain⟨bn,hq⟩:∃bn,bn=w1.heap.size:=⟨_,rfl⟩
 rw[←hq] at HX ⊢
 generalize w1.alloc (.cells #[.slice a1 m1 c1,.slice a2 m2 c2] 35)=w2 at *
 clear hq ha
 have y0:=blkc HX.out (j:=0) (u:= .slice a1 m1 c1) rfl
 have y1:=blkc HX.out (j:=1) (u:= .slice a2 m2 c2) rfl
 have HBD:=ξh (plaR_bd (n:=n) (fs:=fs) (gs:=gs) (p:=p) HSM.out)
 have HNO:=ξh (fun h=>plaR_no (n:=n) (fs:=fs) (gs:=gs) (p:=p) h)
 have HYES:=ξh (fun h=>plg_law (n:=n) (fs:=fs) (gs:=gs) (p:=p) h)
 go_wp2_with fail
 refine(implPla_any p _ _ _ n fs gs _ (HW.out _ HBW.out).1 (HW.out _ HBW.out).2.1 (HW.out _ HBW.out).2.2).mono ?_
 rintro e w3 ⟨v3,fp3,rfl,o3,-,-,b3⟩
 obtain⟨p1,k1,d1,p2,k2,d2,p3,d3,rfl⟩:=pln_sl o3
 have HPR:=ξh (o3.rd HBD.1)
 have HX:=ξh (ξA HX.out b3)
 have HBW:=ξh (HBW.trans (b3.mono HBW.size))
 clear o3 b3 y0 y1
 go_upto_region 5 with fail
 have ha:=(ξb w3.heap.size w3).alloc (ξr _) (.cells #[.slice p1 k1 d1,.slice p2 k2 d2,.slice p3 (plaR n fs gs p).ls.length d3] 75)
 have HY:=ξh (ξn w3 (.cells #[.slice p1 k1 d1,.slice p2 k2 d2,.slice p3 (plaR n fs gs p).ls.length d3] 75))
 have HX:=ξh (ξA HX.out ha)
 have HBW:=ξh (HBW.trans (ha.mono HBW.size))
 have HPR:=ξh (HPR.behind ha)
 obtain⟨b7,hq⟩:∃b7,b7=w3.heap.size:=⟨_,rfl⟩
 rw[←hq] at HY ⊢
 generalize w3.alloc (.cells #[.slice p1 k1 d1,.slice p2 k2 d2,.slice p3 (plaR n fs gs p).ls.length d3] 75)=w4 at *
 clear hq ha
 have y0:=blkc HX.out (j:=0) (u:= .slice a1 m1 c1) rfl
 have y1:=blkc HX.out (j:=1) (u:= .slice a2 m2 c2) rfl
 go_wp2_with fail
 refine(specPla_any p _ _ _ n fs gs _ (HW.out _ HBW.out).1 (HW.out _ HBW.out).2.1 (HW.out _ HBW.out).2.2).mono ?_
 rintro e w5 ⟨v5,fp5,rfl,o5,-,-,b5⟩
 obtain⟨r1,s1,t1,r2,s2,t2,r3,t3,rfl⟩:=pln_sl o5
 have HX:=ξh (ξA HX.out b5)
 have HY:=ξh (ξA HY.out b5)
 have HPR:=ξh (HPR.behind b5)
 have HBW:=ξh (HBW.trans (b5.mono HBW.size))
 clear o5 b5 y0 y1
 go_upto_region 6 with fail
 have ha:=(ξb w5.heap.size w5).alloc (ξr _) (.cells #[.slice r1 s1 t1,.slice r2 s2 t2,.slice r3 (plaR n fs gs p).ls.length t3] 75)
 have HX6:=ξh (ξA HX.out ha)
 have HY6:=ξh (ξA HY.out ha)
 have HPR6:=ξh (HPR.behind ha)
 have HBW6:=ξh (HBW.trans (ha.mono HBW.size))
 generalize w5.alloc (.cells #[.slice r1 s1 t1,.slice r2 s2 t2,.slice r3 (plaR n fs gs p).ls.length t3] 75)=w6 at *
 clear ha
 repeat clear HX
 repeat clear HY
 repeat clear HPR
 repeat clear HBW
 cases hok:plaK n fs gs p
 · have HX:=HX6
   have HY:=HY6
   have HPR:=HPR6
   have HBW:=HBW6
   clear HX6 HY6 HPR6 HBW6
   have h0:=HNO.out hok
   have h3T:(((plaR n fs gs p).ls.length:Int)==0)=true:=by rw[h0];rfl
   have z2:=blkc HY.out (j:=2) (u:= .slice p3 (plaR n fs gs p).ls.length d3) rfl
   have HB5:=ξh (HB1.trans (HBW.mono HB1.size))
   clear h0 hok
   go_wp2_with fail
   rw[HNP.out]
   exact LwP.mk HB5.out
 · obtain⟨ls,q1,q2,q3,q4,q5,q6,q7,q8,q9,q10⟩:=HYES.out hok
   rw[q1] at HPR6 HY6 ⊢
   dsimp only at HPR6 HY6 ⊢
   have HX:=HX6
   have HY:=HY6
   have HPR:=HPR6
   have HBW:=HBW6
   clear HX6 HY6 HPR6 HBW6
   obtain⟨t,rfl⟩:∃t:Nat,p=(t:Int):=⟨p.toNat,by omega⟩
   rw[Int.toNat_natCast] at q10
   have ht8:t<8:=by omega
   have HPL:=ξh q2
   have HLS:=ξh q3
   have HNK:=ξh q4
   have HAC:=ξh q5
   have HPK:=ξh q6
   have HW9:=ξh q9
   have HU:=ξh q10
   have HT8:=ξh ht8
   clear q1 q2 q3 q4 q5 q6 q7 q8 q9 q10 HYES HNO HBD hok ht8
   have y0:=blkc HX.out (j:=0) (u:= .slice a1 m1 c1) rfl
   have y1:=blkc HX.out (j:=1) (u:= .slice a2 m2 c2) rfl
   go_wp2_with fail
   refine(ξbP _ _ _ n fs gs _ (HW.out _ HBW.out).1 (HW.out _ HBW.out).2.1 (HW.out _ HBW.out).2.2).mono ?_
   rintro e w7 ⟨v11,rfl,o11,b⟩
   obtain⟨a11,m11,c11,rfl,-,hr11⟩:=ofr_sl o11
   rw[HPK.out]
   have HR11:=ξh hr11
   have HX:=ξh (ξA HX.out b)
   have HY:=ξh (ξA HY.out b)
   have HPR:=ξh (HPR.behind b)
   have HBW:=ξh (HBW.trans (b.mono HBW.size))
   clear o11 b y0 y1 hr11
   have y0:=blkc HX.out (j:=0) (u:= .slice a1 m1 c1) rfl
   have y1:=blkc HX.out (j:=1) (u:= .slice a2 m2 c2) rfl
   go_wp2_with fail
   refine(implActive_any _ _ n gs (t:Int) _ (HW.out _ HBW.out).1 (HW.out _ HBW.out).2.2).mono ?_
   rintro e w8 ⟨v13,rfl,o13,b⟩
   obtain⟨a13,m13,c13,rfl,-,hr13⟩:=ofr_sl o13
   rw[actR_yes HAC.out] at hr13
   rw[HAC.out]
   have HR13:=ξh hr13
   have HR11:=ξh (HR11.belowAll b)
   have HX:=ξh (ξA HX.out b)
   have HY:=ξh (ξA HY.out b)
   have HPR:=ξh (HPR.behind b)
   have HBW:=ξh (HBW.trans (b.mono HBW.size))
   clear o13 b y0 y1 hr13
   have y0:=blkc HX.out (j:=0) (u:= .slice a1 m1 c1) rfl
   have y1:=blkc HX.out (j:=1) (u:= .slice a2 m2 c2) rfl
   go_wp2_with fail
   refine(ξcK _ _ _ n fs gs _ (HW.out _ HBW.out).1 (HW.out _ HBW.out).2.1 (HW.out _ HBW.out).2.2).mono ?_
   rintro e w9 ⟨v15,rfl,o15,b⟩
   obtain⟨a15,m15,c15,rfl,-,hr15⟩:=ofr_sl o15
   have HV:=ξh (ξbQ (.slice a11 m11 c11) (.slice a15 m15 c15) (ξai n fs gs) (ξai n fs gs) w9 (HR11.belowAll b) hr15)
   rw[eqL_refl] at HV
   rw[HPK.out]
   have HR11:=ξh (HR11.belowAll b)
   have HR13:=ξh (HR13.belowAll b)
   have HX:=ξh (ξA HX.out b)
   have HY:=ξh (ξA HY.out b)
   have HPR:=ξh (HPR.behind b)
   have HBW:=ξh (HBW.trans (b.mono HBW.size))
   clear o15 b y0 y1 hr15
   go_wp2_with fail
   refine HV.mono ?_
   rintro e w10 ⟨rfl,hd10⟩
   have b:Below w9.heap.size w9 w10:=hd10.below (ξb _ _)
   have HR11:=ξh (HR11.belowAll b)
   have HR13:=ξh (HR13.belowAll b)
   have HX:=ξh (ξA HX.out b)
   have HY:=ξh (ξA HY.out b)
   have HPR:=ξh (HPR.behind b)
   have HBW:=ξh (HBW.trans (b.mono HBW.size))
   clear hd10 b HV
   have HFB:=ξh (show∀i:Nat,(lgA ⟨n,ls⟩ i).fb.length≤1100000 from fun i=>by
    show(ls[i]?.getD nilL).fb.length≤1100000
    by_cases hi:i<ls.length
    · rw[ξg hi]
      exact ξs (HLS.fb HNK.out _ (ξj hi)) (by decide)
    · rw[List.getElem?_eq_none (by omega)];exact ξu _)
   have z0:=blkc HY.out (j:=0) (u:= .slice p1 k1 d1) rfl
   have z1:=blkc HY.out (j:=1) (u:= .slice p2 k2 d2) rfl
   have z2:=blkc HY.out (j:=2) (u:= .slice p3 ls.length d3) rfl
   go_wp2_with fail
   refine(ξbR _ ⟨n,ls⟩ _ HPR.out HFB.out).mono ?_
   rintro e w11 ⟨rfl,b⟩
   rw[HPL.out]
   have HR11:=ξh (HR11.belowAll b)
   have HR13:=ξh (HR13.belowAll b)
   have HX:=ξh (ξA HX.out b)
   have HY:=ξh (ξA HY.out b)
   have HPR:=ξh (HPR.behind b)
   have HBW:=ξh (HBW.trans (b.mono HBW.size))
   clear b z0 z1 z2
   have HG12:=ξh (actOk_len HAC.out)
   have HAB:=ξh (fun i hi=>actI_bd (gs:=gs) (p:=(t:Int)) (k:=gs.length) (i:=i) hi)
   have HPB:=ξh (fun xs k hk=>wantI_take (bl:=ξai n fs gs) (xs:=xs) (k:=k) hk)
   have HAL:=ξh (actI_len gs (t:Int) gs.length)
   generalize ξai n fs gs=bl at *
   generalize actI gs (t:Int) gs.length=act at *
   have HO:=ξh (ξaG w11 3)
   have HB:=ξh ((ξb w11.heap.size w11).alloc (ξr _) (.cells #[] 3))
   go_wp2_with fail
   obtain⟨bo,hbo⟩:∃bo,bo=w11.heap.size:=⟨_,rfl⟩
   rw[←hbo] at HO ⊢
   have HBO:=ξh hbo
   clear hbo
   generalize w11.alloc (.cells #[] 3)=w12 at *
   go_loopw [17,18] (fun s17 i wr=>∃(k:Nat) (ao:Option Addr) (no co:Nat),k≤m13∧i= .int .i64 k∧s17= .slice ao no co∧Hid (Own wr bo (.slice ao no co) (wantI bl (act.take k)))∧Hid (Below w11.heap.size w11 wr)) (fun _ i _=>m13-(intOf i).toNat)
   case atStart=>exact⟨0,_,_,_,ξu _,rfl,rfl,HO.out,HB.out⟩
   case round=>
    clear HO HB
    obtain⟨k,ao,no,co,hk,rfl,rfl,HO,HB⟩:=hrel
    obtain⟨hl13,h63,hc13⟩:=rd_cells (HR13.belowAll HB.out)
    by_cases hlt:k<m13
    · have hltI:(k:Int)<(m13:Int):=by omega
      obtain⟨b13,o13,rfl,c0⟩:=hc13 k hlt
      have hyb:=HAB.out k (by omega)
      have HST:=ξh (HPB.out act k (by omega))
      have hwl:(wantI bl (act.take k)).length≤4000000:=by
       have h1:=wantI_len bl (act.take k)
       rw[List.length_take] at h1
       have:=HG12.out;have:=HAL.out
       omega
      generalize act[k]?.getD 0=y at *
      have hy12:y<13:=by have:=HG12.out;omega
      have hy0:0≤y:=hyb.1
      have hw1:IntKind.i64.wrap (y+1)=y+1:=ξi _ (by omega)
      have HVH:=ξh (vHas_any (.slice a11 m11 c11) bl y wr (HR11.belowAll HB.out))
      clear hc13 hyb
      by_cases hcb:bl.contains y=true
      · rw[if_pos hcb] at HST
        rw[hcb] at HVH
        go_wp2_with fail
        refine HVH.mono ?_
        rintro e w' ⟨rfl,rfl⟩
        go_wp2_with fail
        go_roundw
        case rel=>exact⟨k+1,ao,no,co,hlt,by go_num,rfl,by rw[HST.out];exact HO.out,HB.out⟩
        case measure=>simp[intOf];omega
      · rw[if_neg hcb] at HST
        have hcf:bl.contains y=false:=by simpa using hcb
        rw[hcf] at HVH
        have hsz:bo≤wr.heap.size:=by rw[HBO.out];exact HB.size
        go_wp2_with fail
        refine HVH.mono ?_
        rintro e w' ⟨rfl,rfl⟩
        go_wp2_with (at_builtin;(refine ξa6 rfl (.tmp 118) (.tmp 124) 58 rfl Tryz.underlying58 Tryz.infoI bo (.slice ao no co) _ rfl HO.out rfl hwl hsz ?_);(intro v8 w8 o8 g8 l8);(have O8:=ξh o8);(have B8:=ξh (HB.grown g8 HB.size (fun q hq=>by have:=(HO.lt q hq).1;have:=HBO.out;omega)));(obtain⟨a8,n8,c8,rfl⟩:∃a n c,v8= .slice a n c:=ξag o8);(clear o8 g8 l8))
        go_roundw
        case rel=>exact⟨k+1,_,_,_,hlt,by go_num,rfl,by rw[HST.out];exact O8.out,B8.out⟩
        case measure=>simp[intOf];omega
    · have hltI:¬(k:Int)<(m13:Int):=by omega
      obtain rfl:k=m13:=by omega
      have HO:=ξh (show Own wr bo (.slice ao no co) (ls.map (·.id)) from by have h:=HO.out;rw[List.take_of_length_le (by omega),HW9.out] at h;exact h)
      obtain⟨hln,-,hcn⟩:=rd_cells HO.rd
      rw[List.length_map] at hln
      have HX:=ξh (ξA HX.out HB.out)
      have HY:=ξh (ξA HY.out HB.out)
      have HPR:=ξh (HPR.behind HB.out)
      have HBW:=ξh (HBW.trans (HB.mono HBW.size))
      have z2:=blkc HY.out (j:=2) (u:= .slice p3 ls.length d3) rfl
      have hnn:((no:Int) != (ls.length:Int))=false:=by rw[hln];simp
      have HLN:=ξh hln
      have HRO:=ξh HO.rd
      clear hln hcn hlt hltI hl13 h63 hc13 HO HB HR11 HR13 HAB HPB HW9
      obtain⟨wo,hwo⟩:∃wo,wo=wr:=⟨_,rfl⟩
      subst hwo
      have HB:=ξh (ξb wo.heap.size wo)
      go_wp2_with fail
      go_loopw [19] (fun i wr=>∃j:Nat,j≤no∧i= .int .i64 j∧Hid (Below wo.heap.size wo wr)) (fun i _=>no-(intOf i).toNat)
      case atStart=>exact⟨0,ξu _,rfl,HB.out⟩
      case round=>
       clear HB
       obtain⟨j,hj,rfl,HB⟩:=hrel
       by_cases hlt:j<no
       · have hltI:(j:Int)<(no:Int):=by omega
         obtain⟨-,h64,hcw⟩:=rd_cells (HRO.belowAll HB.out)
         obtain⟨bi,oi,rfl,ci⟩:=hcw j hlt
         have z2:=blkc (ξA HY.out HB.out) (j:=2) (u:= .slice p3 ls.length d3) rfl
         obtain⟨u1,u2,u3,e3,-,-,h3,-⟩:=HPR.behind HB.out
         simp only[Value.agg.injEq,Array.mk.injEq,List.cons.injEq,and_true] at e3
         obtain⟨-,-,rfl⟩:=e3
         obtain⟨aL,nL,cL,e4,-,-,hl64,hl4⟩:=ξa1 h3
         cases e4
         have hjl:j<ls.length:=by have:=HLN.out;omega
         have hjlI:(j:Int)<(ls.length:Int):=by omega
         obtain⟨bL,oL,rfl,-,hcl⟩:=hl4 (by omega)
         obtain⟨u,cl0,-⟩:=hcl j hjl
         have he:(ls.map (·.id))[j]?.getD 0=(ls[j]?.getD nilL).id:=by rw[List.getElem?_map,ξg hjl];rfl
         rw[he] at ci
         clear he hcw hcl hl4 h3
         generalize (ls[j]?.getD nilL).id=z at *
         have hzz:(z != z)=false:=by simp
         go_wp2_with fail
         go_quiet (fail)
         rename_i nq
         have HB7:=ξh (ξaJ HB.out nq)
         generalize wr.drewN nq=w7 at *
         go_wp2_with fail
         go_roundw
         case rel=>exact⟨j+1,hlt,by go_num,HB7.out⟩
         case measure=>simp[intOf];omega
       · have hltI:¬(j:Int)<(no:Int):=by omega
         have HX:=ξh (ξA HX.out HB.out)
         have HY:=ξh (ξA HY.out HB.out)
         have HPR:=ξh (HPR.behind HB.out)
         have HBW:=ξh (HBW.trans (HB.mono HBW.size))
         clear z2 hnn HLN HRO HB hj hlt
         have y0:=blkc HX.out (j:=0) (u:= .slice a1 m1 c1) rfl
         have y1:=blkc HX.out (j:=1) (u:= .slice a2 m2 c2) rfl
         go_wp2_with fail
         refine(implUses_any _ _ _ n fs gs _ (HW.out _ HBW.out).1 (HW.out _ HBW.out).2.1 (HW.out _ HBW.out).2.2).mono ?_
         rintro e w14 ⟨v20,rfl,o20,b⟩
         obtain⟨a20,m20,c20,rfl,-,hr20⟩:=ofr_sl o20
         rw[HPK.out]
         rw[useH_yes HPK.out] at hr20
         have HR20:=ξh hr20
         have HY:=ξh (ξA HY.out b)
         have HPR:=ξh (HPR.behind b)
         have HBW:=ξh (HBW.trans (b.mono HBW.size))
         clear o20 b y0 y1 hr20
         have z0:=blkc HY.out (j:=0) (u:= .slice p1 k1 d1) rfl
         have z1:=blkc HY.out (j:=1) (u:= .slice p2 k2 d2) rfl
         have z2:=blkc HY.out (j:=2) (u:= .slice p3 ls.length d3) rfl
         have HSU:=ξh (sumK_U (ls:=ls) (nf:=n.fs.length) (fun x hx f hf=>((HLS.lgo HNK.out x hx).1 f hf).1))
         go_wp2_with fail
         refine(specUse_any _ ⟨n,ls⟩ _ HPR.out HPL.out (ξM HNK.out).2.2.1 (HLS.lgo HNK.out) HFB.out).mono ?_
         rintro e w15 ⟨rfl,b⟩
         dsimp only
         rw[HSU.out]
         have HBW:=ξh (HBW.trans (b.mono HBW.size))
         obtain⟨hl20,-,hc20⟩:=rd_cells (HR20.belowAll b)
         rw[useT_len] at hl20
         subst hl20
         obtain⟨bu,ou,rfl,cu⟩:=hc20 t HT8.out
         rw[HU.out] at cu
         have HB9:=ξh (HB1.trans (HBW.mono HB1.size))
         clear hc20 HSU HU b z0 z1 z2
         generalize sumU ls n.fs.length=su at *
         have ht8:=HT8.out
         have ht8I:(t:Int)<8:=by omega
         have hss:(su==su)=true:=by simp
         go_wp2_with fail
         rw[HNP.out]
         exact LwP.mk HB9.out
end Go.Proofs.YtofcicomhnkocaaGreat
