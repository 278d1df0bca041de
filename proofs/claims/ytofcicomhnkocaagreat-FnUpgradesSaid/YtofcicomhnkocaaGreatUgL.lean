/- FnUpgrades: the walk of the law. -/
import Derived.Test.YtofcicomhnkocaaGreatBx44
set_option linter.unusedVariables false
namespace Go.Proofs.YtofcicomhnkocaaGreat
set_option maxHeartbeats 12800000
open Go.RowKit Go.Sort
set_option maxRecDepth 100000
theorem upL_yes {n:Net} {fs:List Fmt} {gs:List Gro} {l:Int} (h:upK n fs gs l=true):upL n fs gs l=upT n fs gs l n.fs.length:=by unfold upL;rw[if_pos h]
theorem upK_parts {n:Net} {fs:List Fmt} {gs:List Gro} {l:Int} (h:upK n fs gs l=true):ξa0 n fs gs=true∧inB l 0 24=true:=by
 unfold upK at h;rw[Bool.and_eq_true] at h;exact h
theorem FnUpgrades_walk (a0:Option Addr) (len0 cap0:Nat) (z0:List Int) (w:World) (hr:RawB w a0 len0 cap0 z0):
 Calls Tryz.prog 7 #[.slice a0 len0 cap0] w fun e w'=>e= .returned (.bool true)∧Below w.heap.size w w':=by
 show Calls Tryz.prog 7 #[.slice a0 len0 cap0] w (LwP w)
 by_cases hbig:(65536:Int)<(len0:Int)
 · have hd:decide ((65536:Int)<(len0:Int))=true:=by simpa using hbig
   go_enter Tryz.func7,Tryz.ntmps7
   go_wp2_with fail
   refine(ξb8 _ _ _ _).mono ?_
   rintro e w' ⟨rfl,rfl⟩
   go_wp2
   go_ret
   exact⟨rfl,ξb _ _⟩
 have hd:decide ((65536:Int)<(len0:Int))=false:=by simpa using hbig
 have hrd:=hr.rd (by omega)
 obtain⟨NP,hNP⟩:∃NP,NP=LwP w:=⟨_,rfl⟩
 rw[←hNP]
 have HNP:=ξh hNP
 have HRD:=ξh hrd
 clear hr hrd hNP
 go_enter Tryz.func7,Tryz.ntmps7
 go_wp2_with fail
 refine(ξb8 _ _ _ _).mono ?_
 rintro e w' ⟨rfl,rfl⟩
 go_wp2_with fail
 refine(drawUP_any a0 len0 cap0 w HRD.out).mono ?_
 rintro e w1 ⟨a1,m1,c1,a2,m2,c2,af,mf,cf,ag,mg,cg,n,gs,l,rfl,hg,hb1⟩
 obtain⟨fs,hn1,hf1,hg1⟩:=hg.rd
 have HB1:=ξh hb1
 have HW:=ξh (fun w' (hb:Below w1.heap.size w1 w')=>(⟨hn1.behind hb,hf1.behind hb,hg1.behind hb⟩:NetR w' (.agg #[.slice a1 m1 c1,.slice a2 m2 c2]) n∧Rdt w' (flt 2 fmE fs) (.slice af mf cf)∧Rdt w' (flt 6 groE gs) (.slice ag mg cg)))
 have HM2:=ξh (show n.fs.length=m2 from by
  obtain⟨u1,u2,e,-,r2,-⟩:=hn1
  simp only[Value.agg.injEq,Array.mk.injEq,List.cons.injEq,and_true] at e
  obtain⟨-,rfl⟩:=e
  obtain⟨a,m,c,e2,HN,-⟩:=ξC (m:=4) (enc:=fibE) (fun _=>rfl) (by omega) nilB r2
  cases e2
  exact HN.out)
 clear hg hb1 hn1 hf1 hg1 HRD hd hbig
 go_upto_region 4 with fail
 have ha:=(ξb w1.heap.size w1).alloc (ξr _) (.cells #[.slice a1 m1 c1,.slice a2 m2 c2] 35)
 have HX:=ξh (ξn w1 (.cells #[.slice a1 m1 c1,.slice a2 m2 c2] 35))
 have HBW:=ξh ha
 obtain⟨bn,hq⟩:∃bn,bn=w1.heap.size:=⟨_,rfl⟩
 rw[←hq] at HX ⊢
 generalize w1.alloc (.cells #[.slice a1 m1 c1,.slice a2 m2 c2] 35)=w2 at *
 clear hq ha
 have y0:=blkc HX.out (j:=0) (u:= .slice a1 m1 c1) rfl
 have y1:=blkc HX.out (j:=1) (u:= .slice a2 m2 c2) rfl
 go_wp2_with fail
 refine(ξbU l _ _ _ n fs gs _ (HW.out _ HBW.out).1 (HW.out _ HBW.out).2.1 (HW.out _ HBW.out).2.2).mono ?_
 rintro e w3 ⟨v7,rfl,o7,b3⟩
 obtain⟨a7,m7,c7,rfl,hl7,hr7⟩:=ofr_sl o7
 have HR7:=ξh hr7
 have HL7:=ξh hl7
 have HX:=ξh (ξA HX.out b3)
 have HBW:=ξh (HBW.trans (b3.mono HBW.size))
 clear o7 hr7 b3 y0 y1 hl7
 have y0:=blkc HX.out (j:=0) (u:= .slice a1 m1 c1) rfl
 have y1:=blkc HX.out (j:=1) (u:= .slice a2 m2 c2) rfl
 go_wp2_with fail
 refine(specUpg_any l _ _ _ n fs gs _ (HW.out _ HBW.out).1 (HW.out _ HBW.out).2.1 (HW.out _ HBW.out).2.2).mono ?_
 rintro e w4 ⟨v9,rfl,o9,b4⟩
 obtain⟨a9,m9,c9,rfl,hl9,hr9⟩:=ofr_sl o9
 have HR9:=ξh hr9
 have HR7:=ξh (HR7.belowAll b4)
 have HX:=ξh (ξA HX.out b4)
 have HBW:=ξh (HBW.trans (b4.mono HBW.size))
 clear o9 hr9 b4 y0 y1 hl9
 have HLAW:=ξh (fun F T M (h:upK n fs gs l=true) (hn:0<m2) (hp:pk3 n fs gs=(F,T,M))=>upg_law (upK_parts h).1 (by rw[HM2.out];exact hn) hp (upK_parts h).2)
 have HU:=ξh (fun l' (h:upK n fs gs l'=true)=>upL_yes h)
 have HPK:=ξh (fun(h:upK n fs gs l=true) (hn:0<m2)=>show pkK n fs gs=true from by unfold pkK;rw[(upK_parts h).1,HM2.out];simpa using hn)
 have HLN:=ξh (fun l'=>upT_len n fs gs l' n.fs.length)
 cases hok:upK n fs gs l
 · have HV:=ξh (ξbQ (.slice a7 m7 c7) (.slice a9 m9 c9) (upL n fs gs l) (upL n fs gs l) w4 HR7.out HR9.out)
   rw[eqL_refl] at HV
   clear HLAW HU HPK hok
   go_wp2_with fail
   refine HV.mono ?_
   rintro e w5 ⟨rfl,hd5⟩
   have HV2:=ξh (ξbQ (.slice a7 m7 c7) (.slice a9 m9 c9) (upL n fs gs l) (upL n fs gs l) w5 (HR7.dr hd5) (HR9.dr hd5))
   rw[eqL_refl] at HV2
   have HB5:=ξh (hd5.below HBW.out)
   clear hd5
   go_wp2_with fail
   refine HV2.mono ?_
   rintro e w6 ⟨rfl,hd6⟩
   have HB5:=ξh (HB1.trans ((hd6.below HB5.out).mono HB1.size))
   clear hd6
   go_wp2_with fail
   rw[HNP.out]
   exact LwP.mk HB5.out
 · have HOK:=ξh hok
   have HV:=ξh (ξbQ (.slice a7 m7 c7) (.slice a9 m9 c9) (upL n fs gs l) (upL n fs gs l) w4 HR7.out HR9.out)
   rw[eqL_refl] at HV
   have HQ:=ξh (show m7=m2 from by rw[←HL7.out,HU.out l hok,HLN.out,HM2.out])
   have HRM:=ξh (fun w' (hb:Dr w4 w')=>rMost_any (.slice a7 m7 c7) (upL n fs gs l) w' (HR7.dr hb))
   clear hok
   go_wp2_with fail
   refine HV.mono ?_
   rintro e w5 ⟨rfl,hd5⟩
   have HD5:=ξh hd5
   have HBW:=ξh (hd5.below HBW.out)
   have HX:=ξh (show w5.heap[bn]?= _ from by obtain⟨q,rfl⟩:=hd5;exact HX.out)
   clear hd5 HV
   have y1:=blkc HX.out (j:=1) (u:= .slice a2 m2 c2) rfl
   by_cases hz:m2=0
   · have hzT:((m2:Int)==0)=true:=by simp[hz]
     have h7T:((m7:Int)==0)=true:=by rw[HQ.out];exact hzT
     have HB5:=ξh (HB1.trans (HBW.mono HB1.size))
     clear hz
     go_wp2_with fail
     rw[HNP.out]
     exact LwP.mk HB5.out
   have hzF:((m2:Int)==0)=false:=beq_eq_false_iff_ne.2 (by omega)
   have hm0:0<m2:=by omega
   obtain⟨F,T,M,hp⟩:∃F T M,pk3 n fs gs=(F,T,M):=⟨_,_,_,rfl⟩
   obtain⟨q1,q2,q3,q4,q5,q6,q7,q8⟩:=HLAW.out F T M HOK.out hm0 hp
   obtain⟨f,rfl⟩:∃f:Nat,F=(f:Int):=⟨F.toNat,by omega⟩
   rw[Int.toNat_natCast] at q7
   have HFL:=ξh (show f<m2 by have:=HM2.out;omega)
   have HQ1:=ξh q1
   have HQ2:=ξh q2
   have HQ7:=ξh q7
   have HQ8:=ξh q8
   have HPK1:=ξh (HPK.out HOK.out hm0)
   have HP:=ξh hp
   have y0:=blkc HX.out (j:=0) (u:= .slice a1 m1 c1) rfl
   clear q1 q2 q7 q8 hp HPK HLAW hz
   go_wp2_with fail
   refine(implPeak_any _ _ _ n fs gs _ (HW.out _ HBW.out).1 (HW.out _ HBW.out).2.1 (HW.out _ HBW.out).2.2).mono ?_
   rintro e w6 ⟨rfl,b6⟩
   rw[HPK1.out,HP.out]
   have HX:=ξh (ξA HX.out b6)
   have HBW:=ξh (HBW.trans (b6.mono HBW.size))
   have HRM:=ξh (fun w' (hb:Below w6.heap.size w6 w')=>rMost_any (.slice a7 m7 c7) (upL n fs gs l) w' (((HR7.dr HD5.out).belowAll b6).belowAll hb))
   clear b6 y0 y1 hzF
   have hF0:¬(f:Int)<0:=by omega
   have hF1:decide ((f:Int)<0)=false:=ξf hF0
   have hF2:¬(f:Int)≥(m7:Int):=by rw[HQ.out];have:=HFL.out;omega
   have hF3:decide ((f:Int)≥(m7:Int))=false:=ξf hF2
   have hF4:¬(m7:Int)≤(f:Int):=hF2
   have y0:=blkc HX.out (j:=0) (u:= .slice a1 m1 c1) rfl
   have y1:=blkc HX.out (j:=1) (u:= .slice a2 m2 c2) rfl
   go_wp2_with fail
   refine(ξbU M _ _ _ n fs gs _ (HW.out _ HBW.out).1 (HW.out _ HBW.out).2.1 (HW.out _ HBW.out).2.2).mono ?_
   rintro e w7 ⟨v8,rfl,o8,b7⟩
   rw[HQ1.out]
   obtain⟨a8,m8,c8,rfl,hl8,hr8⟩:=ofr_sl o8
   rw[HU.out M HQ1.out] at hr8
   have HR8:=ξh hr8
   have HX:=ξh (ξA HX.out b7)
   have HBW:=ξh (HBW.trans (b7.mono HBW.size))
   have HB7:=ξh b7
   clear o8 b7 y0 y1 hl8 hr8 hF1 hF3
   go_wp2_with fail
   have HA8:=ξh (show∀k,k<m8→ ∃b off,a8=some ⟨b,off,none⟩∧w7.cell? ⟨b,off+k,none⟩=some (.int .i64 (-1)) from fun k hk=>by
    obtain⟨a',c',m',HM',e,-,-,ha⟩:=HR8.opn
    cases e
    obtain⟨b,off,e,hb,hc⟩:=ha (by omega)
    refine⟨b,off,e,?_⟩
    have hkl:k<(upT n fs gs M n.fs.length).length:=by rw[HM'.out];exact hk
    have:=hc k hk
    rw[ξg hkl] at this
    rw[this,Option.getD_some,HQ2.out _ (ξj hkl)])
   have hneq:((-1:Int) != -1)=false:=rfl
   have hm63:m8≤9223372036854775807:=by
    obtain⟨a',c',m',HM',e,-,h63,-⟩:=HR8.opn
    cases e
    exact h63
   go_loop [17] (fun i=>∃k:Nat,k≤m8∧i= .int .i64 k) (fun i=>m8-(intOf i).toNat)
   case atStart=>exact⟨0,by omega,rfl⟩
   case round=>
    obtain⟨k,hk,rfl⟩:=hrel
    by_cases hlt:k<m8
    · have hltI:(k:Int)<(m8:Int):=by omega
      obtain⟨b,off,rfl,c0⟩:=HA8.out k hlt
      go_wp2_with fail
      go_round
      · exact⟨k+1,by omega,by go_num⟩
      · simp[intOf];omega
    · have hltI:¬(k:Int)<(m8:Int):=by omega
      obtain rfl:k=m8:=by omega
      by_cases hM:M=0
      · have hMT:(M==0)=true:=by simp[hM]
        have HB5:=ξh (HB1.trans (HBW.mono HB1.size))
        clear hM
        go_wp2_with fail
        rw[HNP.out]
        exact LwP.mk HB5.out
      obtain⟨z1,z2⟩:=HQ7.out hM
      have HZ1:=ξh z1
      have HZ2:=ξh z2
      have hMF:(M==0)=false:=beq_eq_false_iff_ne.2 hM
      have hw:IntKind.i64.wrap (M-1)=M-1:=ξi _ (by omega)
      have y0:=blkc HX.out (j:=0) (u:= .slice a1 m1 c1) rfl
      have y1:=blkc HX.out (j:=1) (u:= .slice a2 m2 c2) rfl
      clear z1 z2 hM hlt hltI
      go_wp2_with fail
      refine(ξbU (M-1) _ _ _ n fs gs _ (HW.out _ HBW.out).1 (HW.out _ HBW.out).2.1 (HW.out _ HBW.out).2.2).mono ?_
      rintro e w8 ⟨v18,rfl,o18,b8⟩
      rw[HZ1.out]
      obtain⟨a18,m18,c18,rfl,hl18,hr18⟩:=ofr_sl o18
      rw[HU.out (M-1) HZ1.out] at hr18 hl18
      have hm18:m18=m2:=by rw[←hl18,HLN.out,HM2.out]
      have HBW:=ξh (HBW.trans (b8.mono HBW.size))
      have HC18:=ξh (show∃b off,a18=some ⟨b,off,none⟩∧w8.cell? ⟨b,off+f,none⟩=some (.int .i64 T) from by
       obtain⟨a',c',m',HM',e,-,-,ha⟩:=hr18.opn
       cases e
       have hmm:f<m18:=by rw[←HM'.out,HLN.out,HM2.out];exact HFL.out
       obtain⟨b,off,e,hb,hc⟩:=ha (by omega)
       refine⟨b,off,e,?_⟩
       have:=hc f hmm
       rw[HZ2.out] at this
       exact this)
      obtain⟨b18,o18',rfl,c18'⟩:=HC18.out
      rw[hm18]
      have HRX:=ξh (HRM.out _ (HB7.trans (b8.mono HB7.size)))
      rw[HU.out l HOK.out] at HRX
      have hq8:=HQ8.out
      have hfl:(f:Int)<(m2:Int):=by have:=HFL.out;omega
      have hff:(0:Int)≤(f:Int):=by omega
      have hTT:(T==T)=true:=by simp
      generalize hD:(rM (upT n fs gs l n.fs.length) == -1)=D at hq8
      have HDD:=ξh hD
      generalize rM (upT n fs gs l n.fs.length)=R at *
      have hDD:(D==D)=true:=by simp
      have hge:decide (l≥M)=D:=hq8
      clear o18 b8 y0 y1 hr18 hl18 hm18 HC18 hw
      go_wp2_with fail
      refine HRX.mono ?_
      rintro e w9 ⟨rfl,rfl⟩
      have HB5:=ξh (HB1.trans (HBW.mono HB1.size))
      have hD2:=HDD.out
      go_wp2_with fail
      rw[HNP.out]
      exact LwP.mk HB5.out
end Go.Proofs.YtofcicomhnkocaaGreat
