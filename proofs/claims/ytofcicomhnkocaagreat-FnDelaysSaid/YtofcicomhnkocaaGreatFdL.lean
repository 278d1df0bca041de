/- FnDelays: the walk of the law. -/
import Derived.Test.YtofcicomhnkocaaGreatBx38
set_option linter.unusedVariables false
namespace Go.Proofs.YtofcicomhnkocaaGreat
set_option maxHeartbeats 12800000
open Go.RowKit Go.Sort
set_option maxRecDepth 100000
theorem gr_sl {w:World} {b:Nat} {v:Value} {zs:List Gro} (h:Ofr w b (flt 6 groE zs) v):∃a m c,v= .slice a m c∧zs.length=m∧Rdt w (flt 6 groE zs) (.slice a m c):=by
 have hr:=h.rd
 obtain⟨a,n,cap,rfl,HN,-,-,-⟩:=ξC (m:=6) (enc:=groE) (fun _=>rfl) (by omega) nilG hr
 exact⟨a,n,cap,rfl,HN.out,hr⟩
theorem ξbb {w:World} {a:Option Addr} {m c:Nat} {zs:List Gro} (h:Rdt w (flt 6 groE zs) (.slice a m c)):zs.length=m∧m≤9223372036854775807∧ ∀k,k<m→ ∃b off,a=some ⟨b,off,none⟩∧ ∀g,g=zs[k]?.getD nilG→
 w.cell? ⟨b,off+k*6,none⟩=some (.int .i64 g.d.a)∧w.cell? ⟨b,off+k*6+1,none⟩=some (.int .i64 g.d.b)∧w.cell? ⟨b,off+k*6+2,none⟩=some (.int .i64 g.d.r)∧w.cell? ⟨b,off+k*6+3,none⟩=some (.int .i64 g.d.c)∧w.cell? ⟨b,off+k*6+4,none⟩=some (.int .i64 g.s)∧w.cell? ⟨b,off+k*6+5,none⟩=some (.int .i64 g.e):=by
 obtain⟨a',n,cap,e,HN,-,h63,ha⟩:=ξC (m:=6) (enc:=groE) (fun _=>rfl) (by omega) nilG h
 cases e
 refine⟨HN.out,h63,fun k hk=> ?_⟩
 obtain⟨b,off,e,hb,hc⟩:=ha (by omega)
 refine⟨b,off,e,fun g hg=> ?_⟩
 rw[hg]
 exact⟨hc k hk 0 _ rfl,hc k hk 1 _ rfl,hc k hk 2 _ rfl,hc k hk 3 _ rfl,hc k hk 4 _ rfl,hc k hk 5 _ rfl⟩
theorem carS_nil (gs:List Gro):∀k,carS [] gs k=carA gs k
 | 0=>rfl
 | k+1=>by rw[carS,carA,carS_nil gs k];rfl
theorem FnDelays_walk (a0:Option Addr) (len0 cap0:Nat) (z0:List Int) (w:World) (hr:RawB w a0 len0 cap0 z0):
 Calls Tryz.prog 4 #[.slice a0 len0 cap0] w fun e w'=>e= .returned (.bool true)∧Below w.heap.size w w':=by
 show Calls Tryz.prog 4 #[.slice a0 len0 cap0] w (LwP w)
 by_cases hbig:(65536:Int)<(len0:Int)
 · have hd:decide ((65536:Int)<(len0:Int))=true:=by simpa using hbig
   go_enter Tryz.func4,Tryz.ntmps4
   go_wp2_with fail
   refine(ξb8 _ _ _ _).mono ?_
   rintro e w' ⟨rfl,rfl⟩
   go_wp2
   go_ret
   exact⟨rfl,ξb _ _⟩
 have hd:decide ((65536:Int)<(len0:Int))=false:=by simpa using hbig
 have hrd:=hr.rd (by omega)
 obtain⟨NP,hNP⟩:∃NP,NP=LwP w:=⟨_,rfl⟩
 rw[←hNP]
 have HNP:=ξh hNP
 have HRD:=ξh hrd
 clear hr hrd hNP
 go_enter Tryz.func4,Tryz.ntmps4
 go_wp2_with fail
 refine(ξb8 _ _ _ _).mono ?_
 rintro e w' ⟨rfl,rfl⟩
 go_wp2_with fail
 refine(drawDG_any a0 len0 cap0 w HRD.out).mono ?_
 rintro e w1 ⟨a1,m1,c1,a2,m2,c2,ag,mg,cg,n,gs,i,d,rfl,hn,hg,-,hb1⟩
 have hn1:=hn.rd
 have hg1:Rdt w1 (flt 6 groE gs) (.slice ag mg cg):=SrR.rd hg
 have HB1:=ξh hb1
 have HGL:=ξh (ξbb hg1).1
 have HW:=ξh (fun w' (hb:Below w1.heap.size w1 w')=>(⟨hn1.behind hb,hg1.behind hb⟩:NetR w' (.agg #[.slice a1 m1 c1,.slice a2 m2 c2]) n∧Rdt w' (flt 6 groE gs) (.slice ag mg cg)))
 clear hg hb1 hn hn1 hg1 hd hbig
 go_upto_region 4 with fail
 have ha:=(ξb w1.heap.size w1).alloc (ξr _) (.cells #[.slice a1 m1 c1,.slice a2 m2 c2] 35)
 have HX:=ξh (ξn w1 (.cells #[.slice a1 m1 c1,.slice a2 m2 c2] 35))
 have HBW:=ξh ha
 obtain⟨bn,hq⟩:∃bn,bn=w1.heap.size:=⟨_,rfl⟩
 rw[←hq] at HX ⊢
 generalize w1.alloc (.cells #[.slice a1 m1 c1,.slice a2 m2 c2] 35)=w2 at *
 clear hq ha
 have y0:=blkc HX.out (j:=0) (u:= .slice a1 m1 c1) rfl
 have y1:=blkc HX.out (j:=1) (u:= .slice a2 m2 c2) rfl
 go_wp2_with fail
 refine(ξcb _ _ n gs i d _ (HW.out _ HBW.out).1 (HW.out _ HBW.out).2).mono ?_
 rintro e w3 ⟨v3,rfl,o3,b⟩
 obtain⟨a3,m3,c3,rfl,hl3,hr3⟩:=gr_sl o3
 have HL3:=ξh hl3
 have HR3:=ξh hr3
 have HX:=ξh (ξA HX.out b)
 have HBW:=ξh (HBW.trans (b.mono HBW.size))
 clear o3 b y0 y1 hr3 hl3
 have y0:=blkc HX.out (j:=0) (u:= .slice a1 m1 c1) rfl
 have y1:=blkc HX.out (j:=1) (u:= .slice a2 m2 c2) rfl
 go_wp2_with fail
 refine(specDelay_any _ _ n gs i d _ (HW.out _ HBW.out).1 (HW.out _ HBW.out).2).mono ?_
 rintro e w5 ⟨v5,rfl,o5,b⟩
 obtain⟨a5,m5,c5,rfl,-,-⟩:=gr_sl o5
 have HX:=ξh (ξA HX.out b)
 have HBW:=ξh (HBW.trans (b.mono HBW.size))
 have HR3:=ξh (HR3.behind b)
 clear o5 b y0 y1
 cases hok:ξad n gs i d
 case' false=>
  go_wp2_with fail
  have HBZ:=ξh (HB1.trans (HBW.mono HB1.size))
  obtain⟨wz,hwz⟩:∃wz,wz=w5:=⟨_,rfl⟩
  subst hwz
 case' true=>
  obtain⟨K,rfl,hk,q1,q2,q3,q4,q5,q6,q7,q8⟩:=fd_back hok
  rw[q1] at HR3 HL3
  have HL3:=HL3
  obtain rfl:m3=mg:=by rw[←HL3.out,←HGL.out];unfold delL;simp
  have hneg:IntKind.i64.wrap (-d)= -d:=ξi _ (by omega)
  have HQ2:=ξh q2
  have HQ3:=ξh q3
  have HQ4:=ξh q4
  have HQ5:=ξh q5
  clear hok q1 q2 q3 q4 q5 q6 q7
  have y0:=blkc HX.out (j:=0) (u:= .slice a1 m1 c1) rfl
  have y1:=blkc HX.out (j:=1) (u:= .slice a2 m2 c2) rfl
  go_wp2_with fail
  refine(ξcb _ _ n (delL gs K d) (K:Int) (-d) _ (HW.out _ HBW.out).1 HR3.out).mono ?_
  rintro e w6 ⟨v6,rfl,o6,b⟩
  obtain⟨a6,m6,c6,rfl,hl6,hr6⟩:=gr_sl o6
  rw[HQ4.out] at hl6 hr6
  rw[HQ3.out]
  obtain rfl:m6=m3:=by rw[←hl6,←HGL.out]
  have HR6:=ξh hr6
  have HX:=ξh (ξA HX.out b)
  have HBW:=ξh (HBW.trans (b.mono HBW.size))
  have HR3:=ξh (HR3.behind b)
  clear o6 b y0 y1 hr6 hl6 HQ3 HQ4
  have y0:=blkc HX.out (j:=0) (u:= .slice a1 m1 c1) rfl
  have y1:=blkc HX.out (j:=1) (u:= .slice a2 m2 c2) rfl
  go_wp2_with fail
  refine(ξat _ _ n (delL gs K d) _ (HW.out _ HBW.out).1 HR3.out).mono ?_
  rintro e w7 ⟨rfl,b⟩
  rw[HQ2.out]
  have HX:=ξh (ξA HX.out b)
  have HBW:=ξh (HBW.trans (b.mono HBW.size))
  have HR3:=ξh (HR3.behind b)
  have HR6:=ξh (HR6.behind b)
  clear b y0 y1 HQ2 hneg
  have HB:=ξh (ξb w7.heap.size w7)
  go_wp2_with fail
  go_loopw [13] (fun i wr=>∃j:Nat,j≤m6∧i= .int .i64 j∧Hid (Below w7.heap.size w7 wr)) (fun i _=>m6-(intOf i).toNat)
  case' atStart=>exact⟨0,ξu _,rfl,HB.out⟩
  case' round=>
   clear HB
   obtain⟨j,hj,rfl,HB⟩:=hrel
   by_cases hlt:j<m6
   case' pos=>
    have hltI:(j:Int)<(m6:Int):=by omega
    obtain⟨-,h63,gz⟩:=ξbb (HR6.behind HB.out)
    obtain⟨b6,o6,rfl,g6⟩:=gz j hlt
    obtain⟨bg,og,rfl,gg⟩:=(ξbb (HW.out _ (HBW.trans (HB.mono HBW.size))).2).2.2 j hlt
    obtain⟨b3,o3,rfl,g3⟩:=(ξbb (HR3.behind HB.out)).2.2 j hlt
    have HS:=ξh (HQ5.out j)
    obtain⟨g,hg⟩:∃g,g=gs[j]?.getD nilG:=⟨_,rfl⟩
    obtain⟨p0,p1,p2,p3,p4,p5⟩:=g6 g hg
    obtain⟨r0,r1,r2,r3,r4,r5⟩:=gg g hg
    have G3:=ξh (fun h:j≠K=>g3 g (hg.trans (HS.out h).symm))
    have hqq:=gro_eqd g
    have hge:Tryz.prog.eqGuardType Tryz.prog.depth 55=false:=by kernel_rfl
    clear gz g6 gg g3 hg HS
    by_cases hjk:j=K
    · have hne:((j:Int) != (K:Int))=false:=by rw[hjk];simp
      clear G3 hjk
      go_wp2_with fail
      go_quiet (fail)
      rename_i nq
      have HB7:=ξh (ξaJ HB.out nq)
      generalize wr.drewN nq=w8 at *
      go_wp2_with fail
      go_roundw
      case rel=>exact⟨j+1,hlt,by go_num,HB7.out⟩
      case measure=>simp[intOf];omega
    · have hne:((j:Int) != (K:Int))=true:=by simp;omega
      obtain⟨s0,s1,s2,s3,s4,s5⟩:=G3.out hjk
      clear G3 hjk
      go_wp2_with fail
      go_quiet (fail)
      rename_i nq
      have HB7:=ξh (ξaJ HB.out nq)
      generalize wr.drewN nq=w8 at *
      go_wp2_with fail
      go_roundw
      case rel=>exact⟨j+1,hlt,by go_num,HB7.out⟩
      case measure=>simp[intOf];omega
   case' neg=>
    have hltI:¬(j:Int)<(m6:Int):=by omega
    have HBW:=ξh (HBW.trans (HB.mono HBW.size))
    have HBZ:=ξh (HB1.trans (HBW.mono HB1.size))
    clear HX HBW HR3 HR6 HB HQ5 HW
    obtain⟨wz,hwz⟩:∃wz,wz=wr:=⟨_,rfl⟩
    subst hwz
    go_wp2_with fail
 all_goals
  refine(drawCR_any a0 len0 cap0 _ (HRD.behind HBZ.out)).mono ?_
  rintro e u1 ⟨e1,x1,f1,e2,x2,f2,ef,xf,ff,eg,xg,fg,m,ms,rfl,hg,hb1⟩
  obtain⟨fs,hn1,hf1,hg1⟩:=hg.rd
  have HB1:=ξh (HBZ.trans (hb1.mono HBZ.size))
  have HML:=ξh (ξbb hg1).1
  have HW:=ξh (fun w' (hb:Below u1.heap.size u1 w')=>(⟨hn1.behind hb,hf1.behind hb,hg1.behind hb⟩:NetR w' (.agg #[.slice e1 x1 f1,.slice e2 x2 f2]) m∧Rdt w' (flt 2 fmE fs) (.slice ef xf ff)∧Rdt w' (flt 6 groE ms) (.slice eg xg fg)))
  clear hg hb1 hn1 hf1 hg1 HRD HBZ
  go_upto_region 18 with fail
  have ha:=(ξb u1.heap.size u1).alloc (ξr _) (.cells #[.slice e1 x1 f1,.slice e2 x2 f2] 35)
  have HY:=ξh (ξn u1 (.cells #[.slice e1 x1 f1,.slice e2 x2 f2] 35))
  have HBW:=ξh ha
  obtain⟨bm,hq⟩:∃bm,bm=u1.heap.size:=⟨_,rfl⟩
  rw[←hq] at HY ⊢
  generalize u1.alloc (.cells #[.slice e1 x1 f1,.slice e2 x2 f2] 35)=u2 at *
  clear hq ha
  have y0:=blkc HY.out (j:=0) (u:= .slice e1 x1 f1) rfl
  have y1:=blkc HY.out (j:=1) (u:= .slice e2 x2 f2) rfl
  go_wp2_with fail
  refine(ξcI _ _ _ m fs ms _ (HW.out _ HBW.out).1 (HW.out _ HBW.out).2.1 (HW.out _ HBW.out).2.2).mono ?_
  rintro e u3 ⟨rfl,b⟩
  have HY:=ξh (ξA HY.out b)
  have HBW:=ξh (HBW.trans (b.mono HBW.size))
  clear b y0 y1
  have y0:=blkc HY.out (j:=0) (u:= .slice e1 x1 f1) rfl
  have y1:=blkc HY.out (j:=1) (u:= .slice e2 x2 f2) rfl
  go_wp2_with fail
  refine(ξcJ _ _ _ m fs ms _ (HW.out _ HBW.out).1 (HW.out _ HBW.out).2.1 (HW.out _ HBW.out).2.2).mono ?_
  rintro e u4 ⟨rfl,b⟩
  have HY:=ξh (ξA HY.out b)
  have HBW:=ξh (HBW.trans (b.mono HBW.size))
  have HBZ:=ξh (HB1.trans (HBW.mono HB1.size))
  clear b y0 y1
  obtain⟨C,hC⟩:∃C,C=planC m fs ms:=⟨_,rfl⟩
  rw[←hC]
  have HCC:=ξh hC
  clear hC
  have hcc:(C != C)=false:=by simp
  have hcc2:(C==C)=true:=by simp
  cases hok2:ξa0 m fs ms
  · clear hok2
    go_wp2_with fail
    rw[HNP.out]
    exact LwP.mk HBZ.out
  · have HFR:=ξh (fd_rate hok2)
    have HPK:=ξh hok2
    have HG:=ξh HFR.1
    clear hok2 hcc2
    have HB:=ξh (ξb u4.heap.size u4)
    go_wp2_with fail
    go_loopw [21,22] (fun s21 i wr=>∃j:Nat,j≤xg∧i= .int .i64 j∧s21= .int .i64 (carS [] ms j)∧Hid (Below u4.heap.size u4 wr)) (fun _ i _=>xg-(intOf i).toNat)
    case atStart=>exact⟨0,ξu _,rfl,rfl,HB.out⟩
    case round=>
     clear HB
     obtain⟨j,hj,rfl,rfl,HB⟩:=hrel
     by_cases hlt:j<xg
     · have hltI:(j:Int)<(xg:Int):=by omega
       obtain⟨-,h63,gz⟩:=ξbb (HW.out _ (HBW.trans (HB.mono HBW.size))).2.2
       obtain⟨b6,o6,rfl,g6⟩:=gz j hlt
       obtain⟨⟨d0,d1,x,s',q1,q2,q3,q4,q5,q6,q7,q8,HS1⟩,-⟩:=car_step HG.out [] (k:=j) (by rw[HML.out];exact hlt)
       have HE1:=ξh (HS1.out rfl)
       obtain⟨S,hS⟩:∃S,S=carS [] ms j:=⟨_,rfl⟩
       rw[←hS] at q7 q8 ⊢
       unfold gwA at q1 q2 q5 q6
       obtain⟨g,hg⟩:∃g,g=ms[j]?.getD nilG:=⟨_,rfl⟩
       rw[←hg] at q1 q2 q5 q6
       obtain⟨p0,p1,p2,p3,p4,p5⟩:=g6 g hg
       clear gz g6 hS HS1 hg
       go_wp2_with fail
       go_quiet (fail)
       rename_i nq
       have HB7:=ξh (ξaJ HB.out nq)
       generalize wr.drewN nq=w8 at *
       go_wp2_with fail
       go_roundw
       case rel=>exact⟨j+1,hlt,by go_num,by rw[HE1.out],HB7.out⟩
       case measure=>simp[intOf];omega
     · have hltI:¬(j:Int)<(xg:Int):=by omega
       obtain rfl:j=xg:=by omega
       have HY:=ξh (ξA HY.out HB.out)
       have HBW:=ξh (HBW.trans (HB.mono HBW.size))
       have HFR:=ξh (show C≤carS [] ms j∧(decide ((ξai m fs ms).length=0)=decide (C=carS [] ms j)) from by
        have h:=HFR.2
        rw[HML.out,←carS_nil,←HCC.out] at h
        exact h)
       clear HB HCC HG hj hlt
       generalize carS [] ms j=A at *
       have y0:=blkc HY.out (j:=0) (u:= .slice e1 x1 f1) rfl
       have y1:=blkc HY.out (j:=1) (u:= .slice e2 x2 f2) rfl
       go_wp2_with fail
       refine(ξbP _ _ _ m fs ms _ (HW.out _ HBW.out).1 (HW.out _ HBW.out).2.1 (HW.out _ HBW.out).2.2).mono ?_
       rintro e u7 ⟨v11,rfl,o11,b⟩
       obtain⟨a11,m11,c11,rfl,hl11,-⟩:=ofr_sl o11
       rw[HPK.out]
       have HBW:=ξh (HBW.trans (b.mono HBW.size))
       have HBZ:=ξh (HB1.trans (HBW.mono HB1.size))
       obtain⟨hle,hqd⟩:=HFR.out
       rw[hl11] at hqd
       have hle2:decide (C≤A)=true:=by simpa using hle
       clear o11 b y0 y1 hl11 HFR
       by_cases hm:m11=0
       · have hCA:C=A:=by have:decide (C=A)=true:=by rw[←hqd];simpa using hm
                          simpa using this
         subst hm
         subst hCA
         clear hqd hcc
         go_wp2_with fail
         rw[HNP.out]
         exact LwP.mk HBZ.out
       · have hCA:¬C=A:=by have:decide (C=A)=false:=by rw[←hqd];simpa using hm
                           simpa using this
         have h1:(C==A)=false:=by simpa using hCA
         have h2:((m11:Int)==0)=false:=beq_eq_false_iff_ne.2 (by omega)
         clear hqd
         go_wp2_with fail
         rw[HNP.out]
         exact LwP.mk HBZ.out
end Go.Proofs.YtofcicomhnkocaaGreat
