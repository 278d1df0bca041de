import Derived.Test.YtofcicomhnkocaaGreatBx03
set_option linter.unusedVariables false
namespace Go.Proofs.YtofcicomhnkocaaGreat
set_option maxHeartbeats 6400000
open Go.RowKit
set_option maxRecDepth 100000
theorem isName_any (s:ByteArray) (w:World) (hs:s.size≤maxLen):
 Calls Tryz.prog 128 #[.string s] w fun e w'=>e= .returned (.bool (ξan s))∧Dr w w':=by
 unfold maxLen at hs
 have HN:=ξh (fun k (hk:k<s.size) h=>nameOk_sgn (nam_no (s:=s) (p:=sgnB) (k:=k) hk h))
 have HS:=ξh (fun k (hk:k<s.size) h e=>nam_step (s:=s) (p:=sgnB) (k:=k) hk h e)
 have HA:=ξh (nam_all s)
 have HH:=ξh (@nameOk_hd s)
 have HL:=ξh (@nameOk_len s)
 have HY:=ξh (@nameOk_yes s)
 have H0:=ξh (@hd0_of s)
 generalize ξan s=r at *
 go_enter Tryz.func128,Tryz.ntmps128
 go_wp2
 go_loopw [3,4,5,8] (fun _ _ _ i wr=>∃k:Nat,k≤s.size∧i= .int .i64 k∧Hid ((s.data.toList.take k).all sgnB=true)∧Hid (0<k→hd0 s=true)∧Hid (Dr w wr)) (fun _ _ _ i _=>s.size-(intOf i).toNat)
 case atStart=>exact⟨0,ξu _,rfl,by simp[Hid],fun h=>by omega,Dr.refl _⟩
 case round=>
  obtain⟨k,hk,rfl,HT,HK,HD⟩:=hrel
  by_cases hlt:k<s.size
  · have hltI:(k:Int)<(s.size:Int):=by omega
    have HN1:=ξh (HN.out k hlt)
    have HS1:=ξh (HS.out k hlt HT.out)
    have H01:=ξh (fun h:k=0=>show hd0 s=letB s[k] by subst h;exact H0.out hlt)
    have HSG:=ξh (show sgnB s[k]=((decide (97≤(s[k].toNat:Int))&&decide ((s[k].toNat:Int)≤122)) || (decide (48≤(s[k].toNat:Int))&&decide ((s[k].toNat:Int)≤57))) from rfl)
    have HLE:=ξh (show letB s[k]=(decide (97≤(s[k].toNat:Int))&&decide ((s[k].toNat:Int)≤122)) from rfl)
    clear HN HS H0
    by_cases c1:97≤(s[k].toNat:Int)
    · have c1d:decide (97≤(s[k].toNat:Int))=true:=ξt c1
      have c3:48≤(s[k].toNat:Int):=by omega
      have c3d:decide (48≤(s[k].toNat:Int))=true:=ξt c3
      have c4:¬(s[k].toNat:Int)≤57:=by omega
      have c4d:decide ((s[k].toNat:Int)≤57)=false:=ξf c4
      by_cases c2:(s[k].toNat:Int)≤122
      · have c2d:decide ((s[k].toNat:Int)≤122)=true:=ξt c2
        have HT2:=ξh (HS1.out (by rw[HSG.out,c1d,c2d];rfl))
        have HK2:=ξh (fun(_:0<k+1)=>show hd0 s=true by
         by_cases h:k=0
         · rw[H01.out h,HLE.out,c1d,c2d];rfl
         · exact HK.out (by omega))
        go_wp2
        go_quiet (fail)
        go_wp2
        go_roundw
        case rel=>exact⟨k+1,hlt,by go_num,HT2.out,HK2.out,HD.drewN _⟩
        case measure=>simp[intOf];omega
      · have c2d:decide ((s[k].toNat:Int)≤122)=false:=ξf c2
        have HF:=ξh (HN1.out (by rw[HSG.out,c1d,c2d,c3d,c4d];rfl))
        go_wp2
        go_quiet (fail)
        go_wp2
        go_ret
        exact⟨by rw[HF.out];rfl,HD.drewN _⟩
    · have c1d:decide (97≤(s[k].toNat:Int))=false:=ξf c1
      by_cases c3:48≤(s[k].toNat:Int)
      · have c3d:decide (48≤(s[k].toNat:Int))=true:=ξt c3
        by_cases c4:(s[k].toNat:Int)≤57
        · have c4d:decide ((s[k].toNat:Int)≤57)=true:=ξt c4
          by_cases h0:k=0
          · have HF:=ξh (HH.out (by rw[H01.out h0,HLE.out,c1d];rfl))
            have h0I:(k:Int)=0:=by omega
            have h0b:((k:Int)==0)=true:=by simpa using h0I
            clear h0I h0 H01
            go_wp2
            go_quiet (fail)
            go_wp2
            go_ret
            exact⟨by rw[HF.out];rfl,HD.drewN _⟩
          · have h0b:((k:Int)==0)=false:=by simp;omega
            have HT2:=ξh (HS1.out (by rw[HSG.out,c1d,c3d,c4d];rfl))
            have HK2:=ξh (fun(_:0<k+1)=>HK.out (by omega))
            go_wp2
            go_quiet (fail)
            go_wp2
            go_roundw
            case rel=>exact⟨k+1,hlt,by go_num,HT2.out,HK2.out,HD.drewN _⟩
            case measure=>simp[intOf];omega
        · have c4d:decide ((s[k].toNat:Int)≤57)=false:=ξf c4
          have HF:=ξh (HN1.out (by rw[HSG.out,c1d,c3d,c4d];rfl))
          go_wp2
          go_quiet (fail)
          go_wp2
          go_ret
          exact⟨by rw[HF.out];rfl,HD.drewN _⟩
      · have c3d:decide (48≤(s[k].toNat:Int))=false:=ξf c3
        have HF:=ξh (HN1.out (by rw[HSG.out,c1d,c3d];rfl))
        go_wp2
        go_quiet (fail)
        go_wp2
        go_ret
        exact⟨by rw[HF.out];rfl,HD.drewN _⟩
  · obtain rfl:k=s.size:=by omega
    have hall:=HT.out
    rw[HA.out] at hall
    have HR:=ξh (show inB (s.size:Int) 1 8=r from by
     by_cases h:1≤s.size∧s.size≤8
     · rw[HY.out h (HK.out (by omega)) hall];simp[inB];omega
     · rw[HL.out h]
       by_cases h1:1≤s.size
       · simp[inB];omega
       · simp[inB];omega)
    clear HT HK HA HN HS HH HL HY H0 hall
    go_wp2_with (go_at_call 74;refine(ξE _ _ _ _).mono ?_;rintro e w' ⟨rfl,rfl⟩)
    go_ret
    exact⟨by rw[←HR.out];rfl,HD.out⟩
open Go.RowKit Go.Sort
theorem fib_cases (f:Fib) (m:Nat):
 (decide (f.a<0)=true∧fibOk f m=false)∨
 (decide (f.a<0)=false∧decide (f.b≤f.a)=true∧fibOk f m=false)∨
 (decide (f.a<0)=false∧decide (f.b≤f.a)=false∧decide ((m:Int)≤f.b)=true∧fibOk f m=false)∨
 (decide (f.a<0)=false∧decide (f.b≤f.a)=false∧decide ((m:Int)≤f.b)=false∧inB f.l 1 5000=false∧fibOk f m=false)∨
 (decide (f.a<0)=false∧decide (f.b≤f.a)=false∧decide ((m:Int)≤f.b)=false∧inB f.l 1 5000=true∧inB f.r 0 9=false∧fibOk f m=false)∨
 (decide (f.a<0)=false∧decide (f.b≤f.a)=false∧decide ((m:Int)≤f.b)=false∧inB f.l 1 5000=true∧inB f.r 0 9=true∧fibOk f m=true):=by
 have e:fibOk f m=(inB f.a 0 ((m:Int)-1)&&inB f.b (f.a+1) ((m:Int)-1)&&inB f.l 1 5000&&inB f.r 0 9):=rfl
 by_cases h1:f.a<0
 · left;refine⟨ξt h1,?_⟩
   rw[e,show inB f.a 0 ((m:Int)-1)=false by unfold inB;simp;omega];simp
 right
 by_cases h2:f.b≤f.a
 · left;refine⟨ξf h1,ξt h2,?_⟩
   rw[e,show inB f.b (f.a+1) ((m:Int)-1)=false by unfold inB;simp;omega];simp
 right
 by_cases h3:(m:Int)≤f.b
 · left;refine⟨ξf h1,ξf h2,ξt h3,?_⟩
   rw[e,show inB f.b (f.a+1) ((m:Int)-1)=false by unfold inB;simp;omega];simp
 right
 have e2:fibOk f m=(inB f.l 1 5000&&inB f.r 0 9):=by
  rw[e,show inB f.a 0 ((m:Int)-1)=true by unfold inB;simp;omega,show inB f.b (f.a+1) ((m:Int)-1)=true by unfold inB;simp;omega];simp
 rw[e2]
 cases inB f.l 1 5000
 · left;exact⟨ξf h1,ξf h2,ξf h3,rfl,rfl⟩
 right
 cases inB f.r 0 9
 · left;exact⟨ξf h1,ξf h2,ξf h3,rfl,rfl,rfl⟩
 · right;exact⟨ξf h1,ξf h2,ξf h3,rfl,rfl,rfl⟩
theorem ξas (v:Value) (n:Net) (w:World) (h:NetR w v n):
 Calls Tryz.prog 78 #[v] w fun e w'=>e= .returned (.bool (ξL n))∧Below w.heap.size w w':=by
 obtain⟨u1,u2,rfl,r1,r2,hsm⟩:=h
 obtain⟨a1,m1,c1,rfl,HN1,hc1,hm1,ha1⟩:=ξC (m:=1) (enc:=strE) (fun _=>rfl) (by omega) nilS r1
 obtain⟨a2,m2,c2,rfl,HN2,hc2,hm2,ha2⟩:=ξC (m:=4) (enc:=fibE) (fun _=>rfl) (by omega) nilB r2
 have HNM:=ξh (fun i hi h=>@netOk_nm n i hi h)
 have HFB:=ξh (fun i hi h=>@netOk_fb n i hi h)
 have HALL:=ξh (@netOk_all n)
 rw[HN1.out,HN2.out] at HALL
 rw[HN1.out] at HNM
 rw[HN2.out] at HFB
 generalize ξL n=q at *
 obtain⟨bx,bc,blt,-⟩:=ξD w #[.slice a1 m1 c1,.slice a2 m2 c2] 35
 have q0:=bc 0 _ rfl
 have q1:=bc 1 _ rfl
 have HA1:=ξh ha1
 have HA2:=ξh ha2
 have HR1:=ξh (r1.behind bx)
 have HBX:=ξh bx
 have HSM:=ξh hsm
 clear bc ha1 ha2 r1 r2 bx hsm
 go_enter Tryz.func78,Tryz.ntmps78
 go_wp2
 generalize w.alloc (.cells #[.slice a1 m1 c1,.slice a2 m2 c2] 35)=w1 at *
 go_loopw [3,4,10] (fun _ _ i wr=>∃k:Nat,k≤m1∧i= .int .i64 k∧Hid (∀i,i<k→nmOk n i=true)∧Hid (Below w1.heap.size w1 wr)) (fun _ _ i _=>m1-(intOf i).toNat)
 case atStart=>exact⟨0,ξu _,rfl,fun i hi=>by omega,ξb _ _⟩
 case round=>
  obtain⟨k,hk,rfl,HK,HB⟩:=hrel
  have p0:=(HB.cell blt).trans q0
  have p1:=(HB.cell blt).trans q1
  by_cases hlt:k<m1
  · have hltI:(k:Int)<(m1:Int):=by omega
    have hkx:k<n.ns.length:=by rw[HN1.out];exact hlt
    obtain⟨b,off,rfl,hbs,hcs⟩:=HA1.out (by omega)
    have hc0:=hcs k hlt 0 _ rfl
    rw[Nat.mul_one,Nat.add_zero] at hc0
    have hcw:=(HB.cell (p:=⟨b,off+k,none⟩) (ξq hbs HBX.size)).trans ((HBX.cell hbs).trans hc0)
    have HNA:=ξh (fun w=>isName_any (nmA n k) w (ξs (HSM.out k) (by decide)))
    have HCO:=ξh (fun N=>containsS_any _ (n.ns.take k) (nmA n k) (wr.drewN N) ((flt_take (m:=1) (enc:=strE) (fun _=>rfl) (by omega) (HR1.behind HB.out) hk).behind ((Dr.refl _).drewN N |>.below (ξb _ _))))
    have HV:=ξh (show nmOk n k=(ξan (nmA n k)&&decide (plc n.ns (nmA n k)=(k:Int))) from rfl)
    have HPL:=ξh (plc_pre hkx)
    have HST:=ξh (fun h=>ξaS HK.out (k:=k) h)
    have HNO:=ξh (HNM.out k hlt)
    clear hcs hc0 hkx
    unfold nmA at *
    generalize hx:n.ns[k]?.getD nilS=x at *
    have hkI:(0:Int)≤(k:Int):=by omega
    have hkI2:(k:Int)≤(c1:Int):=by omega
    clear hx
    cases hN:ξan x
    · have HF:=ξh (HNO.out (by rw[HV.out,hN];rfl))
      clear HNO HST HPL HV HCO
      rw[hN] at HNA
      clear hN
      go_wp2_with (go_at_call 128;refine(HNA.out _).mono ?_;rintro e w' ⟨rfl,n',rfl⟩)
      go_ret
      exact⟨by rw[HF.out];rfl,HBX.trans ((HB.mono HBX.size).trans (((Dr.refl _).drewN n').below (ξb _ _)))⟩
    cases hP:decide (plc n.ns x=(k:Int))
    · have HF:=ξh (HNO.out (by rw[HV.out,hN,hP];rfl))
      rw[hN] at HNA
      have hpl:=HPL.out
      rw[hP] at hpl
      rw[hpl] at HCO
      clear HNO HST HPL HV hN hP hpl
      go_wp2_with (first | (go_at_call 128;refine(HNA.out _).mono ?_;rintro e w' ⟨rfl,n',rfl⟩) | (go_at_call 129;refine(HCO.out _).mono ?_;rintro e w' ⟨rfl,rfl⟩))
      go_ret
      exact⟨by rw[HF.out];rfl,HBX.trans ((HB.mono HBX.size).trans (((Dr.refl _).drewN n').below (ξb _ _)))⟩
    · have HS:=ξh (HST.out (by rw[HV.out,hN,hP];rfl))
      rw[hN] at HNA
      have hpl:=HPL.out
      rw[hP] at hpl
      rw[hpl] at HCO
      clear HNO HST HPL HV hN hP hpl
      go_wp2_with (first | (go_at_call 128;refine(HNA.out _).mono ?_;rintro e w' ⟨rfl,n',rfl⟩) | (go_at_call 129;refine(HCO.out _).mono ?_;rintro e w' ⟨rfl,rfl⟩))
      go_roundw
      case rel=>exact⟨k+1,hlt,by go_num,HS.out,HB.trans (((Dr.refl _).drewN n').below (ξb _ _))⟩
      case measure=>simp[intOf];omega
  · obtain rfl:m1=k:=by omega
    have HAL1:=ξh (HALL.out HK.out)
    clear HALL HK HNM HR1
    go_wp2
    go_loopw [5,6,30] (fun _ _ i wr=>∃k:Nat,k≤m2∧i= .int .i64 k∧Hid (∀i,i<k→fbOk n i=true)∧Hid (Below w1.heap.size w1 wr)) (fun _ _ i _=>m2-(intOf i).toNat)
    case atStart=>exact⟨0,ξu _,rfl,fun i hi=>by omega,HB.out⟩
    case round=>
     clear HB p0 p1
     obtain⟨k,hk,rfl,HK,HB⟩:=hrel
     have p0:=(HB.cell blt).trans q0
     have p1:=(HB.cell blt).trans q1
     by_cases hlt:k<m2
     · have hltI:(k:Int)<(m2:Int):=by omega
       obtain⟨b,off,rfl,hbs,hcs⟩:=HA2.out (by omega)
       have hcw:=fun(i:Nat) (hi:i<m2) (r:Nat) (u:Value) (hu:(fibE (n.fs[i]?.getD nilB))[r]?= some u)=>(HB.cell (p:=⟨b,off+i*4+r,none⟩) (ξq hbs HBX.size)).trans ((HBX.cell hbs).trans (hcs i hi r u hu))
       have HA3:=ξh hcs
       have HST:=ξh (fun h=>ξaS HK.out (k:=k) h)
       have HNO:=ξh (HFB.out k hlt)
       have HV:=ξh (show fbOk n k=(fibOk (fbA n k) n.ns.length && !(decide (0<k)&&fibGt (fbA n (k-1)) (fbA n k))) from rfl)
       rw[HN1.out] at HV
       have c0:=hcw k hlt 0 _ rfl
       have c1:=hcw k hlt 1 _ rfl
       have c2:=hcw k hlt 2 _ rfl
       have c3:=hcw k hlt 3 _ rfl
       simp only[Nat.add_zero] at c0
       clear hcs hcw
       unfold fbA at *
       have HFC:=ξh (fib_cases (n.fs[k]?.getD nilB) m1)
       generalize n.fs[k]?.getD nilB=f at *
       obtain⟨bf,bfc,bfl,-⟩:=ξD wr #[.int .i64 f.a,.int .i64 f.b,.int .i64 f.l,.int .i64 f.r] 146
       have HBF:=ξh (HB.trans (bf.mono HB.size))
       have f0:=bfc 0 _ rfl
       have f1:=bfc 1 _ rfl
       have f2:=bfc 2 _ rfl
       have f3:=bfc 3 _ rfl
       have g0:=(HBF.cell blt).trans q0
       have g1:=(HBF.cell blt).trans q1
       clear bf bfc bfl
       rcases HFC.out with ⟨d1,hok⟩ | ⟨d1,d2,hok⟩ | ⟨d1,d2,d3,hok⟩ | ⟨d1,d2,d3,d4,hok⟩ | ⟨d1,d2,d3,d4,d5,hok⟩ | ⟨d1,d2,d3,d4,d5,hok⟩
       rotate_left 5
       · by_cases hk0:k=0
         · have hk0b:decide (0<k)=false:=ξf (by omega)
           have hk0c:decide (0<(k:Int))=false:=ξf (by omega)
           have hv:=HV.out
           rw[hok,ξf (show¬0<k by omega)] at hv
           have HV2:=ξh hv
           clear hv HV hk0
           have HS:=ξh (HST.out (by rw[HV2.out];rfl))
           clear hok
           go_wp2
           generalize wr.alloc (.cells #[.int .i64 f.a,.int .i64 f.b,.int .i64 f.l,.int .i64 f.r] 146)=w2 at *
           have j0:=rg f0
           have j1:=rg f1
           have j2:=rg f2
           have j3:=rg f3
           have j4:=rg g0
           have j5:=rg g1
           clear f0 f1 f2 f3 g0 g1 p0 p1
           refine ξv ?_
           repeat (go_big_quiet_step (first | (go_at_call 74;exact ξK (ξE _ _ _ _))))
           refine wpQuiet_nil ?_
           rintro _ ⟨⟨dq,osq⟩,rfl⟩
           go_wp2
           go_roundw
           case rel=>exact⟨k+1,hlt,by go_num,HS.out,HBF.trans ((ξc _ dq osq).mono HBF.size)⟩
           case measure=>simp[intOf];omega
         · obtain⟨k',hk'⟩:∃k',k=k'+1:=⟨k-1,by omega⟩
           have HKK:=ξh hk'
           have o0:=(HBF.cell (p:=⟨b,off+k'*4+0,none⟩) (ξq hbs HBX.size)).trans ((HBX.cell hbs).trans (HA3.out k' (by omega) 0 _ rfl))
           have o1:=(HBF.cell (p:=⟨b,off+k'*4+1,none⟩) (ξq hbs HBX.size)).trans ((HBX.cell hbs).trans (HA3.out k' (by omega) 1 _ rfl))
           have o2:=(HBF.cell (p:=⟨b,off+k'*4+2,none⟩) (ξq hbs HBX.size)).trans ((HBX.cell hbs).trans (HA3.out k' (by omega) 2 _ rfl))
           have o3:=(HBF.cell (p:=⟨b,off+k'*4+3,none⟩) (ξq hbs HBX.size)).trans ((HBX.cell hbs).trans (HA3.out k' (by omega) 3 _ rfl))
           simp only[Nat.add_zero] at o0
           have HCF:=ξh (fun w=>ξcm (n.fs[k']?.getD nilB) f w)
           have HGT:=ξh (cmpF_gt (n.fs[k']?.getD nilB) f)
           have hv:=HV.out
           rw[hok,show k-1=k' by omega,ξt (show 0<k by omega)] at hv
           have HV2:=ξh hv
           clear hok hv HV
           generalize n.fs[k']?.getD nilB=g at *
           have hkp:(0:Int)<(k:Int):=by omega
           have hkd:decide (0<(k:Int))=true:=ξt hkp
           have hke:decide (0<k)=true:=ξt (by omega)
           have f1w:IntKind.i64.wrap ((k:Int)-1)=(k':Int):=by rw[ξi _ (by omega)];omega
           have f2w:(k':Int)<(m2:Int):=by omega
           clear hk' hk0
           unfold fibV at HCF
           generalize cmpF g f=cc at *
           cases hgt:fibGt g f
           · have HS:=ξh (HST.out (by rw[HV2.out,hgt];simp))
             have hdc:decide (0<cc)=false:=by rw[HGT.out,hgt]
             clear hgt HNO HST HV2 HGT
             go_wp2
             generalize wr.alloc (.cells #[.int .i64 f.a,.int .i64 f.b,.int .i64 f.l,.int .i64 f.r] 146)=w2 at *
             have j0:=rg f0
             have j1:=rg f1
             have j2:=rg f2
             have j3:=rg f3
             have j4:=rg g0
             have j5:=rg g1
             have t0:=rg o0
             have t1:=rg o1
             have t2:=rg o2
             have t3:=rg o3
             clear f0 f1 f2 f3 g0 g1 p0 p1 o0 o1 o2 o3
             refine ξv ?_
             repeat (go_big_quiet_step (first | (go_at_call 74;exact ξK (ξE _ _ _ _)) | (go_at_call 130;exact Calls.regrown_of (HCF.out _))))
             refine wpQuiet_nil ?_
             rintro _ ⟨⟨dq,osq⟩,rfl⟩
             go_wp2
             go_roundw
             case rel=>exact⟨k+1,hlt,by go_num,HS.out,HBF.trans ((ξc _ dq osq).mono HBF.size)⟩
             case measure=>simp[intOf];omega
           · have HF:=ξh (HNO.out (by rw[HV2.out,hgt];simp))
             have hdc:decide (0<cc)=true:=by rw[HGT.out,hgt]
             clear hgt HNO HST HV2 HGT
             go_wp2
             generalize wr.alloc (.cells #[.int .i64 f.a,.int .i64 f.b,.int .i64 f.l,.int .i64 f.r] 146)=w2 at *
             have j0:=rg f0
             have j1:=rg f1
             have j2:=rg f2
             have j3:=rg f3
             have j4:=rg g0
             have j5:=rg g1
             have t0:=rg o0
             have t1:=rg o1
             have t2:=rg o2
             have t3:=rg o3
             clear f0 f1 f2 f3 g0 g1 p0 p1 o0 o1 o2 o3
             refine ξv ?_
             repeat (go_big_quiet_step (first | (go_at_call 74;exact ξK (ξE _ _ _ _)) | (go_at_call 130;exact Calls.regrown_of (HCF.out _))))
             refine wpQuiet_nil ?_
             rintro _ ⟨⟨dq,osq⟩,rfl⟩
             go_wp2
             go_ret
             exact⟨by rw[HF.out];rfl,HBX.trans ((HBF.mono HBX.size).trans ((ξc _ dq osq).mono (ξs HBX.size HBF.size)))⟩
       all_goals
        have HF:=ξh (HNO.out (by rw[HV.out,hok];rfl))
        clear hok
        go_wp2
        generalize wr.alloc (.cells #[.int .i64 f.a,.int .i64 f.b,.int .i64 f.l,.int .i64 f.r] 146)=w2 at *
        have j0:=rg f0
        have j1:=rg f1
        have j2:=rg f2
        have j3:=rg f3
        have j4:=rg g0
        have j5:=rg g1
        clear f0 f1 f2 f3 g0 g1 p0 p1
        refine ξv ?_
        repeat (go_big_quiet_step (first | (go_at_call 74;exact ξK (ξE _ _ _ _))))
        refine wpQuiet_nil ?_
        rintro _ ⟨⟨dq,osq⟩,rfl⟩
        go_wp2
        go_ret
        exact⟨by rw[HF.out];rfl,HBX.trans ((HBF.mono HBX.size).trans ((ξc _ dq osq).mono (ξs HBX.size HBF.size)))⟩
     · obtain rfl:m2=k:=by omega
       have HE:=ξh (HAL1.out HK.out)
       have HV:=ξh (show decide (2≤m1∧m1≤8∧m2≤14)=(inB (m1:Int) 2 8&&decide (m2≤14)) by unfold inB;rw[Bool.eq_iff_iff];simp;omega)
       cases hin:inB (m1:Int) 2 8
       · go_wp2_with (go_at_call 74;refine(ξE _ _ _ _).mono ?_;rintro e w' ⟨rfl,rfl⟩;rw[hin])
         go_ret
         exact⟨by rw[HE.out,HV.out,hin];rfl,HBX.trans (HB.mono HBX.size)⟩
       · by_cases h14:(m2:Int)≤14
         · have hd:decide ((m2:Int)≤14)=true:=ξt h14
           have hd2:decide (m2≤14)=true:=ξt (by omega)
           clear h14
           go_wp2_with (go_at_call 74;refine(ξE _ _ _ _).mono ?_;rintro e w' ⟨rfl,rfl⟩;rw[hin])
           go_ret
           exact⟨by rw[HE.out,HV.out,hin,hd2];rfl,HBX.trans (HB.mono HBX.size)⟩
         · have hd:decide ((m2:Int)≤14)=false:=ξf h14
           have hd2:decide (m2≤14)=false:=ξf (by omega)
           clear h14
           go_wp2_with (go_at_call 74;refine(ξE _ _ _ _).mono ?_;rintro e w' ⟨rfl,rfl⟩;rw[hin])
           go_ret
           exact⟨by rw[HE.out,HV.out,hin,hd2];rfl,HBX.trans (HB.mono HBX.size)⟩
theorem l2Sign_any (b:UInt8) (w:World):
 Calls Tryz.prog 211 #[.int .u8 (b.toNat:Int)] w fun e w'=>e= .returned (.bool (sgnB b))∧w=w':=by
 have HSG:=ξh (show sgnB b=((decide (97≤(b.toNat:Int))&&decide ((b.toNat:Int)≤122)) || (decide (48≤(b.toNat:Int))&&decide ((b.toNat:Int)≤57))) from rfl)
 generalize sgnB b=r at *
 generalize (b.toNat:Int)=x at *
 by_cases c1:97≤x
 · have c1d:decide (97≤x)=true:=ξt c1
   by_cases c2:x≤122
   · have c2d:decide (x≤122)=true:=ξt c2
     go_enter Tryz.func211,Tryz.ntmps211
     go_wp2
     go_ret
     exact⟨by rw[HSG.out,c1d,c2d];rfl,rfl⟩
   · have c2d:decide (x≤122)=false:=ξf c2
     have c3:48≤x:=by omega
     have c3d:decide (48≤x)=true:=ξt c3
     have c4:¬x≤57:=by omega
     have c4d:decide (x≤57)=false:=ξf c4
     go_enter Tryz.func211,Tryz.ntmps211
     go_wp2
     go_ret
     exact⟨by rw[HSG.out,c1d,c2d,c3d,c4d];rfl,rfl⟩
 · have c1d:decide (97≤x)=false:=ξf c1
   by_cases c3:48≤x
   · have c3d:decide (48≤x)=true:=ξt c3
     by_cases c4:x≤57
     · have c4d:decide (x≤57)=true:=ξt c4
       go_enter Tryz.func211,Tryz.ntmps211
       go_wp2
       go_ret
       exact⟨by rw[HSG.out,c1d,c3d,c4d];rfl,rfl⟩
     · have c4d:decide (x≤57)=false:=ξf c4
       go_enter Tryz.func211,Tryz.ntmps211
       go_wp2
       go_ret
       exact⟨by rw[HSG.out,c1d,c3d,c4d];rfl,rfl⟩
   · have c3d:decide (48≤x)=false:=ξf c3
     go_enter Tryz.func211,Tryz.ntmps211
     go_wp2
     go_ret
     exact⟨by rw[HSG.out,c1d,c3d];rfl,rfl⟩
theorem l2Name_any (s:ByteArray) (w:World) (hs:s.size≤maxLen):
 Calls Tryz.prog 168 #[.string s] w fun e w'=>e= .returned (.bool (ξan s))∧w=w':=by
 unfold maxLen at hs
 have HN:=ξh (fun k (hk:k<s.size) h=>nameOk_sgn (nam_no (s:=s) (p:=sgnB) (k:=k) hk h))
 have HS:=ξh (fun k (hk:k<s.size) h e=>nam_step (s:=s) (p:=sgnB) (k:=k) hk h e)
 have HA:=ξh (nam_all s)
 have HH:=ξh (@nameOk_hd s)
 have HL:=ξh (@nameOk_len s)
 have HY:=ξh (@nameOk_yes s)
 have H0:=ξh (@hd0_of s)
 generalize ξan s=r at *
 by_cases hl:1≤s.size∧s.size≤8
 · have hb:inB (s.size:Int) 1 8=true:=by simp[inB];omega
   have h0:0<s.size:=by omega
   have h0I:(0:Int)<(s.size:Int):=by omega
   have HLE:=ξh (show hd0 s=(decide (97≤(s[0].toNat:Int))&&decide ((s[0].toNat:Int)≤122)) from(H0.out h0).trans rfl)
   by_cases c1:(s[0].toNat:Int)<97
   · have c1d:decide ((s[0].toNat:Int)<97)=true:=ξt c1
     have HF:=ξh (HH.out (by rw[HLE.out,ξf (show¬97≤(s[0].toNat:Int) by omega)];rfl))
     go_enter Tryz.func168,Tryz.ntmps168
     go_wp2_with (go_at_call 77;refine(ξI _ _ _ _).mono ?_;rintro e w' ⟨rfl,rfl⟩;rw[hb])
     go_ret
     exact⟨by rw[HF.out];rfl,rfl⟩
   by_cases c2:122<(s[0].toNat:Int)
   · have c1d:decide ((s[0].toNat:Int)<97)=false:=ξf c1
     have c2d:decide (122<(s[0].toNat:Int))=true:=ξt c2
     have HF:=ξh (HH.out (by rw[HLE.out,ξf (show¬(s[0].toNat:Int)≤122 by omega)];simp))
     go_enter Tryz.func168,Tryz.ntmps168
     go_wp2_with (go_at_call 77;refine(ξI _ _ _ _).mono ?_;rintro e w' ⟨rfl,rfl⟩;rw[hb])
     go_ret
     exact⟨by rw[HF.out];rfl,rfl⟩
   have c1d:decide ((s[0].toNat:Int)<97)=false:=ξf c1
   have c2d:decide (122<(s[0].toNat:Int))=false:=ξf c2
   have HHD:=ξh (show hd0 s=true by rw[HLE.out,ξt (show 97≤(s[0].toNat:Int) by omega),ξt (show(s[0].toNat:Int)≤122 by omega)];rfl)
   go_enter Tryz.func168,Tryz.ntmps168
   go_wp2_with (go_at_call 77;refine(ξI _ _ _ _).mono ?_;rintro e w' ⟨rfl,rfl⟩;rw[hb])
   go_loop [3] (fun i=>∃k:Nat,k≤s.size∧i= .int .i64 k∧Hid ((s.data.toList.take k).all sgnB=true)) (fun i=>s.size-(intOf i).toNat)
   case atStart=>exact⟨0,ξu _,rfl,by simp[Hid]⟩
   case round=>
    obtain⟨k,hk,rfl,HT⟩:=hrel
    by_cases hlt:k<s.size
    · have hltI:(k:Int)<(s.size:Int):=by omega
      have HN1:=ξh (HN.out k hlt)
      have HS1:=ξh (HS.out k hlt HT.out)
      have HQ:=ξh (fun w=>l2Sign_any s[k] w)
      generalize sgnB s[k]=ok at *
      cases ok
      · have HF:=ξh (HN1.out rfl)
        go_wp2_with (go_at_call 211;refine(HQ.out _).mono ?_;rintro e w' ⟨rfl,rfl⟩)
        go_ret
        exact⟨by rw[HF.out];rfl,rfl⟩
      · have HT2:=ξh (HS1.out rfl)
        go_wp2_with (go_at_call 211;refine(HQ.out _).mono ?_;rintro e w' ⟨rfl,rfl⟩)
        go_round
        case rel=>exact⟨k+1,hlt,by go_num,HT2.out⟩
        case measure=>simp[intOf];omega
    · obtain rfl:k=s.size:=by omega
      have hall:=HT.out
      rw[HA.out] at hall
      have HR:=ξh (HY.out hl HHD.out hall)
      go_wp2
      go_ret
      exact⟨by rw[HR.out];rfl,rfl⟩
 · have hb:inB (s.size:Int) 1 8=false:=by
    by_cases h1:1≤s.size
    · simp[inB];omega
    · simp[inB];omega
   have HF:=ξh (HL.out hl)
   clear hl
   go_enter Tryz.func168,Tryz.ntmps168
   go_wp2_with (go_at_call 77;refine(ξI _ _ _ _).mono ?_;rintro e w' ⟨rfl,rfl⟩;rw[hb])
   go_ret
   exact⟨by rw[HF.out];rfl,rfl⟩
theorem ξbq (v:Value) (n:Net) (w:World) (h:NetR w v n):
 Calls Tryz.prog 126 #[v] w fun e w'=>e= .returned (.bool (ξL n))∧Below w.heap.size w w':=by
 obtain⟨u1,u2,rfl,r1,r2,hsm⟩:=h
 obtain⟨a1,m1,c1,rfl,HN1,hc1,hm1,ha1⟩:=ξC (m:=1) (enc:=strE) (fun _=>rfl) (by omega) nilS r1
 obtain⟨a2,m2,c2,rfl,HN2,hc2,hm2,ha2⟩:=ξC (m:=4) (enc:=fibE) (fun _=>rfl) (by omega) nilB r2
 have HNM:=ξh (fun i hi h=>@netOk_nm n i hi h)
 have HFB:=ξh (fun i hi h=>@netOk_fb n i hi h)
 have HALL:=ξh (@netOk_all n)
 have HSZ:=ξh (@netOk_sz n)
 rw[HN1.out,HN2.out] at HALL HSZ
 rw[HN1.out] at HNM
 rw[HN2.out] at HFB
 generalize ξL n=q at *
 obtain⟨bx,bc,blt,-⟩:=ξD w #[.slice a1 m1 c1,.slice a2 m2 c2] 35
 have q0:=bc 0 _ rfl
 have q1:=bc 1 _ rfl
 have HA1:=ξh ha1
 have HA2:=ξh ha2
 have HR1:=ξh (r1.behind bx)
 have HBX:=ξh bx
 have HSM:=ξh hsm
 clear bc ha1 ha2 r1 r2 bx hsm
 go_enter Tryz.func126,Tryz.ntmps126
 by_cases hsz:2≤m1∧m1≤8∧m2≤14
 case neg=>
  have HF:=ξh (HSZ.out hsz)
  by_cases h1:2≤m1∧m1≤8
  · have hin:inB (m1:Int) 2 8=true:=by unfold inB;simp;omega
    have hd:decide (14<(m2:Int))=true:=ξt (by omega)
    have hd2:decide (14<m2)=true:=ξt (by omega)
    clear hsz h1
    go_wp2_with (go_at_call 77;refine(ξI _ _ _ _).mono ?_;rintro e w' ⟨rfl,rfl⟩;rw[hin])
    go_ret
    exact⟨by rw[HF.out];rfl,HBX.out⟩
  · have hin:inB (m1:Int) 2 8=false:=by
     by_cases h2:2≤m1
     · unfold inB;simp;omega
     · unfold inB;simp;omega
    clear hsz h1
    go_wp2_with (go_at_call 77;refine(ξI _ _ _ _).mono ?_;rintro e w' ⟨rfl,rfl⟩;rw[hin])
    go_ret
    exact⟨by rw[HF.out];rfl,HBX.out⟩
 have hin:inB (m1:Int) 2 8=true:=by unfold inB;simp;omega
 have hd:decide (14<(m2:Int))=false:=ξf (by omega)
 have hd2:decide (14<m2)=false:=ξf (by omega)
 obtain⟨z1,z2,z3⟩:=hsz
 rw[ξt (show 2≤m1∧m1≤8∧m2≤14 from⟨z1,z2,z3⟩)] at HALL
 clear HSZ
 go_wp2_with (go_at_call 77;refine(ξI _ _ _ _).mono ?_;rintro e w' ⟨rfl,rfl⟩;rw[hin])
 generalize w.alloc (.cells #[.slice a1 m1 c1,.slice a2 m2 c2] 35)=w1 at *
 clear hin hd hd2
 go_loopw [3] (fun i wr=>∃k:Nat,k≤m1∧i= .int .i64 k∧Hid (∀i,i<k→nmOk n i=true)∧Hid (Below w1.heap.size w1 wr)) (fun i _=>m1-(intOf i).toNat)
 case atStart=>exact⟨0,ξu _,rfl,fun i hi=>by omega,ξb _ _⟩
 case round=>
  obtain⟨k,hk,rfl,HK,HB⟩:=hrel
  have p0:=(HB.cell blt).trans q0
  have p1:=(HB.cell blt).trans q1
  by_cases hlt:k<m1
  · have hltI:(k:Int)<(m1:Int):=by omega
    have hkx:k<n.ns.length:=by rw[HN1.out];exact hlt
    obtain⟨b,off,rfl,hbs,hcs⟩:=HA1.out (by omega)
    have hc0:=hcs k hlt 0 _ rfl
    rw[Nat.mul_one,Nat.add_zero] at hc0
    have hcw:=(HB.cell (p:=⟨b,off+k,none⟩) (ξq hbs HBX.size)).trans ((HBX.cell hbs).trans hc0)
    have HNA:=ξh (fun w=>l2Name_any (nmA n k) w (ξs (HSM.out k) (by decide)))
    have HFI:=ξh (fun d os=>l2Find_any _ n.ns (nmA n k) _ ((HR1.behind HB.out).rg d os))
    have HV:=ξh (show nmOk n k=(ξan (nmA n k)&&decide (plc n.ns (nmA n k)=(k:Int))) from rfl)
    have HST:=ξh (fun h=>ξaS HK.out (k:=k) h)
    have HNO:=ξh (HNM.out k hlt)
    clear hcs hc0 hkx
    unfold nmA at *
    generalize hx:n.ns[k]?.getD nilS=x at *
    clear hx
    cases hN:ξan x
    · have HF:=ξh (HNO.out (by rw[HV.out,hN];rfl))
      clear HNO HST HV HFI
      rw[hN] at HNA
      clear hN
      go_wp2
      have j0:=rg p0
      have j1:=rg p1
      have j2:=rg hcw
      clear p0 p1 hcw
      refine ξv ?_
      repeat (go_big_quiet_step (first | (go_at_call 168;exact ξK (HNA.out _))))
      refine wpQuiet_nil ?_
      rintro _ ⟨⟨dq,osq⟩,rfl⟩
      go_wp2
      go_ret
      exact⟨by rw[HF.out];rfl,HBX.trans ((HB.mono HBX.size).trans ((ξc _ dq osq).mono (ξs HBX.size HB.size)))⟩
    rw[hN] at HNA HV
    have HV2:=ξh (show nmOk n k=decide (plc n.ns x=(k:Int)) by rw[HV.out];simp)
    clear hN HV
    generalize plc n.ns x=pl at *
    have hne:(pl != (k:Int))= !decide (pl=(k:Int)):=rfl
    cases hP:decide (pl=(k:Int))
    · have HF:=ξh (HNO.out (by rw[HV2.out,hP]))
      rw[hP] at hne
      have hne2:(pl != (k:Int))=true:=hne
      clear HNO HST HV2 hP hne
      go_wp2
      have j0:=rg p0
      have j1:=rg p1
      have j2:=rg hcw
      clear p0 p1 hcw
      refine ξv ?_
      repeat (go_big_quiet_step (first | (go_at_call 168;exact ξK (HNA.out _)) | (go_at_call 169;exact ξK (HFI.out _ _))))
      refine wpQuiet_nil ?_
      rintro _ ⟨⟨dq,osq⟩,rfl⟩
      go_wp2
      go_ret
      exact⟨by rw[HF.out];rfl,HBX.trans ((HB.mono HBX.size).trans ((ξc _ dq osq).mono (ξs HBX.size HB.size)))⟩
    · have HS:=ξh (HST.out (by rw[HV2.out,hP]))
      rw[hP] at hne
      have hne2:(pl != (k:Int))=false:=hne
      clear HNO HST HV2 hP hne
      go_wp2
      have j0:=rg p0
      have j1:=rg p1
      have j2:=rg hcw
      clear p0 p1 hcw
      refine ξv ?_
      repeat (go_big_quiet_step (first | (go_at_call 168;exact ξK (HNA.out _)) | (go_at_call 169;exact ξK (HFI.out _ _))))
      refine wpQuiet_nil ?_
      rintro _ ⟨⟨dq,osq⟩,rfl⟩
      go_wp2
      go_roundw
      case rel=>exact⟨k+1,hlt,by go_num,HS.out,HB.trans ((ξc _ dq osq).mono HB.size)⟩
      case measure=>simp[intOf];omega
  · obtain rfl:m1=k:=by omega
    have HAL1:=ξh (HALL.out HK.out)
    clear HALL HK HNM HR1
    go_wp2
    go_loopw [4] (fun i wr=>∃k:Nat,k≤m2∧i= .int .i64 k∧Hid (∀i,i<k→fbOk n i=true)∧Hid (Below w1.heap.size w1 wr)) (fun i _=>m2-(intOf i).toNat)
    case atStart=>exact⟨0,ξu _,rfl,fun i hi=>by omega,HB.out⟩
    case round=>
     clear HB p0 p1
     obtain⟨k,hk,rfl,HK,HB⟩:=hrel
     have p0:=(HB.cell blt).trans q0
     have p1:=(HB.cell blt).trans q1
     by_cases hlt:k<m2
     · have hltI:(k:Int)<(m2:Int):=by omega
       obtain⟨b,off,rfl,hbs,hcs⟩:=HA2.out (by omega)
       have hcw:=fun(i:Nat) (hi:i<m2) (r:Nat) (u:Value) (hu:(fibE (n.fs[i]?.getD nilB))[r]?= some u)=>(HB.cell (p:=⟨b,off+i*4+r,none⟩) (ξq hbs HBX.size)).trans ((HBX.cell hbs).trans (hcs i hi r u hu))
       have HC:=ξh hcw
       have HST:=ξh (fun h=>ξaS HK.out (k:=k) h)
       have HNO:=ξh (HFB.out k hlt)
       have HV:=ξh (show fbOk n k=(fibOk (fbA n k) n.ns.length && !(decide (0<k)&&fibGt (fbA n (k-1)) (fbA n k))) from rfl)
       rw[HN1.out] at HV
       have c0:=hcw k hlt 0 _ rfl
       have c1:=hcw k hlt 1 _ rfl
       have c2:=hcw k hlt 2 _ rfl
       have c3:=hcw k hlt 3 _ rfl
       simp only[Nat.add_zero] at c0
       have j0:=rg c0
       have j1:=rg c1
       have j2:=rg c2
       have j3:=rg c3
       have j4:=rg p0
       have j5:=rg p1
       clear hcs hcw c0 c1 c2 c3
       unfold fbA at *
       have HFI:=ξh (fun w=>l2Fiber_any (n.fs[k]?.getD nilB) m1 w (by omega))
       have HSMK:=ξh (fun h=>@ξcr (n.fs[k]?.getD nilB) m1 h (by omega))
       generalize n.fs[k]?.getD nilB=f at *
       unfold fibV at HFI
       generalize hok:fibOk f m1=ok at *
       cases ok
       · have HF:=ξh (HNO.out (by rw[HV.out];rfl))
         clear hok HNO HST HV
         go_wp2
         clear p0 p1
         refine ξv ?_
         repeat (go_big_quiet_step (first | (go_at_call 170;exact Calls.regrown_of (HFI.out _))))
         refine wpQuiet_nil ?_
         rintro _ ⟨⟨dq,osq⟩,rfl⟩
         go_wp2
         go_ret
         exact⟨by rw[HF.out];rfl,HBX.trans ((HB.mono HBX.size).trans ((ξc _ dq osq).mono (ξs HBX.size HB.size)))⟩
       by_cases hk0:k=0
       · have hk0b:decide (0<k)=false:=ξf (by omega)
         have hk0c:decide (0<(k:Int))=false:=ξf (by omega)
         have hv:=HV.out
         rw[ξf (show¬0<k by omega)] at hv
         have HS:=ξh (HST.out (by rw[hv];rfl))
         clear hok hk0 hv HV
         go_wp2
         clear p0 p1
         refine ξv ?_
         repeat (go_big_quiet_step (first | (go_at_call 170;exact Calls.regrown_of (HFI.out _))))
         refine wpQuiet_nil ?_
         rintro _ ⟨⟨dq,osq⟩,rfl⟩
         go_wp2
         go_roundw
         case rel=>exact⟨k+1,hlt,by go_num,HS.out,HB.trans ((ξc _ dq osq).mono HB.size)⟩
         case measure=>simp[intOf];omega
       · obtain⟨k',hk'⟩:∃k',k=k'+1:=⟨k-1,by omega⟩
         have hgo:=HK.out k' (by omega)
         have o0:=HC.out k' (by omega) 0 _ rfl
         have o1:=HC.out k' (by omega) 1 _ rfl
         have o2:=HC.out k' (by omega) 2 _ rfl
         have o3:=HC.out k' (by omega) 3 _ rfl
         simp only[Nat.add_zero] at o0
         have t0:=rg o0
         have t1:=rg o1
         have t2:=rg o2
         have t3:=rg o3
         have hsg:ξV (n.fs[k']?.getD nilB):=by
          unfold fbOk fbA at hgo
          rw[HN1.out] at hgo
          simp only[Bool.and_eq_true] at hgo
          exact ξcr hgo.1 (by omega)
         have HCF:=ξh (fun w=>ξch (n.fs[k']?.getD nilB) f w hsg (HSMK.out rfl))
         have HGT:=ξh (befF_gt (n.fs[k']?.getD nilB) f)
         have hv:=HV.out
         rw[show k-1=k' by omega,ξt (show 0<k by omega)] at hv
         have HV2:=ξh hv
         clear hok hv HV o0 o1 o2 o3 hgo hsg HSMK
         generalize n.fs[k']?.getD nilB=g at *
         have hkp:(0:Int)<(k:Int):=by omega
         have hkd:decide (0<(k:Int))=true:=ξt hkp
         have hke:decide (0<k)=true:=ξt (by omega)
         have f1w:IntKind.i64.wrap ((k:Int)-1)=(k':Int):=by rw[ξi _ (by omega)];omega
         have f2w:(k':Int)<(m2:Int):=by omega
         clear hk' hk0
         unfold fibV at HCF
         generalize befF g f=cc at *
         cases hgt:fibGt g f
         · have HS:=ξh (HST.out (by rw[HV2.out,hgt];simp))
           have hdc:decide (0<cc)=false:=by rw[HGT.out,hgt]
           clear hgt HNO HST HV2 HGT
           go_wp2
           clear p0 p1
           refine ξv ?_
           repeat (go_big_quiet_step (first | (go_at_call 170;exact Calls.regrown_of (HFI.out _)) | (go_at_call 171;exact Calls.regrown_of (HCF.out _))))
           refine wpQuiet_nil ?_
           rintro _ ⟨⟨dq,osq⟩,rfl⟩
           go_wp2
           go_roundw
           case rel=>exact⟨k+1,hlt,by go_num,HS.out,HB.trans ((ξc _ dq osq).mono HB.size)⟩
           case measure=>simp[intOf];omega
         · have HF:=ξh (HNO.out (by rw[HV2.out,hgt];simp))
           have hdc:decide (0<cc)=true:=by rw[HGT.out,hgt]
           clear hgt HNO HST HV2 HGT
           go_wp2
           clear p0 p1
           refine ξv ?_
           repeat (go_big_quiet_step (first | (go_at_call 170;exact Calls.regrown_of (HFI.out _)) | (go_at_call 171;exact Calls.regrown_of (HCF.out _))))
           refine wpQuiet_nil ?_
           rintro _ ⟨⟨dq,osq⟩,rfl⟩
           go_wp2
           go_ret
           exact⟨by rw[HF.out];rfl,HBX.trans ((HB.mono HBX.size).trans ((ξc _ dq osq).mono (ξs HBX.size HB.size)))⟩
     · obtain rfl:m2=k:=by omega
       have HE:=ξh (HAL1.out HK.out)
       go_wp2
       go_ret
       exact⟨by rw[HE.out];rfl,HBX.trans (HB.mono HBX.size)⟩
theorem ξcA (v:Value) (zs:List Gro) (F:FuncId) (b0:Nat) (p:Gro→Bool) (w:World) (h:Rdt w (flt 6 groE zs) v) (hF:IsFn F)
 (hp:∀(i:Nat) (w':World),i<zs.length→Below w.heap.size w w'→ ∀z,z=zs[i]?.getD nilG→Calls Tryz.prog F #[groV z,ptr b0] w' fun e w2=>e= .returned (.bool (p z))∧Below w'.heap.size w' w2):
 Calls Tryz.prog 131 #[v,.func (.func F) #[] #[ptr b0]] w fun e w'=>e= .returned (.int .i64 (idxG zs p))∧Below w.heap.size w w':=by
 obtain⟨a,n,cap,rfl,HN,_,hla,ha⟩:=ξC (m:=6) (enc:=groE) (fun _=>rfl) (by omega) nilG h
 rw[HN.out] at hp
 have HP:=ξh hp
 have HA:=ξh ha
 clear hp ha h
 have hF:=show∀(args:Array Value) (w:World),(callFunc F args).run Tryz.prog w= .ok (.enter F args) w from hF
 have HI:=ξh (fun k hk h e=>ξbe (zs:=zs) (p:=p) (nil:=nilG) (k:=k) hk h e)
 have HO:=ξh (ξaU (zs:=zs) (p:=p))
 have HM:=ξh (fun k hk h e=>ξaT (zs:=zs) (p:=p) (nil:=nilG) (k:=k) hk h e)
 generalize idxG zs p=r at *
 go_enter Tryz.func131,Tryz.ntmps131
 go_wp2
 go_loopw [5,8] (fun _ i wr=>∃k:Nat,k≤n∧i= .int .i64 k∧Hid ((zs.take k).any p=false)∧Hid (Below w.heap.size w wr)) (fun _ i _=>n-(intOf i).toNat)
 case atStart=>exact⟨0,by omega,rfl,by simp[Hid],ξb _ _⟩
 case round=>
  obtain⟨k,hk,rfl,HT,HB⟩:=hrel
  by_cases hlt:k<n
  · have hltI:(k:Int)<(n:Int):=by omega
    have hkx:k<zs.length:=by rw[HN.out];exact hlt
    obtain⟨b,off,rfl,hbs,hcs⟩:=HA.out (by omega)
    have hcell0:=hcs k hlt 0 _ rfl
    have hcell1:=hcs k hlt 1 _ rfl
    have hcell2:=hcs k hlt 2 _ rfl
    have hcell3:=hcs k hlt 3 _ rfl
    have hcell4:=hcs k hlt 4 _ rfl
    have hcell5:=hcs k hlt 5 _ rfl
    have hw0:=(HB.cell (p:=⟨b,off+k*6+0,none⟩) hbs).trans hcell0
    have hw1:=(HB.cell (p:=⟨b,off+k*6+1,none⟩) hbs).trans hcell1
    have hw2:=(HB.cell (p:=⟨b,off+k*6+2,none⟩) hbs).trans hcell2
    have hw3:=(HB.cell (p:=⟨b,off+k*6+3,none⟩) hbs).trans hcell3
    have hw4:=(HB.cell (p:=⟨b,off+k*6+4,none⟩) hbs).trans hcell4
    have hw5:=(HB.cell (p:=⟨b,off+k*6+5,none⟩) hbs).trans hcell5
    simp only[Nat.add_zero] at hw0
    have HPK:=ξh (HP.out k wr hlt HB.out _ rfl)
    have HIK:=ξh (HI.out k hkx HT.out)
    have HMK:=ξh (HM.out k hkx HT.out)
    clear hcs hkx hcell0 hcell1 hcell2 hcell3 hcell4 hcell5
    generalize zs[k]?.getD nilG=z at *
    unfold groV at HPK
    generalize p z=pz at *
    have hz:=HB.size
    cases pz
    · have HE:=ξh (HMK.out rfl)
      go_wp2_with fail
      refine HPK.mono ?_
      rintro e w2 ⟨rfl,b2⟩
      have HB2:=ξh (HB.trans (b2.mono hz))
      clear b2
      go_wp2
      go_roundw
      case rel=>exact⟨k+1,by omega,by go_num,HE.out,HB2.out⟩
      case measure=>simp[intOf];omega
    · have HE:=ξh (HIK.out rfl)
      go_wp2_with fail
      refine HPK.mono ?_
      rintro e w2 ⟨rfl,b2⟩
      have HB2:=ξh (HB.trans (b2.mono hz))
      clear b2
      go_wp2
      go_ret
      exact⟨by rw[HE.out];rfl,HB2.out⟩
  · obtain rfl:n=k:=by omega
    have hall:=HT.out
    rw[←HN.out,List.take_length] at hall
    have HE:=ξh (HO.out hall)
    clear hall
    go_wp2
    go_ret
    exact⟨by rw[HE.out];rfl,HB.out⟩
theorem ξcd (v:Value) (zs:List Gro) (F:FuncId) (b0:Nat) (p:Gro→Bool) (w:World) (h:Rdt w (flt 6 groE zs) v) (hF:IsFn F)
 (hp:∀(i:Nat) (w':World),i<zs.length→Below w.heap.size w w'→ ∀z,z=zs[i]?.getD nilG→Calls Tryz.prog F #[groV z,ptr b0] w' fun e w2=>e= .returned (.bool (p z))∧Below w'.heap.size w' w2):
 Calls Tryz.prog 79 #[v,.func (.func F) #[] #[ptr b0]] w fun e w'=>e= .returned (.bool (zs.any p))∧Below w.heap.size w w':=by
 have HI:=ξh (ξcA v zs F b0 p w h hF hp)
 have HG:=ξh (idxG_geq zs p)
 generalize idxG zs p=r at *
 generalize zs.any p=s at *
 obtain⟨a,n,cap,rfl,-⟩:=ξC (m:=6) (enc:=groE) (fun _=>rfl) (by omega) nilG h
 clear h hp hF
 go_enter Tryz.func79,Tryz.ntmps79
 go_wp2_with fail
 refine HI.mono ?_
 rintro e w2 ⟨rfl,b2⟩
 have HB:=ξh b2
 clear b2
 go_wp2
 go_ret
 exact⟨by rw[←HG.out];rfl,HB.out⟩
end Go.Proofs.YtofcicomhnkocaaGreat
