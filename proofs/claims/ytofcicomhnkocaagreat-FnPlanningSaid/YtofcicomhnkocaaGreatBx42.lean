import Derived.Test.YtofcicomhnkocaaGreatBx41
set_option linter.unusedVariables false
namespace Go.Proofs.YtofcicomhnkocaaGreat
set_option maxHeartbeats 3200000
open Go.RowKit Go.Sort
set_option maxRecDepth 100000
theorem take_any_no {α:Type} {zs:List α} {f:α→Bool} {nil:α} {k:Nat} (h:∀j,j<k→f (zs[j]?.getD nil)=false):(zs.take k).any f=false:=by
 rw[List.any_eq_false]
 intro x hx
 obtain⟨j,hj,rfl⟩:=List.mem_take_iff_getElem.1 hx
 have:=h j (by omega)
 rw[ξg (by omega)] at this
 simpa using this
theorem take_any_yes {α:Type} {zs:List α} {f:α→Bool} {nil:α} {k j:Nat} (hj:j<k) (hl:j<zs.length) (h:f (zs[j]?.getD nil)=true):(zs.take k).any f=true:=by
 rw[List.any_eq_true]
 rw[ξg hl] at h
 exact⟨zs[j],List.mem_take_iff_getElem.2 ⟨j,by omega,rfl⟩,h⟩
theorem l9Good_any (v:Value) (p:Pln) (w:World) (h:PlnR w v p) (hfb:∀i:Nat,(lgA p i).fb.length≤1100000):
 Calls Tryz.prog 96 #[v] w fun e w'=>e= .returned (.bool (ξam p))∧Below w.heap.size w w':=by
 obtain⟨u1,u2,u3,rfl,r1,r2,r3,hsm⟩:=h
 have hnet:NetR w (.agg #[u1,u2]) p.n:=⟨u1,u2,rfl,r1,r2,hsm⟩
 obtain⟨⟨a1,m1,c1,rfl⟩,a2,m2,c2,rfl⟩:=ξF hnet
 obtain⟨a3,m3,c3,rfl,HN3,hc3,hm3,ha3⟩:=ξa1 r3
 have HNV:=ξh (fun w' (hb:Below w.heap.size w w')=>ξbq _ p.n w' (hnet.behind hb))
 have HNE:=ξh hnet
 have HA:=ξh ha3
 have HR3:=ξh r3
 have HFB:=ξh hfb
 have HX1:=ξh (@plnOk_net p)
 have HX2:=ξh (@plnOk_len p)
 have HX3:=ξh (fun i hi h=>@plnOk_at p i hi h)
 have HX4:=ξh (@plnOk_all p)
 rw[HN3.out] at HX2 HX3 HX4
 obtain⟨bx,bc,blt,-⟩:=ξD w #[.slice a1 m1 c1,.slice a2 m2 c2,.slice a3 m3 c3] 75
 have q0:=bc 0 _ rfl
 have q1:=bc 1 _ rfl
 have q2:=bc 2 _ rfl
 have HBX:=ξh bx
 clear bx bc ha3 r1 r2 r3 hsm hnet hfb
 generalize ξam p=q at *
 go_enter Tryz.func96,Tryz.ntmps96
 go_wp2_with fail
 generalize w.alloc (.cells #[.slice a1 m1 c1,.slice a2 m2 c2,.slice a3 m3 c3] 75)=w1 at *
 have HNV1:=ξh (HNV.out w1 HBX.out)
 cases hok:ξL p.n
 · have HF:=ξh (HX1.out hok)
   rw[hok] at HNV1
   refine HNV1.mono ?_
   rintro e w2 ⟨rfl,b2⟩
   have HB2:=ξh (HBX.trans (b2.mono HBX.size))
   clear b2 hok
   go_wp2
   go_ret
   exact⟨by rw[HF.out];rfl,HB2.out⟩
 rw[hok] at HNV1
 refine HNV1.mono ?_
 rintro e w2 ⟨rfl,b2⟩
 have p2:=(b2.cell blt).trans q2
 have HB2:=ξh b2
 clear b2
 by_cases h12:m3≤12
 case neg=>
  have HF:=ξh (HX2.out h12)
  have hd:decide (12<(m3:Int))=true:=ξt (by omega)
  have hd2:decide (12<m3)=true:=ξt (by omega)
  clear h12
  go_wp2
  go_ret
  exact⟨by rw[HF.out];rfl,HBX.trans (HB2.mono HBX.size)⟩
 have hd:decide (12<(m3:Int))=false:=ξf (by omega)
 have hd2:decide (12<m3)=false:=ξf (by omega)
 go_wp2
 clear hd hd2
 go_loopw [3,4] (fun i _ wr=>∃k:Nat,k≤m3∧i= .int .i64 k∧Hid (∀i,i<k→ltOk p i=true)∧Hid (Below w1.heap.size w1 wr)) (fun i _ _=>m3-(intOf i).toNat)
 case atStart=>exact⟨0,ξu _,rfl,fun i hi=>by omega,HB2.out⟩
 case round=>
  obtain⟨k,hk,rfl,HK,HB⟩:=hrel
  by_cases hlt:k<m3
  · have hltI:(k:Int)<(m3:Int):=by omega
    obtain⟨b,off,rfl,hbs,hcs⟩:=HA.out (by omega)
    have HCS:=ξh hcs
    obtain⟨u,e0,e1,e2,e3,e4,hru⟩:=hcs k hlt
    have BW:=HBX.trans (HB.mono HBX.size)
    have HBW:=ξh BW
    have x0:=(BW.cell (p:=⟨b,off+k*5,none⟩) hbs).trans e0
    have x1:=(BW.cell (p:=⟨b,off+k*5+1,none⟩) hbs).trans e1
    have x2:=(BW.cell (p:=⟨b,off+k*5+2,none⟩) hbs).trans e2
    have x3:=(BW.cell (p:=⟨b,off+k*5+3,none⟩) hbs).trans e3
    have x4:=(BW.cell (p:=⟨b,off+k*5+4,none⟩) hbs).trans e4
    have p0:=(HB.cell (p:=⟨w.heap.size,0,none⟩) blt).trans q0
    have p1:=(HB.cell (p:=⟨w.heap.size,1,none⟩) blt).trans q1
    have p2:=(HB.cell (p:=⟨w.heap.size,2,none⟩) blt).trans q2
    have HRU:=ξh hru
    obtain⟨au,cu,nu,-,rfl,-,-,-⟩:=hru.opn
    have HV:=ξh (show ltOk p k=(ξah p.n (p.ls[k]?.getD nilL)&&(!(decide (0<k)&&decide ((p.ls[k]?.getD nilL).id≤(p.ls[k-1]?.getD nilL).id)) && !((p.ls.take k).any fun y=>ξY y (p.ls[k]?.getD nilL)))) from rfl)
    have HNO:=ξh (HX3.out k hlt)
    have HST:=ξh (fun h=>ξaS HK.out (k:=k) h)
    have HFK:=ξh (show(p.ls[k]?.getD nilL).fb.length≤1100000 from HFB.out k)
    have HXC:=ξh (And.intro e0 (And.intro e1 (And.intro e2 (And.intro e3 e4))))
    clear hcs e0 e1 e2 e3 e4 BW hru
    generalize p.ls[k]?.getD nilL=l at *
    have HIL:=ξh (fun wx (hb:Below w.heap.size w wx)=>l9Light_any (.slice a1 m1 c1) (.slice a2 m2 c2) (.slice au nu cu) p.n l wx (HNE.behind hb) hok (HRU.belowAll hb) HFK.out)
    cases hlo:ξah p.n l
    · have HF:=ξh (HNO.out (by rw[HV.out,hlo];rfl))
      rw[hlo] at HIL
      go_wp2
      have j0:=rg p0
      have j1:=rg p1
      have j2:=rg p2
      have k0:=rg x0
      have k1:=rg x1
      have k2:=rg x2
      have k3:=rg x3
      have k4:=rg x4
      have HIL2:=ξh (fun d os=>HIL.out (grow (redrawn wr d) os) (HBW.trans ((ξc wr d os).mono HBW.size)))
      clear x0 x1 x2 x3 x4 p0 p1 p2
      refine ξv ?_
      repeat (go_big_quiet_step (first | (go_at_call 144;exact Calls.regrown_of (HIL2.out _ _))))
      refine wpQuiet_nil ?_
      rintro _ ⟨⟨dq,osq⟩,rfl⟩
      go_wp2
      go_ret
      exact⟨by rw[HF.out];rfl,HBW.trans ((ξc _ dq osq).mono HBW.size)⟩
    have hbl:ξac l.fi l.ct=true:=by unfold ξah at hlo;simp only[Bool.and_eq_true] at hlo;exact hlo.2
    rw[hlo] at HIL HV
    have HNY:=ξh (fun h=>take_any_no (zs:=p.ls) (f:=fun y=>ξY y l) (nil:=nilL) (k:=k) h)
    have HYY:=ξh (fun j h1 h2 h3=>take_any_yes (zs:=p.ls) (f:=fun y=>ξY y l) (nil:=nilL) (k:=k) (j:=j) h1 h2 h3)
    clear hlo
    by_cases hk0:k=0
    · have hk0b:decide (0<k)=false:=ξf (by omega)
      have hk0c:decide (0<(k:Int))=false:=ξf (by omega)
      have hv:=HV.out
      rw[hk0b] at hv
      have HV2:=ξh (show ltOk p k= !((p.ls.take k).any fun y=>ξY y l) by rw[hv];rfl)
      clear hk0 hv HV
      go_wp2
      have j0:=rg p0
      have j1:=rg p1
      have j2:=rg p2
      have k0:=rg x0
      have k1:=rg x1
      have k2:=rg x2
      have k3:=rg x3
      have k4:=rg x4
      have HIL2:=ξh (fun d os=>HIL.out (grow (redrawn wr d) os) (HBW.trans ((ξc wr d os).mono HBW.size)))
      clear x0 x1 x2 x3 x4 p0 p1 p2
      refine ξv ?_
      repeat (go_big_quiet_step (first | (go_at_call 144;exact Calls.regrown_of (HIL2.out _ _))))
      refine wpQuiet_nil ?_
      rintro _ ⟨⟨dq,osq⟩,rfl⟩
      have bq:=ξc wr dq osq
      have HBQ:=ξh (HB.trans (bq.mono HB.size))
      generalize grow (redrawn wr dq) osq=w4 at *
      clear bq j0 j1 j2 k0 k1 k2 k3 k4
      go_wp2
      go_loopw [4] (fun i wi=>∃j:Nat,j≤k∧i= .int .i64 j∧Hid (∀i,i<j→ξY (p.ls[i]?.getD nilL) l=false)∧Hid (Below w1.heap.size w1 wi)) (fun i _=>k-(intOf i).toNat)
      case atStart=>exact⟨0,ξu _,rfl,fun i hi=>by omega,HBQ.out⟩
      case round=>
       obtain⟨j,hj,rfl,HJ,HBJ⟩:=hrel
       by_cases hjt:j<k
       · have hjI:(j:Int)<(k:Int):=by omega
         have hjm:j<m3:=by omega
         have hjmI:(j:Int)<(m3:Int):=by omega
         obtain⟨uj,e0,e1,e2,e3,e4,hrj⟩:=HCS.out j hjm
         obtain⟨g0,g1,g2,g3,g4⟩:=HXC.out
         have BJ:=HBX.trans (HBJ.mono HBX.size)
         have e0:=rg ((BJ.cell (p:=⟨b,off+j*5,none⟩) hbs).trans e0)
         have e1:=rg ((BJ.cell (p:=⟨b,off+j*5+1,none⟩) hbs).trans e1)
         have e2:=rg ((BJ.cell (p:=⟨b,off+j*5+2,none⟩) hbs).trans e2)
         have e3:=rg ((BJ.cell (p:=⟨b,off+j*5+3,none⟩) hbs).trans e3)
         have e4:=rg ((BJ.cell (p:=⟨b,off+j*5+4,none⟩) hbs).trans e4)
         have g0:=rg ((BJ.cell (p:=⟨b,off+k*5,none⟩) hbs).trans g0)
         have g1:=rg ((BJ.cell (p:=⟨b,off+k*5+1,none⟩) hbs).trans g1)
         have g2:=rg ((BJ.cell (p:=⟨b,off+k*5+2,none⟩) hbs).trans g2)
         have g3:=rg ((BJ.cell (p:=⟨b,off+k*5+3,none⟩) hbs).trans g3)
         have g4:=rg ((BJ.cell (p:=⟨b,off+k*5+4,none⟩) hbs).trans g4)
         have p2:=rg ((HBJ.cell (p:=⟨w.heap.size,2,none⟩) blt).trans q2)
         have HBJW:=ξh BJ
         have HCO:=ξh (fun d os=>ξcc uj (.slice au nu cu) (p.ls[j]?.getD nilL) l (grow (redrawn wr d) os) (hrj.belowAll (HBJW.trans ((ξc wr d os).mono HBJW.size))) (HRU.belowAll (HBJW.trans ((ξc wr d os).mono HBJW.size))) (ltOk_blk (HK.out j hjt)) hbl (HFB.out j))
         have HJS:=ξh (fun(h:ξY (p.ls[j]?.getD nilL) l=false)=>show∀i,i<j+1→ξY (p.ls[i]?.getD nilL) l=false from fun i hi=>by
          rcases Nat.lt_or_ge i j with e | e
          · exact HJ.out i e
          · have:i=j:=by omega
            rw[this];exact h)
         have HYJ:=ξh (HYY.out j hjt (by rw[HN3.out];exact hjm))
         obtain⟨aj,cj,nj,-,rfl,-,-,-⟩:=hrj.opn
         clear hrj BJ
         generalize p.ls[j]?.getD nilL=z at *
         generalize ξY z l=co at *
         cases co
         · have HS:=ξh (HJS.out rfl)
           go_wp2
           refine ξv ?_
           repeat (go_big_quiet_step (first | (go_at_call 145;exact Calls.regrown_of (HCO.out _ _))))
           refine wpQuiet_nil ?_
           rintro _ ⟨⟨dr,osr⟩,rfl⟩
           go_wp2
           go_roundw
           case rel=>exact⟨j+1,hjt,by go_num,HS.out,HBJ.trans ((ξc wr dr osr).mono HBJ.size)⟩
           case measure=>simp[intOf];omega
         · have HF:=ξh (HNO.out (by rw[HV2.out,HYJ.out rfl];rfl))
           go_wp2
           refine ξv ?_
           repeat (go_big_quiet_step (first | (go_at_call 145;exact Calls.regrown_of (HCO.out _ _))))
           refine wpQuiet_nil ?_
           rintro _ ⟨⟨dr,osr⟩,rfl⟩
           go_wp2
           go_ret
           exact⟨by rw[HF.out];rfl,HBX.trans ((HBJ.trans ((ξc wr dr osr).mono HBJ.size)).mono HBX.size)⟩
       · obtain rfl:k=j:=by omega
         have HS:=ξh (HST.out (by rw[HV2.out,HNY.out HJ.out];rfl))
         go_wp2
         go_roundw
         case rel=>exact⟨k+1,hlt,by go_num,HS.out,HBJ.out⟩
         case measure=>simp[intOf];omega
    · obtain⟨k',hk'⟩:∃k',k=k'+1:=⟨k-1,by omega⟩
      have hkk:k-1=k':=by omega
      have hk0b:decide (0<k)=true:=ξt (by omega)
      have hk0c:decide (0<(k:Int))=true:=ξt (by omega)
      have hkp:(0:Int)<(k:Int):=by omega
      have f1w:IntKind.i64.wrap ((k:Int)-1)=(k':Int):=by rw[ξi _ (by omega)];omega
      have f2w:(k':Int)<(m3:Int):=by omega
      have f3w:k'<m3:=by omega
      obtain⟨u',t0,-,-,-,-,-⟩:=HCS.out k' f3w
      have t0:=(HBW.cell (p:=⟨b,off+k'*5,none⟩) hbs).trans t0
      have hv:=HV.out
      rw[hkk,hk0b] at hv
      generalize hpid:(p.ls[k']?.getD nilL).id=pid at *
      have HV1:=ξh hv
      clear hk0 hv HV hk' hkk hpid
      cases hge:decide (l.id≤pid)
      case true=>
       have HF:=ξh (HNO.out (by rw[HV1.out,hge];rfl))
       clear HV1 HST HNO
       go_wp2
       have j0:=rg p0
       have j1:=rg p1
       have j2:=rg p2
       have k0:=rg x0
       have k1:=rg x1
       have k2:=rg x2
       have k3:=rg x3
       have k4:=rg x4
       have jt:=rg t0
       have HIL2:=ξh (fun d os=>HIL.out (grow (redrawn wr d) os) (HBW.trans ((ξc wr d os).mono HBW.size)))
       clear x0 x1 x2 x3 x4 p0 p1 p2
       refine ξv ?_
       repeat (go_big_quiet_step (first | (go_at_call 144;exact Calls.regrown_of (HIL2.out _ _))))
       refine wpQuiet_nil ?_
       rintro _ ⟨⟨dq,osq⟩,rfl⟩
       have bq:=ξc wr dq osq
       have HBQ:=ξh (HB.trans (bq.mono HB.size))
       generalize grow (redrawn wr dq) osq=w4 at *
       clear bq j0 j1 j2 k0 k1 k2 k3 k4
       go_wp2
       go_ret
       exact⟨by rw[HF.out];rfl,HBX.trans (HBQ.mono HBX.size)⟩
      have HV2:=ξh (show ltOk p k= !((p.ls.take k).any fun y=>ξY y l) by rw[HV1.out,hge];rfl)
      clear HV1
      go_wp2
      have j0:=rg p0
      have j1:=rg p1
      have j2:=rg p2
      have k0:=rg x0
      have k1:=rg x1
      have k2:=rg x2
      have k3:=rg x3
      have k4:=rg x4
      have jt:=rg t0
      have HIL2:=ξh (fun d os=>HIL.out (grow (redrawn wr d) os) (HBW.trans ((ξc wr d os).mono HBW.size)))
      clear x0 x1 x2 x3 x4 p0 p1 p2
      refine ξv ?_
      repeat (go_big_quiet_step (first | (go_at_call 144;exact Calls.regrown_of (HIL2.out _ _))))
      refine wpQuiet_nil ?_
      rintro _ ⟨⟨dq,osq⟩,rfl⟩
      have bq:=ξc wr dq osq
      have HBQ:=ξh (HB.trans (bq.mono HB.size))
      generalize grow (redrawn wr dq) osq=w4 at *
      clear bq j0 j1 j2 k0 k1 k2 k3 k4
      go_wp2
      go_loopw [4] (fun i wi=>∃j:Nat,j≤k∧i= .int .i64 j∧Hid (∀i,i<j→ξY (p.ls[i]?.getD nilL) l=false)∧Hid (Below w1.heap.size w1 wi)) (fun i _=>k-(intOf i).toNat)
      case atStart=>exact⟨0,ξu _,rfl,fun i hi=>by omega,HBQ.out⟩
      case round=>
       obtain⟨j,hj,rfl,HJ,HBJ⟩:=hrel
       by_cases hjt:j<k
       · have hjI:(j:Int)<(k:Int):=by omega
         have hjm:j<m3:=by omega
         have hjmI:(j:Int)<(m3:Int):=by omega
         obtain⟨uj,e0,e1,e2,e3,e4,hrj⟩:=HCS.out j hjm
         obtain⟨g0,g1,g2,g3,g4⟩:=HXC.out
         have BJ:=HBX.trans (HBJ.mono HBX.size)
         have e0:=rg ((BJ.cell (p:=⟨b,off+j*5,none⟩) hbs).trans e0)
         have e1:=rg ((BJ.cell (p:=⟨b,off+j*5+1,none⟩) hbs).trans e1)
         have e2:=rg ((BJ.cell (p:=⟨b,off+j*5+2,none⟩) hbs).trans e2)
         have e3:=rg ((BJ.cell (p:=⟨b,off+j*5+3,none⟩) hbs).trans e3)
         have e4:=rg ((BJ.cell (p:=⟨b,off+j*5+4,none⟩) hbs).trans e4)
         have g0:=rg ((BJ.cell (p:=⟨b,off+k*5,none⟩) hbs).trans g0)
         have g1:=rg ((BJ.cell (p:=⟨b,off+k*5+1,none⟩) hbs).trans g1)
         have g2:=rg ((BJ.cell (p:=⟨b,off+k*5+2,none⟩) hbs).trans g2)
         have g3:=rg ((BJ.cell (p:=⟨b,off+k*5+3,none⟩) hbs).trans g3)
         have g4:=rg ((BJ.cell (p:=⟨b,off+k*5+4,none⟩) hbs).trans g4)
         have p2:=rg ((HBJ.cell (p:=⟨w.heap.size,2,none⟩) blt).trans q2)
         have HBJW:=ξh BJ
         have HCO:=ξh (fun d os=>ξcc uj (.slice au nu cu) (p.ls[j]?.getD nilL) l (grow (redrawn wr d) os) (hrj.belowAll (HBJW.trans ((ξc wr d os).mono HBJW.size))) (HRU.belowAll (HBJW.trans ((ξc wr d os).mono HBJW.size))) (ltOk_blk (HK.out j hjt)) hbl (HFB.out j))
         have HJS:=ξh (fun(h:ξY (p.ls[j]?.getD nilL) l=false)=>show∀i,i<j+1→ξY (p.ls[i]?.getD nilL) l=false from fun i hi=>by
          rcases Nat.lt_or_ge i j with e | e
          · exact HJ.out i e
          · have:i=j:=by omega
            rw[this];exact h)
         have HYJ:=ξh (HYY.out j hjt (by rw[HN3.out];exact hjm))
         obtain⟨aj,cj,nj,-,rfl,-,-,-⟩:=hrj.opn
         clear hrj BJ
         generalize p.ls[j]?.getD nilL=z at *
         generalize ξY z l=co at *
         cases co
         · have HS:=ξh (HJS.out rfl)
           go_wp2
           refine ξv ?_
           repeat (go_big_quiet_step (first | (go_at_call 145;exact Calls.regrown_of (HCO.out _ _))))
           refine wpQuiet_nil ?_
           rintro _ ⟨⟨dr,osr⟩,rfl⟩
           go_wp2
           go_roundw
           case rel=>exact⟨j+1,hjt,by go_num,HS.out,HBJ.trans ((ξc wr dr osr).mono HBJ.size)⟩
           case measure=>simp[intOf];omega
         · have HF:=ξh (HNO.out (by rw[HV2.out,HYJ.out rfl];rfl))
           go_wp2
           refine ξv ?_
           repeat (go_big_quiet_step (first | (go_at_call 145;exact Calls.regrown_of (HCO.out _ _))))
           refine wpQuiet_nil ?_
           rintro _ ⟨⟨dr,osr⟩,rfl⟩
           go_wp2
           go_ret
           exact⟨by rw[HF.out];rfl,HBX.trans ((HBJ.trans ((ξc wr dr osr).mono HBJ.size)).mono HBX.size)⟩
       · obtain rfl:k=j:=by omega
         have HS:=ξh (HST.out (by rw[HV2.out,HNY.out HJ.out];rfl))
         go_wp2
         go_roundw
         case rel=>exact⟨k+1,hlt,by go_num,HS.out,HBJ.out⟩
         case measure=>simp[intOf];omega
  · obtain rfl:m3=k:=by omega
    have p2:=(HB.cell (p:=⟨w.heap.size,2,none⟩) blt).trans q2
    have HE:=ξh (HX4.out hok h12 HK.out)
    go_wp2
    go_ret
    exact⟨by rw[HE.out];rfl,HBX.trans (HB.mono HBX.size)⟩
theorem specUse_any (v:Value) (p:Pln) (w:World) (h:PlnR w v p) (hv:ξam p=true) (hn2:p.n.fs.length≤14) (hlo:∀x∈p.ls,LgO p.n.fs.length x) (hfb:∀i:Nat,(lgA p i).fb.length≤1100000):
 Calls Tryz.prog 51 #[v] w fun e w'=>e= .returned (.tuple #[.int .i64 (sumK (ξa5 p.ls p.n.fs.length) p.n.fs.length),.int .i64 ((popN (orS (ξa5 p.ls p.n.fs.length) p.n.fs.length):Nat):Int),.bool true])∧Below w.heap.size w w':=by
 have HVP:=ξh (fun w' (hb:Below w.heap.size w w')=>by have:=l9Good_any v p w' (h.behind hb) hfb;rw[hv] at this;exact this)
 have HUO:=ξh (fun(k:Nat) w' (hb:Below w.heap.size w w')=>ξc5 v p (k:Int) w' (h.behind hb) hlo)
 have HLT:=ξh (fun i (hi:i<p.n.fs.length)=>orAll_lt (ls:=p.ls) hlo hi)
 have HGT:=ξh (fun i (hi:i<p.n.fs.length)=>ξaX (ls:=p.ls) hi (fun x hx f hf=>((hlo x hx).1 f hf).1))
 obtain⟨u1,u2,u3,rfl,r1,r2,r3,hsm⟩:=h
 have hnet:NetR w (.agg #[u1,u2]) p.n:=⟨u1,u2,rfl,r1,r2,hsm⟩
 obtain⟨⟨a1,m1,c1,rfl⟩,-⟩:=ξF hnet
 obtain⟨a2,m2,c2,rfl,HN2,hc2,hm2,-⟩:=ξC (m:=4) (enc:=fibE) (fun _=>rfl) (by omega) nilB r2
 obtain⟨a3,m3,c3,rfl,-⟩:=Rdt.opn r3
 generalize ξa5 p.ls p.n.fs.length=M at *
 have hn2':=HN2.out
 generalize p.n.fs.length=nf at *
 subst hn2'
 have HB1:=ξh ((ξb w.heap.size w).alloc (ξr _) (.cells #[.slice a1 m1 c1,.slice a2 nf c2,.slice a3 m3 c3] 75))
 have HX1:=ξh (ξn w (.cells #[.slice a1 m1 c1,.slice a2 nf c2,.slice a3 m3 c3] 75))
 clear hnet r1 r2 r3 hsm hlo hv hfb
 go_enter Tryz.func51,Tryz.ntmps51
 go_wp2_with fail
 obtain⟨bx,hbx⟩:∃bx,bx=w.heap.size:=⟨_,rfl⟩
 rw[←hbx] at HX1 ⊢
 clear hbx
 generalize w.alloc (.cells #[.slice a1 m1 c1,.slice a2 nf c2,.slice a3 m3 c3] 75)=w1 at *
 refine(HVP.out _ HB1.out).mono ?_
 rintro e w2 ⟨rfl,b2⟩
 have HB2:=ξh (HB1.trans (b2.mono HB1.size))
 have HX2:=ξh (ξA HX1.out b2)
 have HOB:=ξh (show∀k,k≤nf→orS M k<16777216 from fun k=>by
  induction k with
  | zero=>intro _;show 0<16777216;decide
  | succ k ih=>intro hk;exact or24 (ih (by omega)) (HLT.out k (by omega)))
 clear b2
 go_wp2_with fail
 go_loopw [5,6,7] (fun s5 s6 i wr=>∃k:Nat,k≤nf∧i= .int .i64 k∧s5= .int .i64 (sumK M k)∧s6= .int .i64 ((orS M k:Nat):Int)∧Hid (Below w2.heap.size w2 wr)) (fun _ _ i _=>nf-(intOf i).toNat)
 case atStart=>exact⟨0,by omega,rfl,rfl,rfl,ξb _ _⟩
 case round=>
  obtain⟨k,hk,rfl,rfl,rfl,HB⟩:=hrel
  have z1:=blkc (ξA HX2.out HB.out) (j:=1) (u:= .slice a2 nf c2) rfl
  by_cases hlt:k<nf
  · have hltI:(k:Int)<(nf:Int):=by omega
    have z0:=blkc (ξA HX2.out HB.out) (j:=0) (u:= .slice a1 m1 c1) rfl
    have z2:=blkc (ξA HX2.out HB.out) (j:=2) (u:= .slice a3 m3 c3) rfl
    have hx:=HLT.out k hlt
    have hg:=HGT.out k hlt
    have HST:=ξh (show sumK M (k+1)=sumK M k+((popN (M[k]?.getD 0):Nat):Int) from rfl)
    have HSO:=ξh (show orS M (k+1)=orS M k ||| (M[k]?.getD 0) from rfl)
    have hbd:=sumK_bd M k
    have hpl:=popN_le (M[k]?.getD 0)
    have hA:=HOB.out k hk
    have hUO:=HUO.out k
    rw[←hg] at hUO
    have HUX:=ξh hUO
    generalize M[k]?.getD 0=x at *
    generalize sumK M k=S at *
    generalize hoA:orS M k=A at *
    have ho:=ξb6 hA hx
    have HO2:=ξh ho
    have HCO:=ξh (fun w=>ξbT x hx w)
    generalize popN x=P at *
    have hw1:IntKind.i64.wrap (S+(P:Int))=S+(P:Int):=ξi _ (by omega)
    have hw2:wrap64 (S+(P:Int))=S+(P:Int):=ξw _ (by omega)
    clear hg hUO hbd hpl hA hx ho hoA
    go_wp2_with fail
    refine(HUX.out _ (HB2.trans (HB.mono HB2.size))).mono ?_
    rintro e w7 ⟨rfl,b7⟩
    have HB7:=ξh (HB.trans (b7.mono HB.size))
    clear z0 z1 z2 b7
    have z0:=blkc (ξA HX2.out HB7.out) (j:=0) (u:= .slice a1 m1 c1) rfl
    have z1:=blkc (ξA HX2.out HB7.out) (j:=1) (u:= .slice a2 nf c2) rfl
    have z2:=blkc (ξA HX2.out HB7.out) (j:=2) (u:= .slice a3 m3 c3) rfl
    go_wp2_with (go_at_call 83;refine(HCO.out _).mono ?_;rintro e w' ⟨rfl,rfl⟩)
    refine(HUX.out _ (HB2.trans (HB7.mono HB2.size))).mono ?_
    rintro e w8 ⟨rfl,b8⟩
    have HB8:=ξh (HB7.trans (b8.mono HB7.size))
    have ho:=HO2.out
    clear z0 z1 z2 b8
    go_wp2_with fail
    go_roundw
    case rel=>exact⟨k+1,by omega,by go_num,by rw[HST.out],by rw[HSO.out],HB8.out⟩
    case measure=>simp[intOf];omega
  · have hltI:¬(k:Int)<(nf:Int):=by omega
    obtain rfl:k=nf:=by omega
    have hA:=HOB.out k hk
    have HCO:=ξh (fun w=>ξbT (orS M k) hA w)
    obtain⟨S,hS⟩:∃S,S=sumK M k:=⟨_,rfl⟩
    obtain⟨O,hO⟩:∃O,O=orS M k:=⟨_,rfl⟩
    have HSS:=ξh hS
    have HOO:=ξh hO
    rw[←hO] at HCO
    rw[←hS,←hO]
    clear hA hS hO
    go_wp2_with (go_at_call 83;refine(HCO.out _).mono ?_;rintro e w' ⟨rfl,rfl⟩)
    exact bodyPost_ret (results_tmp3 (t:=2) (u:=3) (v:=4) rfl _ _ _) rfl ⟨by rw[←HSS.out,←HOO.out];rfl,HB2.trans (HB.mono HB2.size)⟩
end Go.Proofs.YtofcicomhnkocaaGreat
