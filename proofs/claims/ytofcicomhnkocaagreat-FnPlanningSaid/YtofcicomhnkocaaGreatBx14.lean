import Derived.Test.YtofcicomhnkocaaGreatBx03
set_option linter.unusedVariables false
namespace Go.Proofs.YtofcicomhnkocaaGreat
set_option maxHeartbeats 3200000
open Go.RowKit Go.Sort
set_option maxRecDepth 100000
theorem ξb1 (v:Value) (zs:List Fmt) (w:World) (h:Rdt w (flt 2 fmE zs) v):
 Calls Tryz.prog 111 #[v] w fun e w'=>e= .returned (.bool (fmOk zs))∧Below w.heap.size w w':=by
 obtain⟨a0,n0,c0,rfl,HN,hc,hn,ha⟩:=ξC (m:=2) (enc:=fmE) (fun _=>rfl) (by omega) ξJ h
 have HA:=ξh ha
 have HAT:=ξh (fun i hi h=>@fmOk_at zs i hi h)
 have HAL:=ξh (@fmOk_all zs)
 have HLG:=ξh (@fmOk_long zs)
 rw[HN.out] at HAT HAL HLG
 have HIN:=ξh (fun w=>ξE (n0:Int) 1 6 w)
 clear ha h
 generalize fmOk zs=ok at *
 go_enter Tryz.func111,Tryz.ntmps111
 go_wp2
 go_loopw [3,4,7] (fun _ _ i wr=>∃k:Nat,k≤n0∧i= .int .i64 k∧Hid (∀i,i<k→fmAt zs i=true)∧Hid (Below w.heap.size w wr)) (fun _ _ i _=>n0-(intOf i).toNat)
 case atStart=>exact⟨0,ξu _,rfl,fun i hi=>by omega,ξb _ _⟩
 case round=>
  obtain⟨k,hk,rfl,HK,HB⟩:=hrel
  by_cases hlt:k<n0
  · have hltI:(k:Int)<(n0:Int):=by omega
    obtain⟨b,off,rfl,hbs,hcs⟩:=HA.out (by omega)
    have HC:=ξh (fun i hi r u hu=>(HB.cell (p:=⟨b,off+i*2+r,none⟩) hbs).trans (hcs i hi r u hu))
    have e0:=HC.out k hlt 0 _ rfl
    have e1:=HC.out k hlt 1 _ rfl
    simp only[Nat.add_zero] at e0
    have HNO:=ξh (HAT.out k hlt)
    have HST:=ξh (fun h=>fm_up HK.out (k:=k) h)
    have HV:=ξh (show fmAt zs k=(inB (zs[k]?.getD ξJ).c 1 20000&&(inB (zs[k]?.getD ξJ).r 1 1000 && !(decide (0<k)&&(decide ((zs[k-1]?.getD ξJ).c≤(zs[k]?.getD ξJ).c) || decide ((zs[k]?.getD ξJ).r≤(zs[k-1]?.getD ξJ).r))))) from rfl)
    have hbs':=ξq hbs HB.size
    generalize zs[k]?.getD ξJ=z at *
    obtain⟨bx,bc,blt,-⟩:=ξD wr #[.int .i64 z.c,.int .i64 z.r] 101
    have q0:=bc 0 _ rfl
    have q1:=bc 1 _ rfl
    have HB1:=ξh (HB.trans (bx.mono HB.size))
    have HC1:=ξh (fun i hi r u hu=>(bx.cell (p:=⟨b,off+i*2+r,none⟩) hbs').trans (HC.out i hi r u hu))
    clear bx bc
    clear hcs HC
    have HI:=ξh (fun w=>ξE z.c 1 20000 w)
    have HJ:=ξh (fun w=>ξE z.r 1 1000 w)
    cases hci:inB z.c 1 20000
    · have HF:=ξh (HNO.out (by rw[HV.out,hci];rfl))
      rw[hci] at HI
      go_wp2
      generalize wr.alloc (.cells #[.int .i64 z.c,.int .i64 z.r] 101)=w2 at *
      have j0:=rg q0
      have j1:=rg q1
      clear q0 q1 e0 e1
      refine ξv ?_
      repeat (go_big_quiet_step (first | (go_at_call 74;first | (with_reducible exact ξK (HI.out _)) | (with_reducible exact ξK (HJ.out _)))))
      refine wpQuiet_nil ?_
      rintro _ ⟨⟨dq,osq⟩,rfl⟩
      have b3:=ξc w2 dq osq
      generalize grow (redrawn w2 dq) osq=w3 at *
      go_wp2
      go_ret
      exact⟨by rw[HF.out];rfl,HB1.trans (b3.mono HB1.size)⟩
    rw[hci] at HI HV
    cases hri:inB z.r 1 1000
    · have HF:=ξh (HNO.out (by rw[HV.out,hri];rfl))
      rw[hri] at HJ
      go_wp2
      generalize wr.alloc (.cells #[.int .i64 z.c,.int .i64 z.r] 101)=w2 at *
      have j0:=rg q0
      have j1:=rg q1
      clear q0 q1 e0 e1
      refine ξv ?_
      repeat (go_big_quiet_step (first | (go_at_call 74;first | (with_reducible exact ξK (HI.out _)) | (with_reducible exact ξK (HJ.out _)))))
      refine wpQuiet_nil ?_
      rintro _ ⟨⟨dq,osq⟩,rfl⟩
      have b3:=ξc w2 dq osq
      generalize grow (redrawn w2 dq) osq=w3 at *
      go_wp2
      go_ret
      exact⟨by rw[HF.out];rfl,HB1.trans (b3.mono HB1.size)⟩
    rw[hri] at HJ HV
    clear hci hri
    by_cases hk0:k=0
    · have hk0b:decide (0<k)=false:=ξf (by omega)
      have hk0c:decide (0<(k:Int))=false:=ξf (by omega)
      have hk0I:¬((0:Int)<(k:Int)):=by omega
      have HS:=ξh (HST.out (by rw[HV.out,hk0b];rfl))
      clear hk0
      go_wp2
      generalize wr.alloc (.cells #[.int .i64 z.c,.int .i64 z.r] 101)=w2 at *
      have j0:=rg q0
      have j1:=rg q1
      clear q0 q1 e0 e1
      refine ξv ?_
      repeat (go_big_quiet_step (first | (go_at_call 74;first | (with_reducible exact ξK (HI.out _)) | (with_reducible exact ξK (HJ.out _)))))
      refine wpQuiet_nil ?_
      rintro _ ⟨⟨dq,osq⟩,rfl⟩
      have b3:=ξc w2 dq osq
      generalize grow (redrawn w2 dq) osq=w3 at *
      clear j0 j1
      go_wp2
      go_roundw
      case rel=>exact⟨k+1,hlt,by go_num,HS.out,HB1.trans (b3.mono HB1.size)⟩
      case measure=>simp[intOf];omega
    obtain⟨k',hk'⟩:∃k',k=k'+1:=⟨k-1,by omega⟩
    have hkk:k-1=k':=by omega
    have hk0b:decide (0<k)=true:=ξt (by omega)
    have hk0c:decide (0<(k:Int))=true:=ξt (by omega)
    have hkp:(0:Int)<(k:Int):=by omega
    have f1w:IntKind.i64.wrap ((k:Int)-1)=(k':Int):=by rw[ξi _ (by omega)];omega
    have f1x:wrap64 ((k:Int)-1)=(k':Int):=by rw[ξw _ (by omega)];omega
    have f2w:(k':Int)<(n0:Int):=by omega
    have f3w:k'<n0:=by omega
    have p0:=HC1.out k' f3w 0 _ rfl
    have p1:=HC1.out k' f3w 1 _ rfl
    simp only[Nat.add_zero] at p0
    rw[hkk,hk0b] at HV
    generalize zs[k']?.getD ξJ=y at *
    clear hk' hkk hk0
    by_cases hdp:y.c≤z.c
    · have hdpb:decide (y.c≤z.c)=true:=ξt hdp
      have HF:=ξh (HNO.out (by rw[HV.out,hdpb];rfl))
      go_wp2
      generalize wr.alloc (.cells #[.int .i64 z.c,.int .i64 z.r] 101)=w2 at *
      have j0:=rg q0
      have j1:=rg q1
      have j2:=rg p0
      have j3:=rg p1
      clear q0 q1 e0 e1 p0 p1
      refine ξv ?_
      repeat (go_big_quiet_step (first | (go_at_call 74;first | (with_reducible exact ξK (HI.out _)) | (with_reducible exact ξK (HJ.out _)))))
      refine wpQuiet_nil ?_
      rintro _ ⟨⟨dq,osq⟩,rfl⟩
      have b3:=ξc w2 dq osq
      generalize grow (redrawn w2 dq) osq=w3 at *
      go_wp2
      go_ret
      exact⟨by rw[HF.out];rfl,HB1.trans (b3.mono HB1.size)⟩
    have hdpb:decide (y.c≤z.c)=false:=ξf hdp
    by_cases hdq:z.r≤y.r
    · have hdqb:decide (z.r≤y.r)=true:=ξt hdq
      have HF:=ξh (HNO.out (by rw[HV.out,hdpb,hdqb];rfl))
      go_wp2
      generalize wr.alloc (.cells #[.int .i64 z.c,.int .i64 z.r] 101)=w2 at *
      have j0:=rg q0
      have j1:=rg q1
      have j2:=rg p0
      have j3:=rg p1
      clear q0 q1 e0 e1 p0 p1
      refine ξv ?_
      repeat (go_big_quiet_step (first | (go_at_call 74;first | (with_reducible exact ξK (HI.out _)) | (with_reducible exact ξK (HJ.out _)))))
      refine wpQuiet_nil ?_
      rintro _ ⟨⟨dq,osq⟩,rfl⟩
      have b3:=ξc w2 dq osq
      generalize grow (redrawn w2 dq) osq=w3 at *
      go_wp2
      go_ret
      exact⟨by rw[HF.out];rfl,HB1.trans (b3.mono HB1.size)⟩
    have hdqb:decide (z.r≤y.r)=false:=ξf hdq
    have HS:=ξh (HST.out (by rw[HV.out,hdpb,hdqb];rfl))
    go_wp2
    generalize wr.alloc (.cells #[.int .i64 z.c,.int .i64 z.r] 101)=w2 at *
    have j0:=rg q0
    have j1:=rg q1
    have j2:=rg p0
    have j3:=rg p1
    clear q0 q1 e0 e1 p0 p1
    refine ξv ?_
    repeat (go_big_quiet_step (first | (go_at_call 74;first | (with_reducible exact ξK (HI.out _)) | (with_reducible exact ξK (HJ.out _)))))
    refine wpQuiet_nil ?_
    rintro _ ⟨⟨dq,osq⟩,rfl⟩
    have b3:=ξc w2 dq osq
    generalize grow (redrawn w2 dq) osq=w3 at *
    clear j0 j1 j2 j3
    go_wp2
    go_roundw
    case rel=>exact⟨k+1,hlt,by go_num,HS.out,HB1.trans (b3.mono HB1.size)⟩
    case measure=>simp[intOf];omega
  · obtain rfl:n0=k:=by omega
    have HF:=ξh (HAL.out HK.out)
    go_wp2_with (go_at_call 74;refine(HIN.out _).mono ?_;rintro e w' ⟨rfl,rfl⟩)
    go_ret
    exact⟨by rw[HF.out];rfl,HB.out⟩
theorem ξbW (v:Value) (zs:List Fmt) (w:World) (h:Rdt w (flt 2 fmE zs) v):
 Calls Tryz.prog 101 #[v] w fun e w'=>e= .returned (.bool (fmOk zs))∧Below w.heap.size w w':=by
 obtain⟨a0,n0,c0,rfl,HN,hc,hn,ha⟩:=ξC (m:=2) (enc:=fmE) (fun _=>rfl) (by omega) ξJ h
 have HA:=ξh ha
 have HAT:=ξh (fun i hi h=>@fmOk_at zs i hi h)
 have HAL:=ξh (@fmOk_all zs)
 have HLG:=ξh (@fmOk_long zs)
 rw[HN.out] at HAT HAL HLG
 have HIN:=ξh (fun w=>ξI (n0:Int) 1 6 w)
 clear ha h
 generalize fmOk zs=ok at *
 go_enter Tryz.func101,Tryz.ntmps101
 go_wp2
 go_loopw [3] (fun i wr=>∃k:Nat,k≤n0∧k≤7∧i= .int .i64 k∧Hid (∀i,i<k→fmAt zs i=true)∧Hid (Below w.heap.size w wr)) (fun i _=>n0-(intOf i).toNat)
 case atStart=>exact⟨0,ξu _,ξu _,rfl,fun i hi=>by omega,ξb _ _⟩
 case round=>
  obtain⟨k,hk,hk7,rfl,HK,HB⟩:=hrel
  by_cases hlt:k<n0
  · have hltI:(k:Int)<(n0:Int):=by omega
    by_cases h7:k≤6
    case neg=>
     have h7I:¬((k:Int)≤6):=by omega
     have h7b:decide ((k:Int)≤6)=false:=ξf h7I
     have h7c:decide (k≤6)=false:=ξf (by omega)
     have HF:=ξh (HLG.out (by omega))
     have HNO:=ξh (show inB (n0:Int) 1 6=false by unfold inB;rw[ξf (show¬(n0:Int)≤6 by omega)];simp)
     go_wp2_with (go_at_call 77;refine(HIN.out _).mono ?_;rintro e w' ⟨rfl,rfl⟩;rw[HNO.out])
     go_ret
     exact⟨by rw[HF.out];rfl,HB.out⟩
    have h7I:(k:Int)≤6:=by omega
    have h7b:decide ((k:Int)≤6)=true:=ξt h7I
    have h7c:decide (k≤6)=true:=ξt h7
    obtain⟨b,off,rfl,hbs,hcs⟩:=HA.out (by omega)
    have HC:=ξh (fun i hi r u hu=>(HB.cell (p:=⟨b,off+i*2+r,none⟩) hbs).trans (hcs i hi r u hu))
    have e0:=HC.out k hlt 0 _ rfl
    have e1:=HC.out k hlt 1 _ rfl
    simp only[Nat.add_zero] at e0
    have HNO:=ξh (HAT.out k hlt)
    have HST:=ξh (fun h=>fm_up HK.out (k:=k) h)
    have HV:=ξh (show fmAt zs k=(inB (zs[k]?.getD ξJ).c 1 20000&&(inB (zs[k]?.getD ξJ).r 1 1000 && !(decide (0<k)&&(decide ((zs[k-1]?.getD ξJ).c≤(zs[k]?.getD ξJ).c) || decide ((zs[k]?.getD ξJ).r≤(zs[k-1]?.getD ξJ).r))))) from rfl)
    have hbs':=ξq hbs HB.size
    generalize zs[k]?.getD ξJ=z at *
    have HB1:=HB
    have HC1:=HC
    clear hcs HC
    have HI:=ξh (fun w=>ξI z.c 1 20000 w)
    have HJ:=ξh (fun w=>ξI z.r 1 1000 w)
    cases hci:inB z.c 1 20000
    · have HF:=ξh (HNO.out (by rw[HV.out,hci];rfl))
      rw[hci] at HI
      go_wp2
      obtain⟨w2,hw2⟩:∃w2,w2=wr:=⟨_,rfl⟩
      subst hw2
      have j0:=rg e0
      have j1:=rg e1
      clear e0 e1
      refine ξv ?_
      repeat (go_big_quiet_step (first | (go_at_call 77;first | (with_reducible exact ξK (HI.out _)) | (with_reducible exact ξK (HJ.out _)))))
      refine wpQuiet_nil ?_
      rintro _ ⟨⟨dq,osq⟩,rfl⟩
      have b3:=ξc w2 dq osq
      generalize grow (redrawn w2 dq) osq=w3 at *
      go_wp2
      go_ret
      exact⟨by rw[HF.out];rfl,HB1.trans (b3.mono HB1.size)⟩
    rw[hci] at HI HV
    cases hri:inB z.r 1 1000
    · have HF:=ξh (HNO.out (by rw[HV.out,hri];rfl))
      rw[hri] at HJ
      go_wp2
      obtain⟨w2,hw2⟩:∃w2,w2=wr:=⟨_,rfl⟩
      subst hw2
      have j0:=rg e0
      have j1:=rg e1
      clear e0 e1
      refine ξv ?_
      repeat (go_big_quiet_step (first | (go_at_call 77;first | (with_reducible exact ξK (HI.out _)) | (with_reducible exact ξK (HJ.out _)))))
      refine wpQuiet_nil ?_
      rintro _ ⟨⟨dq,osq⟩,rfl⟩
      have b3:=ξc w2 dq osq
      generalize grow (redrawn w2 dq) osq=w3 at *
      go_wp2
      go_ret
      exact⟨by rw[HF.out];rfl,HB1.trans (b3.mono HB1.size)⟩
    rw[hri] at HJ HV
    clear hci hri
    by_cases hk0:k=0
    · have hk0b:decide (0<k)=false:=ξf (by omega)
      have hk0c:decide (0<(k:Int))=false:=ξf (by omega)
      have hk0I:¬((0:Int)<(k:Int)):=by omega
      have HS:=ξh (HST.out (by rw[HV.out,hk0b];rfl))
      clear hk0
      go_wp2
      obtain⟨w2,hw2⟩:∃w2,w2=wr:=⟨_,rfl⟩
      subst hw2
      have j0:=rg e0
      have j1:=rg e1
      clear e0 e1
      refine ξv ?_
      repeat (go_big_quiet_step (first | (go_at_call 77;first | (with_reducible exact ξK (HI.out _)) | (with_reducible exact ξK (HJ.out _)))))
      refine wpQuiet_nil ?_
      rintro _ ⟨⟨dq,osq⟩,rfl⟩
      have b3:=ξc w2 dq osq
      generalize grow (redrawn w2 dq) osq=w3 at *
      clear j0 j1
      go_wp2
      go_roundw
      case rel=>exact⟨k+1,hlt,by omega,by go_num,HS.out,HB1.trans (b3.mono HB1.size)⟩
      case measure=>simp[intOf];omega
    obtain⟨k',hk'⟩:∃k',k=k'+1:=⟨k-1,by omega⟩
    have hkk:k-1=k':=by omega
    have hk0b:decide (0<k)=true:=ξt (by omega)
    have hk0c:decide (0<(k:Int))=true:=ξt (by omega)
    have hkp:(0:Int)<(k:Int):=by omega
    have f1w:IntKind.i64.wrap ((k:Int)-1)=(k':Int):=by rw[ξi _ (by omega)];omega
    have f1x:wrap64 ((k:Int)-1)=(k':Int):=by rw[ξw _ (by omega)];omega
    have f2w:(k':Int)<(n0:Int):=by omega
    have f3w:k'<n0:=by omega
    have p0:=HC1.out k' f3w 0 _ rfl
    have p1:=HC1.out k' f3w 1 _ rfl
    simp only[Nat.add_zero] at p0
    rw[hkk,hk0b] at HV
    generalize zs[k']?.getD ξJ=y at *
    clear hk' hkk hk0
    by_cases hdp:y.c≤z.c
    · have hdpb:decide (y.c≤z.c)=true:=ξt hdp
      have HF:=ξh (HNO.out (by rw[HV.out,hdpb];rfl))
      go_wp2
      obtain⟨w2,hw2⟩:∃w2,w2=wr:=⟨_,rfl⟩
      subst hw2
      have j0:=rg e0
      have j1:=rg e1
      have j2:=rg p0
      have j3:=rg p1
      clear e0 e1 p0 p1
      refine ξv ?_
      repeat (go_big_quiet_step (first | (go_at_call 77;first | (with_reducible exact ξK (HI.out _)) | (with_reducible exact ξK (HJ.out _)))))
      refine wpQuiet_nil ?_
      rintro _ ⟨⟨dq,osq⟩,rfl⟩
      have b3:=ξc w2 dq osq
      generalize grow (redrawn w2 dq) osq=w3 at *
      go_wp2
      go_ret
      exact⟨by rw[HF.out];rfl,HB1.trans (b3.mono HB1.size)⟩
    have hdpb:decide (y.c≤z.c)=false:=ξf hdp
    by_cases hdq:z.r≤y.r
    · have hdqb:decide (z.r≤y.r)=true:=ξt hdq
      have HF:=ξh (HNO.out (by rw[HV.out,hdpb,hdqb];rfl))
      go_wp2
      obtain⟨w2,hw2⟩:∃w2,w2=wr:=⟨_,rfl⟩
      subst hw2
      have j0:=rg e0
      have j1:=rg e1
      have j2:=rg p0
      have j3:=rg p1
      clear e0 e1 p0 p1
      refine ξv ?_
      repeat (go_big_quiet_step (first | (go_at_call 77;first | (with_reducible exact ξK (HI.out _)) | (with_reducible exact ξK (HJ.out _)))))
      refine wpQuiet_nil ?_
      rintro _ ⟨⟨dq,osq⟩,rfl⟩
      have b3:=ξc w2 dq osq
      generalize grow (redrawn w2 dq) osq=w3 at *
      go_wp2
      go_ret
      exact⟨by rw[HF.out];rfl,HB1.trans (b3.mono HB1.size)⟩
    have hdqb:decide (z.r≤y.r)=false:=ξf hdq
    have HS:=ξh (HST.out (by rw[HV.out,hdpb,hdqb];rfl))
    go_wp2
    obtain⟨w2,hw2⟩:∃w2,w2=wr:=⟨_,rfl⟩
    subst hw2
    have j0:=rg e0
    have j1:=rg e1
    have j2:=rg p0
    have j3:=rg p1
    clear e0 e1 p0 p1
    refine ξv ?_
    repeat (go_big_quiet_step (first | (go_at_call 77;first | (with_reducible exact ξK (HI.out _)) | (with_reducible exact ξK (HJ.out _)))))
    refine wpQuiet_nil ?_
    rintro _ ⟨⟨dq,osq⟩,rfl⟩
    have b3:=ξc w2 dq osq
    generalize grow (redrawn w2 dq) osq=w3 at *
    clear j0 j1 j2 j3
    go_wp2
    go_roundw
    case rel=>exact⟨k+1,hlt,by omega,by go_num,HS.out,HB1.trans (b3.mono HB1.size)⟩
    case measure=>simp[intOf];omega
  · obtain rfl:n0=k:=by omega
    have HF:=ξh (HAL.out HK.out)
    go_wp2_with (go_at_call 77;refine(HIN.out _).mono ?_;rintro e w' ⟨rfl,rfl⟩)
    go_ret
    exact⟨by rw[HF.out];rfl,HB.out⟩
theorem ξbd {B:Nat} {a w:World} (h:Below B a w) (n:Nat):Below B a (w.drewN n):=⟨h.os,h.tape,h.output,h.size,h.block⟩
abbrev fmA (fs:List Fmt) (i:Nat):Fmt:=fs[i]?.getD ξJ
theorem fmOk_rng {fs:List Fmt} (h:fmOk fs=true) {i:Nat} (hi:i<fs.length):1≤(fmA fs i).c∧(fmA fs i).c≤20000∧1≤(fmA fs i).r∧(fmA fs i).r≤1000:=by
 by_cases ha:fmAt fs i=true
 · unfold fmAt at ha
   simp only[Bool.and_eq_true] at ha
   have h1:=ξO ha.1
   have h2:=ξO ha.2.1
   exact⟨h1.1,h1.2,h2.1,h2.2⟩
 · rw[fmOk_at hi (by simpa using ha)] at h;cases h
theorem bstI_far {fs:List Fmt} (h:fmOk fs=true) {len:Int} (hl:20000<len):∀{k:Nat},k≤fs.length→bstI fs len k= -1
 | 0,_=>rfl
 | k+1,hk=>by
   have:=fmOk_rng h (show k<fs.length by omega)
   rw[bstI,if_neg (by unfold fmA at this;omega)]
   exact bstI_far h hl (by omega)
def ffI (fs:List Fmt) (len:Int):Int:=if bstI fs len fs.length<0 then 0 else bstI fs len fs.length
theorem ffI_no {fs:List Fmt} {len:Int} (h:bstI fs len fs.length= -1):ffI fs len=0∧decide (0≤bstI fs len fs.length)=false:=by unfold ffI;rw[h];simp
theorem ffI_yes {fs:List Fmt} {len:Int} {k:Nat} (h:bstI fs len fs.length=(k:Int)):ffI fs len=k∧decide (0≤bstI fs len fs.length)=true:=by
 unfold ffI;rw[h]
 exact⟨by rw[if_neg (by omega)],ξt (by omega)⟩
theorem formatFor_any (v:Value) (fs:List Fmt) (len:Int) (w:World) (h:Rdt w (flt 2 fmE fs) v) (hf:fmOk fs=true) (hl:0≤len):
 Calls Tryz.prog 221 #[v,.int .i64 len] w fun e w'=>e= .returned (.tuple #[.int .i64 (ffI fs len),.bool (decide (0≤bstI fs len fs.length))])∧Below w.heap.size w w':=by
 have HV:=ξh (ξb1 v fs w h)
 rw[hf] at HV
 have HNO:=ξh (@ffI_no fs len)
 have HYE:=ξh (fun k=>@ffI_yes fs len k)
 have HFAR:=ξh (fun(h:20000<len)=>bstI_far hf h (ξr fs.length))
 have HSTEP:=ξh (fun k=>show bstI fs len (k+1)=if len≤(fmA fs k).c then(k:Int) else bstI fs len k from rfl)
 have hln:=(fmOk_len hf).2
 obtain⟨a1,n1,c1,rfl,HN1,hc1,hm1,ha1⟩:=ξC (m:=2) (enc:=fmE) (fun _=>rfl) (by omega) ξJ h
 have HA1:=ξh ha1
 rw[HN1.out] at HNO HYE HFAR hln ⊢
 generalize hR:bstI fs len n1=R at *
 have HR:=ξh hR
 generalize ffI fs len=F at *
 generalize decide (0≤R)=D at *
 clear ha1 h hf hR
 go_enter Tryz.func221,Tryz.ntmps221
 by_cases hbig:20000<len
 · have hin:inB len 0 20000=false:=by unfold inB;rw[ξf (show¬len≤20000 by omega)];simp
   obtain⟨hF,hD⟩:=HNO.out (HFAR.out hbig)
   have HFD:=ξh (⟨hF,hD⟩:F=0∧D=false)
   clear hF hD hbig
   go_wp2_with (first | (go_at_call 111;refine HV.mono ?_;rintro e w' ⟨rfl,b2⟩;have HB2:=ξh b2;clear b2) | (go_at_call 74;refine(ξE _ _ _ _).mono ?_;rintro e w' ⟨rfl,rfl⟩;rw[hin]))
   go_ret2
   exact⟨by rw[HFD.1,HFD.2];rfl,HB2.out⟩
 · have hin:inB len 0 20000=true:=inB_mk hl (by omega)
   go_wp2_with (first | (go_at_call 111;refine HV.mono ?_;rintro e w2 ⟨rfl,b2⟩;have HB2:=ξh b2;clear b2) | (go_at_call 74;refine(ξE _ _ _ _).mono ?_;rintro e w' ⟨rfl,rfl⟩;rw[hin]))
   clear hin hbig
   go_loopw [6] (fun i wr=>∃k:Nat,k≤n1∧i= .int .i64 ((k:Int)-1)∧Hid (bstI fs len k=R)∧wr=w2) (fun i _=>(intOf i+1).toNat)
   case atStart=>exact⟨n1,ξr _,by first | rfl | go_num,HR,rfl⟩
   case round=>
    obtain⟨k,hk,rfl,HK,rfl⟩:=hrel
    by_cases hk0:k=0
    · subst hk0
      obtain⟨hF,hD⟩:=HNO.out HK.symm
      have HFD:=ξh (⟨hF,hD⟩:F=0∧D=false)
      clear hF hD
      go_wp2
      go_ret2
      exact⟨by rw[HFD.1,HFD.2];rfl,HB2.out⟩
    · obtain⟨j,rfl⟩:∃j,k=j+1:=⟨k-1,by omega⟩
      have hj:((j+1:Nat):Int)-1=(j:Int):=by omega
      rw[hj]
      clear hj
      have hlt:j<n1:=by omega
      have hltI:(j:Int)<(n1:Int):=by omega
      have hj0:(0:Int)≤(j:Int):=by omega
      obtain⟨b,off,rfl,hbs,hcs⟩:=HA1.out (by omega)
      have e0:wr.cell? ⟨b,off+j*2,none⟩=_:=(HB2.cell (p:=⟨b,off+j*2+0,none⟩) hbs).trans (hcs j hlt 0 _ rfl)
      have HSJ:=ξh ((HSTEP.out j).symm.trans HK.out)
      clear hcs
      unfold fmA at HSJ
      generalize (fs[j]?.getD ξJ).c=rc at *
      by_cases hr:len≤rc
      · have hrI:rc≥len:=hr
        have hj1:(j:Int)=R:=by have:=HSJ.out;rwa [if_pos hr] at this
        obtain⟨hF,hD⟩:=HYE.out j hj1.symm
        have HFD:=ξh (⟨hF,hD⟩:F=j∧D=true)
        clear hF hD hr hj1
        go_wp2
        go_ret2
        exact⟨by rw[HFD.1,HFD.2];rfl,HB2.out⟩
      · have hrI:¬rc≥len:=hr
        have HJ:=ξh (show bstI fs len j=R by have:=HSJ.out;rwa [if_neg hr] at this)
        clear hr
        go_wp2
        go_roundw
        case rel=>exact⟨j,by omega,by first | rfl | go_num,HJ,trivial⟩
        case measure=>(simp[intOf];try omega)
theorem slI_no {fs:List Fmt} {len:Int} (rate:Int) (h:bstI fs len fs.length<0):slI fs len rate=0:=by unfold slI;rw[if_pos h]
theorem slI_at {fs:List Fmt} {len:Int} {k:Nat} (rate:Int) (h:bstI fs len fs.length=(k:Int)):slI fs len rate=if 24<(rate+(fmA fs k).r-1)/(fmA fs k).r then 0 else(rate+(fmA fs k).r-1)/(fmA fs k).r:=by
 unfold slI
 rw[h,if_neg (by omega)];rfl
theorem slotsFor_any (v:Value) (fs:List Fmt) (len rate:Int) (w:World) (h:Rdt w (flt 2 fmE fs) v) (hf:fmOk fs=true) (hl:0≤len) (hr1:1≤rate) (hr2:rate≤1000):
 Calls Tryz.prog 190 #[v,.int .i64 len,.int .i64 rate] w fun e w'=>e= .returned (.tuple #[.int .i64 (slI fs len rate),.bool (decide (0<slI fs len rate))])∧Below w.heap.size w w':=by
 have HV:=ξh (formatFor_any v fs len w h hf hl)
 have hrng:=bstI_rng fs len fs.length
 have hrate:inB rate 1 1000=true:=inB_mk hr1 hr2
 by_cases hneg:bstI fs len fs.length<0
 · rw[(ffI_no (show bstI fs len fs.length= -1 by omega)).1,(ffI_no (show bstI fs len fs.length= -1 by omega)).2] at HV
   have HS:=ξh (slI_no rate hneg)
   generalize slI fs len rate=S at *
   obtain⟨a1,n1,c1,rfl,HN1,hc1,hm1,-⟩:=ξC (m:=2) (enc:=fmE) (fun _=>rfl) (by omega) ξJ h
   clear h hf hneg hrng hrate
   go_enter Tryz.func190,Tryz.ntmps190
   go_wp2_with (go_at_call 221;refine HV.mono ?_;rintro e w2 ⟨rfl,b2⟩;have HB2:=ξh b2;clear b2)
   go_ret2
   exact⟨by rw[HS.out];rfl,HB2.out⟩
 · obtain⟨k,hk⟩:=Int.eq_ofNat_of_zero_le (show 0≤bstI fs len fs.length by omega)
   rw[(ffI_yes hk).1,(ffI_yes hk).2] at HV
   have HS:=ξh (slI_at rate hk)
   have hkn:k<fs.length:=by omega
   have hrg:=fmOk_rng hf hkn
   obtain⟨a1,n1,c1,rfl,HN1,hc1,hm1,ha1⟩:=ξC (m:=2) (enc:=fmE) (fun _=>rfl) (by omega) ξJ h
   rw[HN1.out] at hkn
   obtain⟨b,off,rfl,hbs,hcs⟩:=ha1 (by omega)
   have e0:=hcs k hkn 1 _ rfl
   have hkI:(k:Int)<(n1:Int):=by omega
   have hk0:(0:Int)≤(k:Int):=by omega
   unfold fmA at hrg HS
   generalize hrr:(fs[k]?.getD ξJ).r=r at *
   obtain⟨q,hq⟩:∃q,q=(rate+r-1)/r:=⟨_,rfl⟩
   have hs1:IntKind.i64.wrap (rate+r)=rate+r:=ξi _ (by omega)
   have hs2:IntKind.i64.wrap (rate+r-1)=rate+r-1:=ξi _ (by omega)
   have hq0:0≤q∧q≤2000:=by
    rw[hq]
    refine⟨Int.ediv_nonneg (by omega) (by omega),?_⟩
    have:=Int.ediv_le_self r (show 0≤rate+r-1 by omega)
    have:=Int.ediv_le_self (b:=r) (a:=rate+r-1) (by omega)
    omega
   have hdv:(rate+r-1).tdiv r=q:=by rw[hq];exact Int.tdiv_eq_ediv_of_nonneg (by omega)
   have hqw:IntKind.i64.wrap q=q:=ξi _ (by omega)
   have hr0:(r==0)=false:=by rw[beq_eq_false_iff_ne];omega
   rw[←hq] at HS
   have HQ1:=ξh (show 1≤q from by
    rw[hq]
    exact(Int.le_ediv_iff_mul_le (by omega)).2 (by omega))
   generalize slI fs len rate=S at *
   clear h hf hneg hrng hcs ha1 hrr hk hq
   go_enter Tryz.func190,Tryz.ntmps190
   go_wp2_with (first | (go_at_call 221;refine HV.mono ?_;rintro e w2 ⟨rfl,b2⟩;have HB2:=ξh b2;clear b2) | (go_at_call 74;refine(ξE _ _ _ _).mono ?_;rintro e w' ⟨rfl,rfl⟩;rw[hrate]) | fail)
   have e1:=(HB2.cell (p:=⟨b,off+k*2+1,none⟩) hbs).trans e0
   clear e0 hbs
   by_cases h24:24<q
   · have h24I:q>24:=h24
     have HZ:=ξh (show S=0 by have:=HS.out;rwa [if_pos h24] at this)
     clear h24
     go_quiet (fail)
     go_wp2
     go_ret2
     exact⟨by rw[HZ.out];rfl,(ξbd HB2.out _)⟩
   · have h24I:¬q>24:=h24
     have HZ:=ξh (show S=q by have:=HS.out;rwa [if_neg h24] at this)
     have HD:=ξh (show decide (0<S)=true from ξt (by rw[HZ.out];have:=HQ1.out;omega))
     clear h24
     go_quiet (fail)
     go_wp2
     go_ret2
     exact⟨by rw[HD.out,HZ.out];rfl,(ξbd HB2.out _)⟩
section
variable {α : Type} {k : α → Int}
def blkA (L:List (α × Nat)) (bs i:Nat):List (α × Nat):=(L.drop (i*bs)).take bs
def blkS (k:α→Int) (bs:Nat) (T L:List (α × Nat)) (i:Nat):Prop:=srtS k (blkA L bs i)∧(blkA L bs i).Perm (blkA T bs i)
theorem blkA_end {L:List (α × Nat)} {bs i:Nat} (h:L.length≤i*bs):blkA L bs i=[]:=by
 unfold blkA;rw[List.drop_eq_nil_of_le h,List.take_nil]
theorem blkS_end {bs:Nat} {T L:List (α × Nat)} {i:Nat} (h:L.length≤i*bs) (hl:L.length=T.length):blkS k bs T L i:=by
 unfold blkS
 rw[blkA_end h,blkA_end (by omega)]
 exact⟨List.Pairwise.nil,List.Perm.refl _⟩
theorem blkA_old {A X Z B:List (α × Nat)} {bs i j:Nat} (hA:A.length=i*bs) (hj:j<i):blkA (A++Z++B) bs j=blkA (A++X++B) bs j:=by
 have h1:(j+1)*bs≤i*bs:=Nat.mul_le_mul_right bs hj
 rw[Nat.add_mul,Nat.one_mul] at h1
 unfold blkA
 rw[List.append_assoc,List.append_assoc,List.drop_append_of_le_length (by omega),List.drop_append_of_le_length (by omega)]
 rw[List.take_append_of_le_length (by rw[List.length_drop];omega),List.take_append_of_le_length (by rw[List.length_drop];omega)]
theorem blkA_new {A Z B:List (α × Nat)} {bs i:Nat} (hA:A.length=i*bs) (hz:Z.length=bs∨(B=[]∧Z.length≤bs)):blkA (A++Z++B) bs i=Z:=by
 unfold blkA
 rw[List.append_assoc,←hA,List.drop_left]
 rcases hz with h | ⟨rfl,h⟩
 · rw[←h,List.take_left]
 · rw[List.append_nil,List.take_of_length_le h]
theorem blkA_far {A X Z B:List (α × Nat)} {bs j:Nat} (hz:Z.length=X.length) (hj:A.length+X.length≤j*bs):blkA (A++Z++B) bs j=blkA (A++X++B) bs j:=by
 unfold blkA
 congr 1
 have e1:(A++Z).drop (j*bs)=[]:=List.drop_eq_nil_of_le (by simp;omega)
 have e2:(A++X).drop (j*bs)=[]:=List.drop_eq_nil_of_le (by simp;omega)
 have key:∀M:List (α × Nat),(M++B).drop (j*bs)=M.drop (j*bs)++B.drop (j*bs-M.length):=fun M=>List.drop_append
 rw[key,key,e1,e2,ξk,ξk,hz]
theorem blkA_two (L:List (α × Nat)) (bs i:Nat):blkA L (2*bs) i=blkA L bs (2*i)++blkA L bs (2*i+1):=by
 unfold blkA
 have e1:i*(2*bs)=2*i*bs:=by rw[←Nat.mul_assoc,Nat.mul_comm i 2]
 have e2:(2*i+1)*bs=2*i*bs+bs:=by rw[Nat.add_mul,Nat.one_mul]
 rw[e1,e2,←List.drop_drop,Nat.two_mul,List.take_add]
theorem blk_crs {bs:Nat} {T X Y:List (α × Nat)} {i j:Nat} (ht:T.Pairwise fun x y=>x.2<y.2) (hij:i<j) (hx:X.Perm (blkA T bs i)) (hy:Y.Perm (blkA T bs j)):crsS X Y:=by
 intro x h1 y h2
 have h1:=hx.mem_iff.1 h1
 have h2:=hy.mem_iff.1 h2
 have hm:(i+1)*bs≤j*bs:=Nat.mul_le_mul_right bs hij
 rw[Nat.add_mul,Nat.one_mul] at hm
 unfold blkA at h1 h2
 obtain⟨p,hp,e1⟩:=List.getElem_of_mem h1
 obtain⟨q,hq,e2⟩:=List.getElem_of_mem h2
 rw[List.length_take,List.length_drop] at hp hq
 rw[List.getElem_take,List.getElem_drop] at e1 e2
 rw[←e1,←e2]
 exact List.pairwise_iff_getElem.1 ht _ _ (by omega) (by omega) (by omega)
theorem blkA_len {L:List (α × Nat)} {bs i:Nat} (h:(i+1)*bs≤L.length):(blkA L bs i).length=bs:=by
 rw[Nat.add_mul,Nat.one_mul] at h
 unfold blkA;rw[List.length_take,List.length_drop];omega
theorem blkA_cut (L:List (α × Nat)) (bs i:Nat):L=L.take (i*bs)++blkA L bs i++L.drop (i*bs+bs):=by
 unfold blkA
 rw[←List.drop_drop,List.append_assoc,List.take_append_drop,List.take_append_drop]
theorem tag_rise (zs:List α):(tagS zs).Pairwise fun x y=>x.2<y.2:=by
 rw[List.pairwise_iff_getElem]
 intro i j hi hj hij
 unfold tagS at hi hj ⊢
 rw[List.getElem_zipIdx,List.getElem_zipIdx]
 simp only;omega
theorem blk_all {bs:Nat} {T L:List (α × Nat)} (h:blkS k bs T L 0) (hb:L.length≤bs) (hl:L.length=T.length):srtS k L∧L.Perm T:=by
 unfold blkS blkA at h
 rw[Nat.zero_mul,List.drop_zero,List.drop_zero,List.take_of_length_le hb,List.take_of_length_le (by omega)] at h
 exact h
end
section
variable {β : Type} [Inhabited β]
theorem ξaY {A B:List β} {x:β} {d:Array β} (h:d.toList=A++x::B):d[A.length]! = x:=by
 obtain rfl:d=(A++x::B).toArray:=Array.ext' h
 simp
theorem swp_list {A M B:List β} {x y:β} {d:Array β} (h:d.toList=A++x::(M++y::B)):(swp d A.length (A.length+1+M.length)).toList=A++y::(M++x::B):=by
 have hx:=ξaY h
 have h2:d.toList=(A++x::M)++y::B:=by rw[h];simp
 have hy:=ξaY h2
 have el:(A++x::M).length=A.length+1+M.length:=by simp;omega
 rw[el] at hy
 obtain rfl:d=(A++x::(M++y::B)).toArray:=Array.ext' h
 unfold swp
 rw[hx,hy]
 simp only[List.setIfInBounds_toArray,List.toList_toArray]
 rw[List.set_append_right _ _ (ξr _),Nat.sub_self,List.set_cons_zero]
 rw[show A++y::(M++y::B)=(A++y::M)++y::B by simp]
 rw[List.set_append_right _ _ (by simp;omega),show A.length+1+M.length-(A++y::M).length=0 by simp;omega,List.set_cons_zero]
 simp
theorem swp_list' {A M B:List β} {x y:β} {d:Array β} (h:d.toList=A++x::(M++y::B)):(swp d (A.length+1+M.length) A.length).toList=A++y::(M++x::B):=by
 have hx:=ξaY h
 have h2:d.toList=(A++x::M)++y::B:=by rw[h];simp
 have hy:=ξaY h2
 have el:(A++x::M).length=A.length+1+M.length:=by simp;omega
 rw[el] at hy
 obtain rfl:d=(A++x::(M++y::B)).toArray:=Array.ext' h
 unfold swp
 rw[hx,hy]
 simp only[List.setIfInBounds_toArray,List.toList_toArray]
 rw[show A++x::(M++y::B)=(A++x::M)++y::B by simp]
 rw[List.set_append_right _ _ (by simp;omega),show A.length+1+M.length-(A++x::M).length=0 by simp;omega,List.set_cons_zero]
 rw[show(A++x::M)++x::B=A++x::(M++x::B) by simp]
 rw[List.set_append_right _ _ (ξr _),Nat.sub_self,List.set_cons_zero]
end
section
variable {α : Type} [Inhabited α] {k : α → Int} {lt : α × Nat → α × Nat → Bool}
theorem inner_srt (hlt:∀x y,lt x y=decide (k x.1<k y.1)) {A:List (α × Nat)} {x:α × Nat} :∀(n:Nat) {X B:List (α × Nat)} {d:Array (α × Nat)},X.length=n→d.toList=A++X++x::B→srtS k X→(∀y∈X,y.2<x.2)→
 ∃Z,(insInner lt A.length (A.length+n) d).toList=A++Z++B∧Z.Perm (X++[x])∧srtS k Z
 | 0,X,B,d,hn,hd,_,_=>by
   obtain rfl:=List.length_eq_zero_iff.1 hn
   refine⟨[x],?_,by simp,List.pairwise_singleton _ _⟩
   rw[insInner_stop _ _ _ _ (.inl (by omega)),hd];simp
 | n+1,X,B,d,hn,hd,hs,ht=>by
   obtain⟨X',y,rfl⟩:∃X' y,X=X'++[y]:=⟨X.dropLast,X.getLast (by intro e;subst e;simp at hn),(List.dropLast_concat_getLast _).symm⟩
   have hn':X'.length=n:=by simp at hn;exact hn
   obtain⟨hs1,-,hs2⟩:=List.pairwise_append.1 hs
   have hd1:d.toList=(A++X')++y::(([]:List (α × Nat))++x::B):=by rw[hd];simp
   have hd2:d.toList=((A++X')++[y])++x::B:=by rw[hd];simp
   have ey:=ξaY hd1
   have ex:=ξaY hd2
   have l1:(A++X').length=A.length+n:=by simp[hn']
   have l2:((A++X')++[y]).length=A.length+(n+1):=by rw[ξk,l1];rfl
   rw[l1] at ey
   rw[l2] at ex
   have hty:=ht y (by simp)
   by_cases hc:k x.1<k y.1
   · rw[insInner_go lt A.length (A.length+(n+1)) d (by omega) (by rw[show A.length+(n+1)-1=A.length+n by omega,ex,ey,hlt];exact ξt hc)]
     have hsw:=swp_list' hd1
     rw[l1] at hsw
     simp only[List.length_nil,Nat.add_zero,List.nil_append] at hsw
     rw[show A.length+(n+1)-1=A.length+n by omega,show A.length+(n+1)=A.length+n+1 by omega]
     obtain⟨Z,e,hp,hz⟩:=inner_srt hlt n hn' hsw hs1 (fun z hz=>ht z (by simp[hz]))
     refine⟨Z++[y],by rw[e];simp,?_,ξbH hz (List.pairwise_singleton _ _) fun z hz y' hy'=> ?_⟩
     · have h1:(Z++[y]).Perm ((X'++[x])++[y]):=hp.append_right _
       refine h1.trans ?_
       rw[List.append_assoc,List.append_assoc]
       exact List.Perm.append_left _ List.perm_append_comm
     · simp at hy';subst hy'
       rcases List.mem_append.1 (hp.mem_iff.1 hz) with h | h
       · exact hs2 z h y' (by simp)
       · simp at h;subst h;exact .inl hc
   · refine⟨X'++[y]++[x],?_,List.Perm.refl _,ξbH hs (List.pairwise_singleton _ _) fun z hz x' hx'=> ?_⟩
     · rw[insInner_stop _ _ _ _ (.inr (by rw[show A.length+(n+1)-1=A.length+n by omega,ex,ey,hlt];exact ξf hc)),hd];simp
     · simp at hx';subst hx'
       have hyx:ltS k y x':=(ξb0 hty).2 hc
       rcases List.mem_append.1 hz with h | h
       · exact ξay (hs2 z h y (by simp)) hyx
       · simp at h;subst h;exact hyx
theorem outer_srt (hlt:∀x y,lt x y=decide (k x.1<k y.1)) {A:List (α × Nat)} :∀(n:Nat) {X Y B:List (α × Nat)} {d:Array (α × Nat)},Y.length=n→d.toList=A++X++Y++B→srtS k X→(∀y∈X,∀x∈Y,y.2<x.2)→Y.Pairwise (fun x y=>x.2<y.2)→
 ∃Z,(insOuter lt (A.length) (A.length+X.length+n) (A.length+X.length) d).toList=A++Z++B∧Z.Perm (X++Y)∧srtS k Z
 | 0,X,Y,B,d,hn,hd,hs,_,_=>by
   obtain rfl:=List.length_eq_zero_iff.1 hn
   refine⟨X,?_,by simp,hs⟩
   rw[insOuter_stop _ _ _ _ _ (by omega),hd];simp
 | n+1,X,Y,B,d,hn,hd,hs,ht,hy=>by
   obtain⟨x,Y',rfl⟩:∃x Y',Y=x::Y':=by
    cases Y with
    | nil=>simp at hn
    | cons x Y'=>exact⟨x,Y',rfl⟩
   obtain⟨hy1,hy2⟩:=List.pairwise_cons.1 hy
   obtain⟨Z,e,hp,hz⟩:=inner_srt hlt X.length rfl (A:=A) (x:=x) (B:=Y'++B) (d:=d) (by rw[hd];simp) hs (fun y h=>ht y h x (by simp))
   have hzl:Z.length=X.length+1:=by rw[hp.length_eq];simp
   rw[insOuter_go _ _ _ _ _ (by omega)]
   obtain⟨Z2,e2,hp2,hz2⟩:=outer_srt hlt n (X:=Z) (Y:=Y') (B:=B) (A:=A) (by simpa using hn) (by rw[e];simp) hz (fun y h x' hx'=>by
    rcases List.mem_append.1 (hp.mem_iff.1 h) with h | h
    · exact ht y h x' (by simp[hx'])
    · simp at h;subst h;exact hy1 x' hx') hy2
   rw[hzl] at e2
   refine⟨Z2,?_,?_,hz2⟩
   · rw[←e2,show A.length+X.length+(n+1)=A.length+(X.length+1)+n by omega];rfl
   · refine hp2.trans ?_
     have:=hp.append_right Y'
     rw[List.append_assoc] at this
     exact this
theorem part_srt (hlt:∀x y,lt x y=decide (k x.1<k y.1)) {A X B:List (α × Nat)} {d:Array (α × Nat)} (hd:d.toList=A++X++B) (ht:X.Pairwise fun x y=>x.2<y.2):
 ∃Z,(insertionSort lt d A.length (A.length+X.length)).toList=A++Z++B∧Z.Perm X∧srtS k Z:=by
 unfold insertionSort
 cases X with
 | nil=>
   refine⟨[],?_,List.Perm.refl _,List.Pairwise.nil⟩
   rw[insOuter_stop _ _ _ _ _ (by simp),hd]
 | cons x X=>
   obtain⟨h1,h2⟩:=List.pairwise_cons.1 ht
   obtain⟨Z,e,hp,hz⟩:=outer_srt hlt X.length (A:=A) (X:=[x]) (Y:=X) (B:=B) (d:=d) rfl (by rw[hd];simp) (List.pairwise_singleton _ _) (fun y hy x' hx'=>by simp at hy;subst hy;exact h1 x' hx') h2
   refine⟨Z,?_,by simpa using hp,hz⟩
   rw[←e]
   rw[show A.length+(x::X).length=A.length+[x].length+X.length by simp;omega];rfl
end
section
variable {α : Type} {k : α → Int}
theorem one_perm (L:List (α × Nat)) (x:α × Nat) (p:Nat):(L.take p++x::L.drop p).Perm (x::L):=by
 have:=List.perm_middle (a:=x) (l₁:=L.take p) (l₂:=L.drop p)
 rwa [List.take_append_drop] at this
theorem one_left {x:α × Nat} {Y:List (α × Nat)} {p:Nat} (hy:srtS k Y) (hc:crsS [x] Y) (hp:p≤Y.length) (h1:∀h:0<p,k (Y[p-1]'(by omega)).1<k x.1) (h2:∀h:p<Y.length,¬k Y[p].1<k x.1):
 srtS k (Y.take p++x::Y.drop p)∧(Y.take p++x::Y.drop p).Perm ([x]++Y):=by
 refine⟨srtS_ins hy hp (fun h=> ?_) (fun h=> ?_),one_perm Y x p⟩
 · exact(ltS_cross (hc x (by simp) _ (ξj _))).2 (h1 h)
 · exact(ξb0 (hc x (by simp) _ (ξj _))).2 (h2 h)
theorem one_right {y:α × Nat} {X:List (α × Nat)} {p:Nat} (hx:srtS k X) (hc:crsS X [y]) (hp:p≤X.length) (h1:∀h:0<p,¬k y.1<k (X[p-1]'(by omega)).1) (h2:∀h:p<X.length,k y.1<k X[p].1):
 srtS k (X.take p++y::X.drop p)∧(X.take p++y::X.drop p).Perm (X++[y]):=by
 refine⟨srtS_ins hx hp (fun h=> ?_) (fun h=> ?_),(one_perm X y p).trans (List.perm_append_comm (l₁:=[y]) (l₂:=X))⟩
 · exact(ξb0 (hc _ (ξj _) y (by simp))).2 (h1 h)
 · exact(ltS_cross (hc _ (ξj _) y (by simp))).2 (h2 h)
end
end Go.Proofs.YtofcicomhnkocaaGreat
