/- Joined: XFmtW XFsl XStbP XStbQ XStbW. -/
import Derived.Test.YtofcicomhnkocaaGreatBp06
import Derived.Test.YtofcicomhnkocaaGreatBp02
import Derived.Test.YtofcicomhnkocaaGreatBp03
import Derived.Lib.QuietBelow
import Derived.Test.YtofcicomhnkocaaGreatBp12
import Derived.Sort.WalkA
import Derived.Test.YtofcicomhnkocaaGreatBp08
import Derived.Shelf.SlSortCmp.WholeK
set_option linter.unusedVariables false
namespace Go.Proofs.YtofcicomhnkocaaGreat
set_option maxHeartbeats 6400000
open Go.RowKit Go.Sort
set_option maxRecDepth 100000
theorem implFormats_any (v:Value) (zs:List Fmt) (w:World) (h:Rdt w (flt 2 fmE zs) v):
 Calls Tryz.prog 111 #[v] w fun e w'=>e= .returned (.bool (fmOk zs))∧Below w.heap.size w w':=by
 obtain⟨a0,n0,c0,rfl,HN,hc,hn,ha⟩:=flt_opn (m:=2) (enc:=fmE) (fun _=>rfl) (by omega) nilFm h
 have HA:=Lib.hid ha
 have HAT:=Lib.hid (fun i hi h=>@fmOk_at zs i hi h)
 have HAL:=Lib.hid (@fmOk_all zs)
 have HLG:=Lib.hid (@fmOk_long zs)
 rw[HN.out] at HAT HAL HLG
 have HIN:=Lib.hid (fun w=>within_any (n0:Int) 1 6 w)
 clear ha h
 generalize fmOk zs=ok at *
 go_enter Tryz.func111,Tryz.ntmps111
 go_wp2
 go_loopw [3,4,7] (fun _ _ i wr=>∃k:Nat,k≤n0∧i= .int .i64 k∧Hid (∀i,i<k→fmAt zs i=true)∧Hid (Below w.heap.size w wr)) (fun _ _ i _=>n0-(intOf i).toNat)
 case atStart=>exact⟨0,Nat.zero_le _,rfl,fun i hi=>by omega,Below.refl _ _⟩
 case round=>
  obtain⟨k,hk,rfl,HK,HB⟩:=hrel
  by_cases hlt:k<n0
  · have hltI:(k:Int)<(n0:Int):=by omega
    obtain⟨b,off,rfl,hbs,hcs⟩:=HA.out (by omega)
    have HC:=Lib.hid (fun i hi r u hu=>(HB.out.cell (p:=⟨b,off+i*2+r,none⟩) hbs).trans (hcs i hi r u hu))
    have e0:=HC.out k hlt 0 _ rfl
    have e1:=HC.out k hlt 1 _ rfl
    simp only[Nat.add_zero] at e0
    have HNO:=Lib.hid (HAT.out k hlt)
    have HST:=Lib.hid (fun h=>fm_up HK.out (k:=k) h)
    have HV:=Lib.hid (show fmAt zs k=(inB (zs[k]?.getD nilFm).c 1 20000&&(inB (zs[k]?.getD nilFm).r 1 1000 && !(decide (0<k)&&(decide ((zs[k-1]?.getD nilFm).c≤(zs[k]?.getD nilFm).c) || decide ((zs[k]?.getD nilFm).r≤(zs[k-1]?.getD nilFm).r))))) from rfl)
    have hbs':=Nat.lt_of_lt_of_le hbs HB.out.size
    generalize zs[k]?.getD nilFm=z at *
    obtain⟨bx,bc,blt,-⟩:=box_facts wr #[.int .i64 z.c,.int .i64 z.r] 101
    have q0:=bc 0 _ rfl
    have q1:=bc 1 _ rfl
    have HB1:=Lib.hid (HB.out.trans (bx.mono HB.out.size))
    have HC1:=Lib.hid (fun i hi r u hu=>(bx.cell (p:=⟨b,off+i*2+r,none⟩) hbs').trans (HC.out i hi r u hu))
    clear bx bc
    clear hcs HC
    have HI:=Lib.hid (fun w=>within_any z.c 1 20000 w)
    have HJ:=Lib.hid (fun w=>within_any z.r 1 1000 w)
    cases hci:inB z.c 1 20000
    · have HF:=Lib.hid (HNO.out (by rw[HV.out,hci];rfl))
      rw[hci] at HI
      go_wp2
      generalize wr.alloc (.cells #[.int .i64 z.c,.int .i64 z.r] 101)=w2 at *
      have j0:=rg q0
      have j1:=rg q1
      clear q0 q1 e0 e1
      refine wp_region_quiet_below (by kernel_rfl) (by kernel_rfl) ?_
      repeat (go_big_quiet_step (first | (go_at_call 74;first | (with_reducible exact rg_same (HI.out _)) | (with_reducible exact rg_same (HJ.out _)))))
      refine wpQuiet_nil ?_
      rintro _ ⟨⟨dq,osq⟩,rfl⟩
      have b3:=below_regrown w2 dq osq
      generalize grow (redrawn w2 dq) osq=w3 at *
      go_wp2
      go_ret
      exact⟨by rw[HF.out];rfl,HB1.out.trans (b3.mono HB1.out.size)⟩
    rw[hci] at HI HV
    cases hri:inB z.r 1 1000
    · have HF:=Lib.hid (HNO.out (by rw[HV.out,hri];rfl))
      rw[hri] at HJ
      go_wp2
      generalize wr.alloc (.cells #[.int .i64 z.c,.int .i64 z.r] 101)=w2 at *
      have j0:=rg q0
      have j1:=rg q1
      clear q0 q1 e0 e1
      refine wp_region_quiet_below (by kernel_rfl) (by kernel_rfl) ?_
      repeat (go_big_quiet_step (first | (go_at_call 74;first | (with_reducible exact rg_same (HI.out _)) | (with_reducible exact rg_same (HJ.out _)))))
      refine wpQuiet_nil ?_
      rintro _ ⟨⟨dq,osq⟩,rfl⟩
      have b3:=below_regrown w2 dq osq
      generalize grow (redrawn w2 dq) osq=w3 at *
      go_wp2
      go_ret
      exact⟨by rw[HF.out];rfl,HB1.out.trans (b3.mono HB1.out.size)⟩
    rw[hri] at HJ HV
    clear hci hri
    by_cases hk0:k=0
    · have hk0b:decide (0<k)=false:=decide_eq_false (by omega)
      have hk0c:decide (0<(k:Int))=false:=decide_eq_false (by omega)
      have hk0I:¬((0:Int)<(k:Int)):=by omega
      have HS:=Lib.hid (HST.out (by rw[HV.out,hk0b];rfl))
      clear hk0
      go_wp2
      generalize wr.alloc (.cells #[.int .i64 z.c,.int .i64 z.r] 101)=w2 at *
      have j0:=rg q0
      have j1:=rg q1
      clear q0 q1 e0 e1
      refine wp_region_quiet_below (by kernel_rfl) (by kernel_rfl) ?_
      repeat (go_big_quiet_step (first | (go_at_call 74;first | (with_reducible exact rg_same (HI.out _)) | (with_reducible exact rg_same (HJ.out _)))))
      refine wpQuiet_nil ?_
      rintro _ ⟨⟨dq,osq⟩,rfl⟩
      have b3:=below_regrown w2 dq osq
      generalize grow (redrawn w2 dq) osq=w3 at *
      clear j0 j1
      go_wp2
      go_roundw
      case rel=>exact⟨k+1,hlt,by go_num,HS.out,HB1.out.trans (b3.mono HB1.out.size)⟩
      case measure=>simp[intOf];omega
    obtain⟨k',hk'⟩:∃k',k=k'+1:=⟨k-1,by omega⟩
    have hkk:k-1=k':=by omega
    have hk0b:decide (0<k)=true:=decide_eq_true (by omega)
    have hk0c:decide (0<(k:Int))=true:=decide_eq_true (by omega)
    have hkp:(0:Int)<(k:Int):=by omega
    have f1w:IntKind.i64.wrap ((k:Int)-1)=(k':Int):=by rw[IntWalk.i64_in _ (by omega)];omega
    have f1x:wrap64 ((k:Int)-1)=(k':Int):=by rw[IntWalk.wrap64_in _ (by omega)];omega
    have f2w:(k':Int)<(n0:Int):=by omega
    have f3w:k'<n0:=by omega
    have p0:=HC1.out k' f3w 0 _ rfl
    have p1:=HC1.out k' f3w 1 _ rfl
    simp only[Nat.add_zero] at p0
    rw[hkk,hk0b] at HV
    generalize zs[k']?.getD nilFm=y at *
    clear hk' hkk hk0
    by_cases hdp:y.c≤z.c
    · have hdpb:decide (y.c≤z.c)=true:=decide_eq_true hdp
      have HF:=Lib.hid (HNO.out (by rw[HV.out,hdpb];rfl))
      go_wp2
      generalize wr.alloc (.cells #[.int .i64 z.c,.int .i64 z.r] 101)=w2 at *
      have j0:=rg q0
      have j1:=rg q1
      have j2:=rg p0
      have j3:=rg p1
      clear q0 q1 e0 e1 p0 p1
      refine wp_region_quiet_below (by kernel_rfl) (by kernel_rfl) ?_
      repeat (go_big_quiet_step (first | (go_at_call 74;first | (with_reducible exact rg_same (HI.out _)) | (with_reducible exact rg_same (HJ.out _)))))
      refine wpQuiet_nil ?_
      rintro _ ⟨⟨dq,osq⟩,rfl⟩
      have b3:=below_regrown w2 dq osq
      generalize grow (redrawn w2 dq) osq=w3 at *
      go_wp2
      go_ret
      exact⟨by rw[HF.out];rfl,HB1.out.trans (b3.mono HB1.out.size)⟩
    have hdpb:decide (y.c≤z.c)=false:=decide_eq_false hdp
    by_cases hdq:z.r≤y.r
    · have hdqb:decide (z.r≤y.r)=true:=decide_eq_true hdq
      have HF:=Lib.hid (HNO.out (by rw[HV.out,hdpb,hdqb];rfl))
      go_wp2
      generalize wr.alloc (.cells #[.int .i64 z.c,.int .i64 z.r] 101)=w2 at *
      have j0:=rg q0
      have j1:=rg q1
      have j2:=rg p0
      have j3:=rg p1
      clear q0 q1 e0 e1 p0 p1
      refine wp_region_quiet_below (by kernel_rfl) (by kernel_rfl) ?_
      repeat (go_big_quiet_step (first | (go_at_call 74;first | (with_reducible exact rg_same (HI.out _)) | (with_reducible exact rg_same (HJ.out _)))))
      refine wpQuiet_nil ?_
      rintro _ ⟨⟨dq,osq⟩,rfl⟩
      have b3:=below_regrown w2 dq osq
      generalize grow (redrawn w2 dq) osq=w3 at *
      go_wp2
      go_ret
      exact⟨by rw[HF.out];rfl,HB1.out.trans (b3.mono HB1.out.size)⟩
    have hdqb:decide (z.r≤y.r)=false:=decide_eq_false hdq
    have HS:=Lib.hid (HST.out (by rw[HV.out,hdpb,hdqb];rfl))
    go_wp2
    generalize wr.alloc (.cells #[.int .i64 z.c,.int .i64 z.r] 101)=w2 at *
    have j0:=rg q0
    have j1:=rg q1
    have j2:=rg p0
    have j3:=rg p1
    clear q0 q1 e0 e1 p0 p1
    refine wp_region_quiet_below (by kernel_rfl) (by kernel_rfl) ?_
    repeat (go_big_quiet_step (first | (go_at_call 74;first | (with_reducible exact rg_same (HI.out _)) | (with_reducible exact rg_same (HJ.out _)))))
    refine wpQuiet_nil ?_
    rintro _ ⟨⟨dq,osq⟩,rfl⟩
    have b3:=below_regrown w2 dq osq
    generalize grow (redrawn w2 dq) osq=w3 at *
    clear j0 j1 j2 j3
    go_wp2
    go_roundw
    case rel=>exact⟨k+1,hlt,by go_num,HS.out,HB1.out.trans (b3.mono HB1.out.size)⟩
    case measure=>simp[intOf];omega
  · obtain rfl:n0=k:=by omega
    have HF:=Lib.hid (HAL.out HK.out)
    go_wp2_with (go_at_call 74;refine(HIN.out _).mono ?_;rintro e w' ⟨rfl,rfl⟩)
    go_ret
    exact⟨by rw[HF.out];rfl,HB.out⟩
theorem l10Formats_any (v:Value) (zs:List Fmt) (w:World) (h:Rdt w (flt 2 fmE zs) v):
 Calls Tryz.prog 101 #[v] w fun e w'=>e= .returned (.bool (fmOk zs))∧Below w.heap.size w w':=by
 obtain⟨a0,n0,c0,rfl,HN,hc,hn,ha⟩:=flt_opn (m:=2) (enc:=fmE) (fun _=>rfl) (by omega) nilFm h
 have HA:=Lib.hid ha
 have HAT:=Lib.hid (fun i hi h=>@fmOk_at zs i hi h)
 have HAL:=Lib.hid (@fmOk_all zs)
 have HLG:=Lib.hid (@fmOk_long zs)
 rw[HN.out] at HAT HAL HLG
 have HIN:=Lib.hid (fun w=>l1In_any (n0:Int) 1 6 w)
 clear ha h
 generalize fmOk zs=ok at *
 go_enter Tryz.func101,Tryz.ntmps101
 go_wp2
 go_loopw [3] (fun i wr=>∃k:Nat,k≤n0∧k≤7∧i= .int .i64 k∧Hid (∀i,i<k→fmAt zs i=true)∧Hid (Below w.heap.size w wr)) (fun i _=>n0-(intOf i).toNat)
 case atStart=>exact⟨0,Nat.zero_le _,Nat.zero_le _,rfl,fun i hi=>by omega,Below.refl _ _⟩
 case round=>
  obtain⟨k,hk,hk7,rfl,HK,HB⟩:=hrel
  by_cases hlt:k<n0
  · have hltI:(k:Int)<(n0:Int):=by omega
    by_cases h7:k≤6
    case neg=>
     have h7I:¬((k:Int)≤6):=by omega
     have h7b:decide ((k:Int)≤6)=false:=decide_eq_false h7I
     have h7c:decide (k≤6)=false:=decide_eq_false (by omega)
     have HF:=Lib.hid (HLG.out (by omega))
     have HNO:=Lib.hid (show inB (n0:Int) 1 6=false by unfold inB;rw[decide_eq_false (show¬(n0:Int)≤6 by omega)];simp)
     go_wp2_with (go_at_call 77;refine(HIN.out _).mono ?_;rintro e w' ⟨rfl,rfl⟩;rw[HNO.out])
     go_ret
     exact⟨by rw[HF.out];rfl,HB.out⟩
    have h7I:(k:Int)≤6:=by omega
    have h7b:decide ((k:Int)≤6)=true:=decide_eq_true h7I
    have h7c:decide (k≤6)=true:=decide_eq_true h7
    obtain⟨b,off,rfl,hbs,hcs⟩:=HA.out (by omega)
    have HC:=Lib.hid (fun i hi r u hu=>(HB.out.cell (p:=⟨b,off+i*2+r,none⟩) hbs).trans (hcs i hi r u hu))
    have e0:=HC.out k hlt 0 _ rfl
    have e1:=HC.out k hlt 1 _ rfl
    simp only[Nat.add_zero] at e0
    have HNO:=Lib.hid (HAT.out k hlt)
    have HST:=Lib.hid (fun h=>fm_up HK.out (k:=k) h)
    have HV:=Lib.hid (show fmAt zs k=(inB (zs[k]?.getD nilFm).c 1 20000&&(inB (zs[k]?.getD nilFm).r 1 1000 && !(decide (0<k)&&(decide ((zs[k-1]?.getD nilFm).c≤(zs[k]?.getD nilFm).c) || decide ((zs[k]?.getD nilFm).r≤(zs[k-1]?.getD nilFm).r))))) from rfl)
    have hbs':=Nat.lt_of_lt_of_le hbs HB.out.size
    generalize zs[k]?.getD nilFm=z at *
    have HB1:=HB
    have HC1:=HC
    clear hcs HC
    have HI:=Lib.hid (fun w=>l1In_any z.c 1 20000 w)
    have HJ:=Lib.hid (fun w=>l1In_any z.r 1 1000 w)
    cases hci:inB z.c 1 20000
    · have HF:=Lib.hid (HNO.out (by rw[HV.out,hci];rfl))
      rw[hci] at HI
      go_wp2
      obtain⟨w2,hw2⟩:∃w2,w2=wr:=⟨_,rfl⟩
      subst hw2
      have j0:=rg e0
      have j1:=rg e1
      clear e0 e1
      refine wp_region_quiet_below (by kernel_rfl) (by kernel_rfl) ?_
      repeat (go_big_quiet_step (first | (go_at_call 77;first | (with_reducible exact rg_same (HI.out _)) | (with_reducible exact rg_same (HJ.out _)))))
      refine wpQuiet_nil ?_
      rintro _ ⟨⟨dq,osq⟩,rfl⟩
      have b3:=below_regrown w2 dq osq
      generalize grow (redrawn w2 dq) osq=w3 at *
      go_wp2
      go_ret
      exact⟨by rw[HF.out];rfl,HB1.out.trans (b3.mono HB1.out.size)⟩
    rw[hci] at HI HV
    cases hri:inB z.r 1 1000
    · have HF:=Lib.hid (HNO.out (by rw[HV.out,hri];rfl))
      rw[hri] at HJ
      go_wp2
      obtain⟨w2,hw2⟩:∃w2,w2=wr:=⟨_,rfl⟩
      subst hw2
      have j0:=rg e0
      have j1:=rg e1
      clear e0 e1
      refine wp_region_quiet_below (by kernel_rfl) (by kernel_rfl) ?_
      repeat (go_big_quiet_step (first | (go_at_call 77;first | (with_reducible exact rg_same (HI.out _)) | (with_reducible exact rg_same (HJ.out _)))))
      refine wpQuiet_nil ?_
      rintro _ ⟨⟨dq,osq⟩,rfl⟩
      have b3:=below_regrown w2 dq osq
      generalize grow (redrawn w2 dq) osq=w3 at *
      go_wp2
      go_ret
      exact⟨by rw[HF.out];rfl,HB1.out.trans (b3.mono HB1.out.size)⟩
    rw[hri] at HJ HV
    clear hci hri
    by_cases hk0:k=0
    · have hk0b:decide (0<k)=false:=decide_eq_false (by omega)
      have hk0c:decide (0<(k:Int))=false:=decide_eq_false (by omega)
      have hk0I:¬((0:Int)<(k:Int)):=by omega
      have HS:=Lib.hid (HST.out (by rw[HV.out,hk0b];rfl))
      clear hk0
      go_wp2
      obtain⟨w2,hw2⟩:∃w2,w2=wr:=⟨_,rfl⟩
      subst hw2
      have j0:=rg e0
      have j1:=rg e1
      clear e0 e1
      refine wp_region_quiet_below (by kernel_rfl) (by kernel_rfl) ?_
      repeat (go_big_quiet_step (first | (go_at_call 77;first | (with_reducible exact rg_same (HI.out _)) | (with_reducible exact rg_same (HJ.out _)))))
      refine wpQuiet_nil ?_
      rintro _ ⟨⟨dq,osq⟩,rfl⟩
      have b3:=below_regrown w2 dq osq
      generalize grow (redrawn w2 dq) osq=w3 at *
      clear j0 j1
      go_wp2
      go_roundw
      case rel=>exact⟨k+1,hlt,by omega,by go_num,HS.out,HB1.out.trans (b3.mono HB1.out.size)⟩
      case measure=>simp[intOf];omega
    obtain⟨k',hk'⟩:∃k',k=k'+1:=⟨k-1,by omega⟩
    have hkk:k-1=k':=by omega
    have hk0b:decide (0<k)=true:=decide_eq_true (by omega)
    have hk0c:decide (0<(k:Int))=true:=decide_eq_true (by omega)
    have hkp:(0:Int)<(k:Int):=by omega
    have f1w:IntKind.i64.wrap ((k:Int)-1)=(k':Int):=by rw[IntWalk.i64_in _ (by omega)];omega
    have f1x:wrap64 ((k:Int)-1)=(k':Int):=by rw[IntWalk.wrap64_in _ (by omega)];omega
    have f2w:(k':Int)<(n0:Int):=by omega
    have f3w:k'<n0:=by omega
    have p0:=HC1.out k' f3w 0 _ rfl
    have p1:=HC1.out k' f3w 1 _ rfl
    simp only[Nat.add_zero] at p0
    rw[hkk,hk0b] at HV
    generalize zs[k']?.getD nilFm=y at *
    clear hk' hkk hk0
    by_cases hdp:y.c≤z.c
    · have hdpb:decide (y.c≤z.c)=true:=decide_eq_true hdp
      have HF:=Lib.hid (HNO.out (by rw[HV.out,hdpb];rfl))
      go_wp2
      obtain⟨w2,hw2⟩:∃w2,w2=wr:=⟨_,rfl⟩
      subst hw2
      have j0:=rg e0
      have j1:=rg e1
      have j2:=rg p0
      have j3:=rg p1
      clear e0 e1 p0 p1
      refine wp_region_quiet_below (by kernel_rfl) (by kernel_rfl) ?_
      repeat (go_big_quiet_step (first | (go_at_call 77;first | (with_reducible exact rg_same (HI.out _)) | (with_reducible exact rg_same (HJ.out _)))))
      refine wpQuiet_nil ?_
      rintro _ ⟨⟨dq,osq⟩,rfl⟩
      have b3:=below_regrown w2 dq osq
      generalize grow (redrawn w2 dq) osq=w3 at *
      go_wp2
      go_ret
      exact⟨by rw[HF.out];rfl,HB1.out.trans (b3.mono HB1.out.size)⟩
    have hdpb:decide (y.c≤z.c)=false:=decide_eq_false hdp
    by_cases hdq:z.r≤y.r
    · have hdqb:decide (z.r≤y.r)=true:=decide_eq_true hdq
      have HF:=Lib.hid (HNO.out (by rw[HV.out,hdpb,hdqb];rfl))
      go_wp2
      obtain⟨w2,hw2⟩:∃w2,w2=wr:=⟨_,rfl⟩
      subst hw2
      have j0:=rg e0
      have j1:=rg e1
      have j2:=rg p0
      have j3:=rg p1
      clear e0 e1 p0 p1
      refine wp_region_quiet_below (by kernel_rfl) (by kernel_rfl) ?_
      repeat (go_big_quiet_step (first | (go_at_call 77;first | (with_reducible exact rg_same (HI.out _)) | (with_reducible exact rg_same (HJ.out _)))))
      refine wpQuiet_nil ?_
      rintro _ ⟨⟨dq,osq⟩,rfl⟩
      have b3:=below_regrown w2 dq osq
      generalize grow (redrawn w2 dq) osq=w3 at *
      go_wp2
      go_ret
      exact⟨by rw[HF.out];rfl,HB1.out.trans (b3.mono HB1.out.size)⟩
    have hdqb:decide (z.r≤y.r)=false:=decide_eq_false hdq
    have HS:=Lib.hid (HST.out (by rw[HV.out,hdpb,hdqb];rfl))
    go_wp2
    obtain⟨w2,hw2⟩:∃w2,w2=wr:=⟨_,rfl⟩
    subst hw2
    have j0:=rg e0
    have j1:=rg e1
    have j2:=rg p0
    have j3:=rg p1
    clear e0 e1 p0 p1
    refine wp_region_quiet_below (by kernel_rfl) (by kernel_rfl) ?_
    repeat (go_big_quiet_step (first | (go_at_call 77;first | (with_reducible exact rg_same (HI.out _)) | (with_reducible exact rg_same (HJ.out _)))))
    refine wpQuiet_nil ?_
    rintro _ ⟨⟨dq,osq⟩,rfl⟩
    have b3:=below_regrown w2 dq osq
    generalize grow (redrawn w2 dq) osq=w3 at *
    clear j0 j1 j2 j3
    go_wp2
    go_roundw
    case rel=>exact⟨k+1,hlt,by omega,by go_num,HS.out,HB1.out.trans (b3.mono HB1.out.size)⟩
    case measure=>simp[intOf];omega
  · obtain rfl:n0=k:=by omega
    have HF:=Lib.hid (HAL.out HK.out)
    go_wp2_with (go_at_call 77;refine(HIN.out _).mono ?_;rintro e w' ⟨rfl,rfl⟩)
    go_ret
    exact⟨by rw[HF.out];rfl,HB.out⟩
theorem below_drewN {B:Nat} {a w:World} (h:Below B a w) (n:Nat):Below B a (w.drewN n):=⟨h.os,h.tape,h.output,h.size,h.block⟩
abbrev fmA (fs:List Fmt) (i:Nat):Fmt:=fs[i]?.getD nilFm
theorem fmOk_rng {fs:List Fmt} (h:fmOk fs=true) {i:Nat} (hi:i<fs.length):1≤(fmA fs i).c∧(fmA fs i).c≤20000∧1≤(fmA fs i).r∧(fmA fs i).r≤1000:=by
 by_cases ha:fmAt fs i=true
 · unfold fmAt at ha
   simp only[Bool.and_eq_true] at ha
   have h1:=inB_true ha.1
   have h2:=inB_true ha.2.1
   exact⟨h1.1,h1.2,h2.1,h2.2⟩
 · rw[fmOk_at hi (by simpa using ha)] at h;cases h
theorem bstI_far {fs:List Fmt} (h:fmOk fs=true) {len:Int} (hl:20000<len):∀{k:Nat},k≤fs.length→bstI fs len k= -1
 | 0,_=>rfl
 | k+1,hk=>by
   have:=fmOk_rng h (show k<fs.length by omega)
   rw[bstI,if_neg (by unfold fmA at this;omega)]
   exact bstI_far h hl (by omega)
def ffI (fs:List Fmt) (len:Int):Int:=if bstI fs len fs.length<0 then 0 else bstI fs len fs.length
theorem ffI_no {fs:List Fmt} {len:Int} (h:bstI fs len fs.length= -1):ffI fs len=0∧decide (0≤bstI fs len fs.length)=false:=by unfold ffI;rw[h];simp
theorem ffI_yes {fs:List Fmt} {len:Int} {k:Nat} (h:bstI fs len fs.length=(k:Int)):ffI fs len=k∧decide (0≤bstI fs len fs.length)=true:=by
 unfold ffI;rw[h]
 exact⟨by rw[if_neg (by omega)],decide_eq_true (by omega)⟩
theorem formatFor_any (v:Value) (fs:List Fmt) (len:Int) (w:World) (h:Rdt w (flt 2 fmE fs) v) (hf:fmOk fs=true) (hl:0≤len):
 Calls Tryz.prog 221 #[v,.int .i64 len] w fun e w'=>e= .returned (.tuple #[.int .i64 (ffI fs len),.bool (decide (0≤bstI fs len fs.length))])∧Below w.heap.size w w':=by
 have HV:=Lib.hid (implFormats_any v fs w h)
 rw[hf] at HV
 have HNO:=Lib.hid (@ffI_no fs len)
 have HYE:=Lib.hid (fun k=>@ffI_yes fs len k)
 have HFAR:=Lib.hid (fun(h:20000<len)=>bstI_far hf h (Nat.le_refl fs.length))
 have HSTEP:=Lib.hid (fun k=>show bstI fs len (k+1)=if len≤(fmA fs k).c then(k:Int) else bstI fs len k from rfl)
 have hln:=(fmOk_len hf).2
 obtain⟨a1,n1,c1,rfl,HN1,hc1,hm1,ha1⟩:=flt_opn (m:=2) (enc:=fmE) (fun _=>rfl) (by omega) nilFm h
 have HA1:=Lib.hid ha1
 rw[HN1.out] at HNO HYE HFAR hln ⊢
 generalize hR:bstI fs len n1=R at *
 have HR:=Lib.hid hR
 generalize ffI fs len=F at *
 generalize decide (0≤R)=D at *
 clear ha1 h hf hR
 go_enter Tryz.func221,Tryz.ntmps221
 by_cases hbig:20000<len
 · have hin:inB len 0 20000=false:=by unfold inB;rw[decide_eq_false (show¬len≤20000 by omega)];simp
   obtain⟨hF,hD⟩:=HNO.out (HFAR.out hbig)
   have HFD:=Lib.hid (⟨hF,hD⟩:F=0∧D=false)
   clear hF hD hbig
   go_wp2_with (first | (go_at_call 111;refine HV.out.mono ?_;rintro e w' ⟨rfl,b2⟩;have HB2:=Lib.hid b2;clear b2) | (go_at_call 74;refine(within_any _ _ _ _).mono ?_;rintro e w' ⟨rfl,rfl⟩;rw[hin]))
   go_ret2
   exact⟨by rw[HFD.out.1,HFD.out.2];rfl,HB2.out⟩
 · have hin:inB len 0 20000=true:=inB_mk hl (by omega)
   go_wp2_with (first | (go_at_call 111;refine HV.out.mono ?_;rintro e w2 ⟨rfl,b2⟩;have HB2:=Lib.hid b2;clear b2) | (go_at_call 74;refine(within_any _ _ _ _).mono ?_;rintro e w' ⟨rfl,rfl⟩;rw[hin]))
   clear hin hbig
   go_loopw [6] (fun i wr=>∃k:Nat,k≤n1∧i= .int .i64 ((k:Int)-1)∧Hid (bstI fs len k=R)∧wr=w2) (fun i _=>(intOf i+1).toNat)
   case atStart=>exact⟨n1,Nat.le_refl _,by first | rfl | go_num,HR,rfl⟩
   case round=>
    obtain⟨k,hk,rfl,HK,rfl⟩:=hrel
    by_cases hk0:k=0
    · subst hk0
      obtain⟨hF,hD⟩:=HNO.out HK.out.symm
      have HFD:=Lib.hid (⟨hF,hD⟩:F=0∧D=false)
      clear hF hD
      go_wp2
      go_ret2
      exact⟨by rw[HFD.out.1,HFD.out.2];rfl,HB2.out⟩
    · obtain⟨j,rfl⟩:∃j,k=j+1:=⟨k-1,by omega⟩
      have hj:((j+1:Nat):Int)-1=(j:Int):=by omega
      rw[hj]
      clear hj
      have hlt:j<n1:=by omega
      have hltI:(j:Int)<(n1:Int):=by omega
      have hj0:(0:Int)≤(j:Int):=by omega
      obtain⟨b,off,rfl,hbs,hcs⟩:=HA1.out (by omega)
      have e0:wr.cell? ⟨b,off+j*2,none⟩=_:=(HB2.out.cell (p:=⟨b,off+j*2+0,none⟩) hbs).trans (hcs j hlt 0 _ rfl)
      have HSJ:=Lib.hid ((HSTEP.out j).symm.trans HK.out)
      clear hcs
      unfold fmA at HSJ
      generalize (fs[j]?.getD nilFm).c=rc at *
      by_cases hr:len≤rc
      · have hrI:rc≥len:=hr
        have hj1:(j:Int)=R:=by have:=HSJ.out;rwa [if_pos hr] at this
        obtain⟨hF,hD⟩:=HYE.out j hj1.symm
        have HFD:=Lib.hid (⟨hF,hD⟩:F=j∧D=true)
        clear hF hD hr hj1
        go_wp2
        go_ret2
        exact⟨by rw[HFD.out.1,HFD.out.2];rfl,HB2.out⟩
      · have hrI:¬rc≥len:=hr
        have HJ:=Lib.hid (show bstI fs len j=R by have:=HSJ.out;rwa [if_neg hr] at this)
        clear hr
        go_wp2
        go_roundw
        case rel=>exact⟨j,by omega,by first | rfl | go_num,HJ,trivial⟩
        case measure=>(simp[intOf];try omega)
theorem slI_no {fs:List Fmt} {len:Int} (rate:Int) (h:bstI fs len fs.length<0):slI fs len rate=0:=by unfold slI;rw[if_pos h]
theorem slI_at {fs:List Fmt} {len:Int} {k:Nat} (rate:Int) (h:bstI fs len fs.length=(k:Int)):slI fs len rate=if 24<(rate+(fmA fs k).r-1)/(fmA fs k).r then 0 else(rate+(fmA fs k).r-1)/(fmA fs k).r:=by
 unfold slI
 rw[h,if_neg (by omega)];rfl
theorem slotsFor_any (v:Value) (fs:List Fmt) (len rate:Int) (w:World) (h:Rdt w (flt 2 fmE fs) v) (hf:fmOk fs=true) (hl:0≤len) (hr1:1≤rate) (hr2:rate≤1000):
 Calls Tryz.prog 190 #[v,.int .i64 len,.int .i64 rate] w fun e w'=>e= .returned (.tuple #[.int .i64 (slI fs len rate),.bool (decide (0<slI fs len rate))])∧Below w.heap.size w w':=by
 have HV:=Lib.hid (formatFor_any v fs len w h hf hl)
 have hrng:=bstI_rng fs len fs.length
 have hrate:inB rate 1 1000=true:=inB_mk hr1 hr2
 by_cases hneg:bstI fs len fs.length<0
 · rw[(ffI_no (show bstI fs len fs.length= -1 by omega)).1,(ffI_no (show bstI fs len fs.length= -1 by omega)).2] at HV
   have HS:=Lib.hid (slI_no rate hneg)
   generalize slI fs len rate=S at *
   obtain⟨a1,n1,c1,rfl,HN1,hc1,hm1,-⟩:=flt_opn (m:=2) (enc:=fmE) (fun _=>rfl) (by omega) nilFm h
   clear h hf hneg hrng hrate
   go_enter Tryz.func190,Tryz.ntmps190
   go_wp2_with (go_at_call 221;refine HV.out.mono ?_;rintro e w2 ⟨rfl,b2⟩;have HB2:=Lib.hid b2;clear b2)
   go_ret2
   exact⟨by rw[HS.out];rfl,HB2.out⟩
 · obtain⟨k,hk⟩:=Int.eq_ofNat_of_zero_le (show 0≤bstI fs len fs.length by omega)
   rw[(ffI_yes hk).1,(ffI_yes hk).2] at HV
   have HS:=Lib.hid (slI_at rate hk)
   have hkn:k<fs.length:=by omega
   have hrg:=fmOk_rng hf hkn
   obtain⟨a1,n1,c1,rfl,HN1,hc1,hm1,ha1⟩:=flt_opn (m:=2) (enc:=fmE) (fun _=>rfl) (by omega) nilFm h
   rw[HN1.out] at hkn
   obtain⟨b,off,rfl,hbs,hcs⟩:=ha1 (by omega)
   have e0:=hcs k hkn 1 _ rfl
   have hkI:(k:Int)<(n1:Int):=by omega
   have hk0:(0:Int)≤(k:Int):=by omega
   unfold fmA at hrg HS
   generalize hrr:(fs[k]?.getD nilFm).r=r at *
   obtain⟨q,hq⟩:∃q,q=(rate+r-1)/r:=⟨_,rfl⟩
   have hs1:IntKind.i64.wrap (rate+r)=rate+r:=IntWalk.i64_in _ (by omega)
   have hs2:IntKind.i64.wrap (rate+r-1)=rate+r-1:=IntWalk.i64_in _ (by omega)
   have hq0:0≤q∧q≤2000:=by
    rw[hq]
    refine⟨Int.ediv_nonneg (by omega) (by omega),?_⟩
    have:=Int.ediv_le_self r (show 0≤rate+r-1 by omega)
    have:=Int.ediv_le_self (b:=r) (a:=rate+r-1) (by omega)
    omega
   have hdv:(rate+r-1).tdiv r=q:=by rw[hq];exact Int.tdiv_eq_ediv_of_nonneg (by omega)
   have hqw:IntKind.i64.wrap q=q:=IntWalk.i64_in _ (by omega)
   have hr0:(r==0)=false:=by rw[beq_eq_false_iff_ne];omega
   rw[←hq] at HS
   have HQ1:=Lib.hid (show 1≤q from by
    rw[hq]
    exact(Int.le_ediv_iff_mul_le (by omega)).2 (by omega))
   generalize slI fs len rate=S at *
   clear h hf hneg hrng hcs ha1 hrr hk hq
   go_enter Tryz.func190,Tryz.ntmps190
   go_wp2_with (first | (go_at_call 221;refine HV.out.mono ?_;rintro e w2 ⟨rfl,b2⟩;have HB2:=Lib.hid b2;clear b2) | (go_at_call 74;refine(within_any _ _ _ _).mono ?_;rintro e w' ⟨rfl,rfl⟩;rw[hrate]) | fail)
   have e1:=(HB2.out.cell (p:=⟨b,off+k*2+1,none⟩) hbs).trans e0
   clear e0 hbs
   by_cases h24:24<q
   · have h24I:q>24:=h24
     have HZ:=Lib.hid (show S=0 by have:=HS.out;rwa [if_pos h24] at this)
     clear h24
     go_quiet (fail)
     go_wp2
     go_ret2
     exact⟨by rw[HZ.out];rfl,(below_drewN HB2.out _)⟩
   · have h24I:¬q>24:=h24
     have HZ:=Lib.hid (show S=q by have:=HS.out;rwa [if_neg h24] at this)
     have HD:=Lib.hid (show decide (0<S)=true from decide_eq_true (by rw[HZ.out];have:=HQ1.out;omega))
     clear h24
     go_quiet (fail)
     go_wp2
     go_ret2
     exact⟨by rw[HD.out,HZ.out];rfl,(below_drewN HB2.out _)⟩
section
variable {β : Type} [Inhabited β]
theorem get_mid {A B:List β} {x:β} {d:Array β} (h:d.toList=A++x::B):d[A.length]! = x:=by
 obtain rfl:d=(A++x::B).toArray:=Array.ext' h
 simp
theorem swp_list {A M B:List β} {x y:β} {d:Array β} (h:d.toList=A++x::(M++y::B)):(swp d A.length (A.length+1+M.length)).toList=A++y::(M++x::B):=by
 have hx:=get_mid h
 have h2:d.toList=(A++x::M)++y::B:=by rw[h];simp
 have hy:=get_mid h2
 have el:(A++x::M).length=A.length+1+M.length:=by simp;omega
 rw[el] at hy
 obtain rfl:d=(A++x::(M++y::B)).toArray:=Array.ext' h
 unfold swp
 rw[hx,hy]
 simp only[List.setIfInBounds_toArray,List.toList_toArray]
 rw[List.set_append_right _ _ (Nat.le_refl _),Nat.sub_self,List.set_cons_zero]
 rw[show A++y::(M++y::B)=(A++y::M)++y::B by simp]
 rw[List.set_append_right _ _ (by simp;omega),show A.length+1+M.length-(A++y::M).length=0 by simp;omega,List.set_cons_zero]
 simp
theorem swp_list' {A M B:List β} {x y:β} {d:Array β} (h:d.toList=A++x::(M++y::B)):(swp d (A.length+1+M.length) A.length).toList=A++y::(M++x::B):=by
 have hx:=get_mid h
 have h2:d.toList=(A++x::M)++y::B:=by rw[h];simp
 have hy:=get_mid h2
 have el:(A++x::M).length=A.length+1+M.length:=by simp;omega
 rw[el] at hy
 obtain rfl:d=(A++x::(M++y::B)).toArray:=Array.ext' h
 unfold swp
 rw[hx,hy]
 simp only[List.setIfInBounds_toArray,List.toList_toArray]
 rw[show A++x::(M++y::B)=(A++x::M)++y::B by simp]
 rw[List.set_append_right _ _ (by simp;omega),show A.length+1+M.length-(A++x::M).length=0 by simp;omega,List.set_cons_zero]
 rw[show(A++x::M)++x::B=A++x::(M++x::B) by simp]
 rw[List.set_append_right _ _ (Nat.le_refl _),Nat.sub_self,List.set_cons_zero]
end
section
variable {α : Type} [Inhabited α] {k : α → Int} {lt : α × Nat → α × Nat → Bool}
theorem inner_srt (hlt:∀x y,lt x y=decide (k x.1<k y.1)) {A:List (α × Nat)} {x:α × Nat} :∀(n:Nat) {X B:List (α × Nat)} {d:Array (α × Nat)},X.length=n→d.toList=A++X++x::B→srtS k X→(∀y∈X,y.2<x.2)→
 ∃Z,(insInner lt A.length (A.length+n) d).toList=A++Z++B∧Z.Perm (X++[x])∧srtS k Z
 | 0,X,B,d,hn,hd,_,_=>by
   obtain rfl:=List.length_eq_zero_iff.1 hn
   refine⟨[x],?_,by simp,List.pairwise_singleton _ _⟩
   rw[insInner_stop _ _ _ _ (.inl (by omega)),hd];simp
 | n+1,X,B,d,hn,hd,hs,ht=>by
   obtain⟨X',y,rfl⟩:∃X' y,X=X'++[y]:=⟨X.dropLast,X.getLast (by intro e;subst e;simp at hn),(List.dropLast_concat_getLast _).symm⟩
   have hn':X'.length=n:=by simp at hn;exact hn
   obtain⟨hs1,-,hs2⟩:=List.pairwise_append.1 hs
   have hd1:d.toList=(A++X')++y::(([]:List (α × Nat))++x::B):=by rw[hd];simp
   have hd2:d.toList=((A++X')++[y])++x::B:=by rw[hd];simp
   have ey:=get_mid hd1
   have ex:=get_mid hd2
   have l1:(A++X').length=A.length+n:=by simp[hn']
   have l2:((A++X')++[y]).length=A.length+(n+1):=by rw[List.length_append,l1];rfl
   rw[l1] at ey
   rw[l2] at ex
   have hty:=ht y (by simp)
   by_cases hc:k x.1<k y.1
   · rw[insInner_go lt A.length (A.length+(n+1)) d (by omega) (by rw[show A.length+(n+1)-1=A.length+n by omega,ex,ey,hlt];exact decide_eq_true hc)]
     have hsw:=swp_list' hd1
     rw[l1] at hsw
     simp only[List.length_nil,Nat.add_zero,List.nil_append] at hsw
     rw[show A.length+(n+1)-1=A.length+n by omega,show A.length+(n+1)=A.length+n+1 by omega]
     obtain⟨Z,e,hp,hz⟩:=inner_srt hlt n hn' hsw hs1 (fun z hz=>ht z (by simp[hz]))
     refine⟨Z++[y],by rw[e];simp,?_,srtS_join hz (List.pairwise_singleton _ _) fun z hz y' hy'=> ?_⟩
     · have h1:(Z++[y]).Perm ((X'++[x])++[y]):=hp.append_right _
       refine h1.trans ?_
       rw[List.append_assoc,List.append_assoc]
       exact List.Perm.append_left _ List.perm_append_comm
     · simp at hy';subst hy'
       rcases List.mem_append.1 (hp.mem_iff.1 hz) with h | h
       · exact hs2 z h y' (by simp)
       · simp at h;subst h;exact .inl hc
   · refine⟨X'++[y]++[x],?_,List.Perm.refl _,srtS_join hs (List.pairwise_singleton _ _) fun z hz x' hx'=> ?_⟩
     · rw[insInner_stop _ _ _ _ (.inr (by rw[show A.length+(n+1)-1=A.length+n by omega,ex,ey,hlt];exact decide_eq_false hc)),hd];simp
     · simp at hx';subst hx'
       have hyx:ltS k y x':=(ltS_cross' hty).2 hc
       rcases List.mem_append.1 hz with h | h
       · exact ltS_trans (hs2 z h y (by simp)) hyx
       · simp at h;subst h;exact hyx
theorem outer_srt (hlt:∀x y,lt x y=decide (k x.1<k y.1)) {A:List (α × Nat)} :∀(n:Nat) {X Y B:List (α × Nat)} {d:Array (α × Nat)},Y.length=n→d.toList=A++X++Y++B→srtS k X→(∀y∈X,∀x∈Y,y.2<x.2)→Y.Pairwise (fun x y=>x.2<y.2)→
 ∃Z,(insOuter lt (A.length) (A.length+X.length+n) (A.length+X.length) d).toList=A++Z++B∧Z.Perm (X++Y)∧srtS k Z
 | 0,X,Y,B,d,hn,hd,hs,_,_=>by
   obtain rfl:=List.length_eq_zero_iff.1 hn
   refine⟨X,?_,by simp,hs⟩
   rw[insOuter_stop _ _ _ _ _ (by omega),hd];simp
 | n+1,X,Y,B,d,hn,hd,hs,ht,hy=>by
   obtain⟨x,Y',rfl⟩:∃x Y',Y=x::Y':=by
    cases Y with
    | nil=>simp at hn
    | cons x Y'=>exact⟨x,Y',rfl⟩
   obtain⟨hy1,hy2⟩:=List.pairwise_cons.1 hy
   obtain⟨Z,e,hp,hz⟩:=inner_srt hlt X.length rfl (A:=A) (x:=x) (B:=Y'++B) (d:=d) (by rw[hd];simp) hs (fun y h=>ht y h x (by simp))
   have hzl:Z.length=X.length+1:=by rw[hp.length_eq];simp
   rw[insOuter_go _ _ _ _ _ (by omega)]
   obtain⟨Z2,e2,hp2,hz2⟩:=outer_srt hlt n (X:=Z) (Y:=Y') (B:=B) (A:=A) (by simpa using hn) (by rw[e];simp) hz (fun y h x' hx'=>by
    rcases List.mem_append.1 (hp.mem_iff.1 h) with h | h
    · exact ht y h x' (by simp[hx'])
    · simp at h;subst h;exact hy1 x' hx') hy2
   rw[hzl] at e2
   refine⟨Z2,?_,?_,hz2⟩
   · rw[←e2,show A.length+X.length+(n+1)=A.length+(X.length+1)+n by omega];rfl
   · refine hp2.trans ?_
     have:=hp.append_right Y'
     rw[List.append_assoc] at this
     exact this
theorem part_srt (hlt:∀x y,lt x y=decide (k x.1<k y.1)) {A X B:List (α × Nat)} {d:Array (α × Nat)} (hd:d.toList=A++X++B) (ht:X.Pairwise fun x y=>x.2<y.2):
 ∃Z,(insertionSort lt d A.length (A.length+X.length)).toList=A++Z++B∧Z.Perm X∧srtS k Z:=by
 unfold insertionSort
 cases X with
 | nil=>
   refine⟨[],?_,List.Perm.refl _,List.Pairwise.nil⟩
   rw[insOuter_stop _ _ _ _ _ (by simp),hd]
 | cons x X=>
   obtain⟨h1,h2⟩:=List.pairwise_cons.1 ht
   obtain⟨Z,e,hp,hz⟩:=outer_srt hlt X.length (A:=A) (X:=[x]) (Y:=X) (B:=B) (d:=d) rfl (by rw[hd];simp) (List.pairwise_singleton _ _) (fun y hy x' hx'=>by simp at hy;subst hy;exact h1 x' hx') h2
   refine⟨Z,?_,by simpa using hp,hz⟩
   rw[←e]
   rw[show A.length+(x::X).length=A.length+[x].length+X.length by simp;omega];rfl
end
section
variable {α : Type} {k : α → Int}
def blkA (L:List (α × Nat)) (bs i:Nat):List (α × Nat):=(L.drop (i*bs)).take bs
def blkS (k:α→Int) (bs:Nat) (T L:List (α × Nat)) (i:Nat):Prop:=srtS k (blkA L bs i)∧(blkA L bs i).Perm (blkA T bs i)
theorem blkA_end {L:List (α × Nat)} {bs i:Nat} (h:L.length≤i*bs):blkA L bs i=[]:=by
 unfold blkA;rw[List.drop_eq_nil_of_le h,List.take_nil]
theorem blkS_end {bs:Nat} {T L:List (α × Nat)} {i:Nat} (h:L.length≤i*bs) (hl:L.length=T.length):blkS k bs T L i:=by
 unfold blkS
 rw[blkA_end h,blkA_end (by omega)]
 exact⟨List.Pairwise.nil,List.Perm.refl _⟩
theorem blkA_old {A X Z B:List (α × Nat)} {bs i j:Nat} (hA:A.length=i*bs) (hj:j<i):blkA (A++Z++B) bs j=blkA (A++X++B) bs j:=by
 have h1:(j+1)*bs≤i*bs:=Nat.mul_le_mul_right bs hj
 rw[Nat.add_mul,Nat.one_mul] at h1
 unfold blkA
 rw[List.append_assoc,List.append_assoc,List.drop_append_of_le_length (by omega),List.drop_append_of_le_length (by omega)]
 rw[List.take_append_of_le_length (by rw[List.length_drop];omega),List.take_append_of_le_length (by rw[List.length_drop];omega)]
theorem blkA_new {A Z B:List (α × Nat)} {bs i:Nat} (hA:A.length=i*bs) (hz:Z.length=bs∨(B=[]∧Z.length≤bs)):blkA (A++Z++B) bs i=Z:=by
 unfold blkA
 rw[List.append_assoc,←hA,List.drop_left]
 rcases hz with h | ⟨rfl,h⟩
 · rw[←h,List.take_left]
 · rw[List.append_nil,List.take_of_length_le h]
theorem blkA_far {A X Z B:List (α × Nat)} {bs j:Nat} (hz:Z.length=X.length) (hj:A.length+X.length≤j*bs):blkA (A++Z++B) bs j=blkA (A++X++B) bs j:=by
 unfold blkA
 congr 1
 have e1:(A++Z).drop (j*bs)=[]:=List.drop_eq_nil_of_le (by simp;omega)
 have e2:(A++X).drop (j*bs)=[]:=List.drop_eq_nil_of_le (by simp;omega)
 have key:∀M:List (α × Nat),(M++B).drop (j*bs)=M.drop (j*bs)++B.drop (j*bs-M.length):=fun M=>List.drop_append
 rw[key,key,e1,e2,List.length_append,List.length_append,hz]
theorem blkA_two (L:List (α × Nat)) (bs i:Nat):blkA L (2*bs) i=blkA L bs (2*i)++blkA L bs (2*i+1):=by
 unfold blkA
 have e1:i*(2*bs)=2*i*bs:=by rw[←Nat.mul_assoc,Nat.mul_comm i 2]
 have e2:(2*i+1)*bs=2*i*bs+bs:=by rw[Nat.add_mul,Nat.one_mul]
 rw[e1,e2,←List.drop_drop,Nat.two_mul,List.take_add]
theorem blk_crs {bs:Nat} {T X Y:List (α × Nat)} {i j:Nat} (ht:T.Pairwise fun x y=>x.2<y.2) (hij:i<j) (hx:X.Perm (blkA T bs i)) (hy:Y.Perm (blkA T bs j)):crsS X Y:=by
 intro x h1 y h2
 have h1:=hx.mem_iff.1 h1
 have h2:=hy.mem_iff.1 h2
 have hm:(i+1)*bs≤j*bs:=Nat.mul_le_mul_right bs hij
 rw[Nat.add_mul,Nat.one_mul] at hm
 unfold blkA at h1 h2
 obtain⟨p,hp,e1⟩:=List.getElem_of_mem h1
 obtain⟨q,hq,e2⟩:=List.getElem_of_mem h2
 rw[List.length_take,List.length_drop] at hp hq
 rw[List.getElem_take,List.getElem_drop] at e1 e2
 rw[←e1,←e2]
 exact List.pairwise_iff_getElem.1 ht _ _ (by omega) (by omega) (by omega)
theorem blkA_len {L:List (α × Nat)} {bs i:Nat} (h:(i+1)*bs≤L.length):(blkA L bs i).length=bs:=by
 rw[Nat.add_mul,Nat.one_mul] at h
 unfold blkA;rw[List.length_take,List.length_drop];omega
theorem blkA_cut (L:List (α × Nat)) (bs i:Nat):L=L.take (i*bs)++blkA L bs i++L.drop (i*bs+bs):=by
 unfold blkA
 rw[←List.drop_drop,List.append_assoc,List.take_append_drop,List.take_append_drop]
theorem tag_rise (zs:List α):(tagS zs).Pairwise fun x y=>x.2<y.2:=by
 rw[List.pairwise_iff_getElem]
 intro i j hi hj hij
 unfold tagS at hi hj ⊢
 rw[List.getElem_zipIdx,List.getElem_zipIdx]
 simp only;omega
theorem blk_all {bs:Nat} {T L:List (α × Nat)} (h:blkS k bs T L 0) (hb:L.length≤bs) (hl:L.length=T.length):srtS k L∧L.Perm T:=by
 unfold blkS blkA at h
 rw[Nat.zero_mul,List.drop_zero,List.drop_zero,List.take_of_length_le hb,List.take_of_length_le (by omega)] at h
 exact h
end
open Go.RowKit Go.Sort Go.Shelf
section
variable {α : Type}
theorem swr_at {A X M Y B:List α} {i:Nat} (hx:i<X.length) (hy:i<Y.length):A++(Y.take i++(X.drop i++(M++(X.take i++(Y.drop i++B)))))=(A++Y.take i)++X[i]::((X.drop (i+1)++M++X.take i)++Y[i]::(Y.drop (i+1)++B)):=by
 rw[List.drop_eq_getElem_cons hx,List.drop_eq_getElem_cons hy];simp only[List.append_assoc,List.cons_append]
theorem swr_next {A X M Y B:List α} {i:Nat} (hx:i<X.length) (hy:i<Y.length):(A++Y.take i)++Y[i]::((X.drop (i+1)++M++X.take i)++X[i]::(Y.drop (i+1)++B))=A++(Y.take (i+1)++(X.drop (i+1)++(M++(X.take (i+1)++(Y.drop (i+1)++B))))):=by
 rw[List.take_add_one (l:=X),List.take_add_one (l:=Y),List.getElem?_eq_getElem hx,List.getElem?_eq_getElem hy];simp only[List.append_assoc,List.cons_append,Option.toList_some,List.nil_append]
end
theorem swapRange_any {α:Type} [Inhabited α] {enc:α→List Value} {w0:World} {blk off:Nat} {d0:Array α} {k:Nat} (hk3:k=3) (R:RowK enc k w0 blk off d0) (hsz:d0.size<1000000) (fv:Value) (cap:Nat) {A X M Y B:List α} {dk:Array α} (W:World) (h:SWK enc k w0 blk off dk W)
 (hd:dk.toList=A++(X++(M++(Y++B)))) (hs:dk.size=d0.size) (hxy:X.length=Y.length):
 Calls Tryz.prog 262 #[.slice (some ⟨blk,off,none⟩) d0.size cap,.int .i64 A.length,.int .i64 ((A.length+X.length+M.length:Nat):Int),.int .i64 X.length,fv] W fun e w'=>e= .returned (.tuple #[])∧ ∃d',SWK enc k w0 blk off d' w'∧d'.toList=A++(Y++(M++(X++B))):=by
 obtain⟨nn,hnn⟩:∃nn,nn=X.length:=⟨_,rfl⟩
 obtain⟨pa,hpa⟩:∃pa,pa=A.length:=⟨_,rfl⟩
 obtain⟨pb,hpb⟩:∃pb,pb=A.length+X.length+M.length:=⟨_,rfl⟩
 obtain⟨N,hN⟩:∃N,N=d0.size:=⟨_,rfl⟩
 have hlen:d0.size=A.length+X.length+M.length+Y.length+B.length:=by
  rw[←hs,←Array.length_toList,hd];simp;omega
 have HST:=Lib.hid (show∃d,SWK enc k w0 blk off d W∧d.toList=A++(Y.take 0++(X.drop 0++(M++(X.take 0++(Y.drop 0++B))))) from⟨dk,h,by rw[hd];simp⟩)
 have HSTEP:=Lib.hid (fun(i:Nat) (hi:i<nn) (d:Array α) (hdl:d.toList=A++(Y.take i++(X.drop i++(M++(X.take i++(Y.drop i++B))))))=>show d.size=d0.size∧(swp d (pa+i) (pb+i)).toList=A++(Y.take (i+1)++(X.drop (i+1)++(M++(X.take (i+1)++(Y.drop (i+1)++B))))) from by
  have hx:i<X.length:=by omega
  have hy:i<Y.length:=by omega
  refine⟨by rw[←hs,←Array.length_toList,←Array.length_toList,hd,hdl];simp;omega,?_⟩
  rw[swr_at hx hy] at hdl
  have:=swp_list hdl
  have e1:(A++Y.take i).length=pa+i:=by rw[List.length_append,List.length_take];omega
  have e2:(A++Y.take i).length+1+(X.drop (i+1)++M++X.take i).length=pb+i:=by
   simp only[List.length_append,List.length_take,List.length_drop];omega
  rw[e2,e1] at this
  rw[this,swr_next hx hy])
 have HFIN:=Lib.hid (fun(d:Array α) (hdl:d.toList=A++(Y.take nn++(X.drop nn++(M++(X.take nn++(Y.drop nn++B))))))=>show d.toList=A++(Y++(M++(X++B))) from by
  rw[hdl,List.take_of_length_le (by omega:Y.length≤nn),List.drop_eq_nil_of_le (by omega:X.length≤nn),List.take_of_length_le (by omega:X.length≤nn),List.drop_eq_nil_of_le (by omega:Y.length≤nn)];simp)
 have HR:=Lib.hid R
 have hb1:pb+nn≤N:=by omega
 have hb2:pa+nn≤N:=by omega
 have hb3:N<1000000:=by omega
 have HNE:=Lib.hid hN
 rw[←hnn,←hpa,show pa+nn+M.length=pb by omega,←hN]
 clear R h hd hs hxy hlen hnn hpa hpb hN hsz
 have F:=Tryz.func262
 have mixed:Tryz.prog.follows .mixedOrders=true:=by kernel_rfl
 have t0:=Tryz.underlying3;have a0:=Tryz.isAgg3;have z0:=Tryz.sizeOf3;have v0:=Tryz.zeroValue3
 have t1:=Tryz.underlying4;have a1:=Tryz.isAgg4;have z1:=Tryz.sizeOf4;have v1:=Tryz.zeroValue4
 have t2:=Tryz.underlying164;have a2:=Tryz.isAgg164;have z2:=Tryz.sizeOf164;have v2:=Tryz.zeroValue164
 have t3:=Tryz.underlying184;have a3:=Tryz.isAgg184;have z3:=Tryz.sizeOf184;have v3:=Tryz.zeroValue184
 have t4:=Tryz.underlying189;have a4:=Tryz.isAgg189;have z4:=Tryz.sizeOf189;have v4:=Tryz.zeroValue189
 rw[←hk3] at z4
 have HK3:=Lib.hid hk3
 clear hk3
 generalize Tryz.prog=P at *
 go_enter F,Tryz.ntmps262
 go_wp2
 go_loopw [10] (fun vi wr=>∃i:Nat,i≤nn∧vi= .int .i64 i∧Hid (∃d,SWK enc k w0 blk off d wr∧d.toList=A++(Y.take i++(X.drop i++(M++(X.take i++(Y.drop i++B))))))) (fun vi _=>nn-(intOf vi).toNat)
 case atStart=>exact⟨0,Nat.zero_le _,rfl,HST⟩
 case round=>
  obtain⟨i,hi,rfl,HD⟩:=hrel
  by_cases hlt:i<nn
  · have hltI:(i:Int)<(nn:Int):=by omega
    obtain⟨d,hsw,hdl⟩:=HD.out
    obtain⟨hsd,hnx⟩:=HSTEP.out i hlt d hdl
    obtain⟨p,hp⟩:∃p,p=pa+i:=⟨_,rfl⟩
    obtain⟨q,hq⟩:∃q,q=pb+i:=⟨_,rfl⟩
    have hpN:(p:Int)<(N:Int):=by omega
    have hqN:(q:Int)<(N:Int):=by omega
    have hpd:p<d.size:=by rw[hsd,←HNE.out];omega
    have hqd:q<d.size:=by rw[hsd,←HNE.out];omega
    have hwp:IntKind.i64.wrap ((pa:Int)+(i:Int))=(p:Int):=by rw[IntWalk.i64_in _ (by omega)];omega
    have hwq:IntKind.i64.wrap ((pb:Int)+(i:Int))=(q:Int):=by rw[IntWalk.i64_in _ (by omega)];omega
    have l1:=hsw.ld1 HR.out hsd P p hpd
    have l2:=hsw.ld1 HR.out hsd P q hqd
    have s1:=hsw.st1 HR.out hsd P p hpd d[q]!
    have s2:=hsw.st2 HR.out hsd P p q hpd hqd d[q]! d[p]!
    have HNX:=Lib.hid (show∃d',SWK enc k w0 blk off d' ((wr.drew.setCells blk (off+p*k) (enc d[q]!)).setCells blk (off+q*k) (enc d[p]!))∧d'.toList=A++(Y.take (i+1)++(X.drop (i+1)++(M++(X.take (i+1)++(Y.drop (i+1)++B))))) from⟨_,hsw.swapped HR.out p q hpd hqd,by rw[hp,hq];exact hnx⟩)
    have hl1:(enc d[p]!).length=k:=HR.out.hk _
    have hl2:(enc d[q]!).length=k:=HR.out.hk _
    clear hsw hdl hsd hnx hpd hqd hp hq HD
    generalize enc d[p]! = cp at *
    generalize enc d[q]! = cq at *
    go_wp2_with fail
    go_big_region_o
    all_goals go_wp2
    clear hwp hwq
    go_roundw
    case rel=>exact⟨i+1,hlt,by go_num,HNX⟩
    case measure=>simp[intOf];omega
  · obtain rfl:i=nn:=by omega
    go_wp2
    go_end0
    obtain⟨d,hsw,hdl⟩:=HD.out
    exact⟨rfl,d,hsw,HFIN.out d hdl⟩
end Go.Proofs.YtofcicomhnkocaaGreat
