/- Walks: the reference's l2Good. -/
import Derived.Test.YtphhenlokbodnaaNetW
namespace Go.Proofs.Ytphhenlokbodnaa
open Go.RowKit Go.Sort
set_option maxRecDepth 100000

set_option maxHeartbeats 6400000 in
theorem l2Good_any (v : Value) (n : Net) (w : World) (h : NetR w v n) :
    Calls Try.prog 58 #[v] w fun e w' => e = .returned (.bool (netOk n)) ∧ Below w.heap.size w w' := by
  obtain ⟨u1, u2, rfl, r1, r2, hsm⟩ := h
  obtain ⟨a1, m1, c1, rfl, HN1, hc1, hm1, ha1⟩ := flt_opn (m := 1) (enc := strE) (fun _ => rfl) (by omega) nilS r1
  obtain ⟨a2, m2, c2, rfl, HN2, hc2, hm2, ha2⟩ := flt_opn (m := 4) (enc := fibE) (fun _ => rfl) (by omega) nilB r2
  have HNM := Lib.hid (fun i hi h => @netOk_nm n i hi h)
  have HFB := Lib.hid (fun i hi h => @netOk_fb n i hi h)
  have HALL := Lib.hid (@netOk_all n)
  have HSZ := Lib.hid (@netOk_sz n)
  rw [HN1.out, HN2.out] at HALL HSZ
  rw [HN1.out] at HNM
  rw [HN2.out] at HFB
  generalize netOk n = q at *
  obtain ⟨bx, bc, blt, -⟩ := box_facts w #[.slice a1 m1 c1, .slice a2 m2 c2] 32
  have q0 := bc 0 _ rfl
  have q1 := bc 1 _ rfl
  have HA1 := Lib.hid ha1
  have HA2 := Lib.hid ha2
  have HR1 := Lib.hid (r1.behind bx)
  have HBX := Lib.hid bx
  have HSM := Lib.hid hsm
  clear bc ha1 ha2 r1 r2 bx hsm
  go_enter Try.func58, Try.ntmps58
  by_cases hsz : 2 ≤ m1 ∧ m1 ≤ 8 ∧ m2 ≤ 14
  case neg =>
    have HF := Lib.hid (HSZ.out hsz)
    by_cases h1 : 2 ≤ m1 ∧ m1 ≤ 8
    · have hin : inB (m1 : Int) 2 8 = true := by unfold inB; simp; omega
      have hd : decide (14 < (m2 : Int)) = true := decide_eq_true (by omega)
      have hd2 : decide (14 < m2) = true := decide_eq_true (by omega)
      clear hsz h1
      go_wp2_with (go_at_call 48; refine (l1In_any _ _ _ _).mono ?_; rintro e w' ⟨rfl, rfl⟩; rw [hin])
      go_ret
      exact ⟨by rw [HF.out]; rfl, HBX.out⟩
    · have hin : inB (m1 : Int) 2 8 = false := by
        by_cases h2 : 2 ≤ m1
        · unfold inB; simp; omega
        · unfold inB; simp; omega
      clear hsz h1
      go_wp2_with (go_at_call 48; refine (l1In_any _ _ _ _).mono ?_; rintro e w' ⟨rfl, rfl⟩; rw [hin])
      go_ret
      exact ⟨by rw [HF.out]; rfl, HBX.out⟩
  have hin : inB (m1 : Int) 2 8 = true := by unfold inB; simp; omega
  have hd : decide (14 < (m2 : Int)) = false := decide_eq_false (by omega)
  have hd2 : decide (14 < m2) = false := decide_eq_false (by omega)
  obtain ⟨z1, z2, z3⟩ := hsz
  rw [decide_eq_true (show 2 ≤ m1 ∧ m1 ≤ 8 ∧ m2 ≤ 14 from ⟨z1, z2, z3⟩)] at HALL
  clear HSZ
  go_wp2_with (go_at_call 48; refine (l1In_any _ _ _ _).mono ?_; rintro e w' ⟨rfl, rfl⟩; rw [hin])
  generalize w.alloc (.cells #[.slice a1 m1 c1, .slice a2 m2 c2] 32) = w1 at *
  clear hin hd hd2
  go_loopw [3] (fun i wr => ∃ k : Nat, k ≤ m1 ∧ i = .int .i64 k ∧ Hid (∀ i, i < k → nmOk n i = true) ∧ Hid (Below w1.heap.size w1 wr)) (fun i _ => m1 - (intOf i).toNat)
  case atStart => exact ⟨0, Nat.zero_le _, rfl, fun i hi => by omega, Below.refl _ _⟩
  case round =>
    obtain ⟨k, hk, rfl, HK, HB⟩ := hrel
    have p0 := (HB.out.cell blt).trans q0
    have p1 := (HB.out.cell blt).trans q1
    by_cases hlt : k < m1
    · have hltI : (k : Int) < (m1 : Int) := by omega
      have hkx : k < n.ns.length := by rw [HN1.out]; exact hlt
      obtain ⟨b, off, rfl, hbs, hcs⟩ := HA1.out (by omega)
      have hc0 := hcs k hlt 0 _ rfl
      rw [Nat.mul_one, Nat.add_zero] at hc0
      have hcw := (HB.out.cell (p := ⟨b, off + k, none⟩) (Nat.lt_of_lt_of_le hbs HBX.out.size)).trans ((HBX.out.cell hbs).trans hc0)
      have HNA := Lib.hid (fun w => l2Name_any (nmA n k) w (Nat.le_trans (HSM.out k) (by decide)))
      have HFI := Lib.hid (fun d os => l2Find_any _ n.ns (nmA n k) _ ((HR1.out.behind HB.out).rg d os))
      have HV := Lib.hid (show nmOk n k = (nameOk (nmA n k) && decide (plc n.ns (nmA n k) = (k : Int))) from rfl)
      have HST := Lib.hid (fun h => upto_succ HK.out (k := k) h)
      have HNO := Lib.hid (HNM.out k hlt)
      clear hcs hc0 hkx
      unfold nmA at *
      generalize hx : n.ns[k]?.getD nilS = x at *
      clear hx
      cases hN : nameOk x
      · have HF := Lib.hid (HNO.out (by rw [HV.out, hN]; rfl))
        clear HNO HST HV HFI
        rw [hN] at HNA
        clear hN
        go_wp2
        have j0 := rg p0
        have j1 := rg p1
        have j2 := rg hcw
        clear p0 p1 hcw
        refine wp_region_quiet_below (by kernel_rfl) (by kernel_rfl) ?_
        repeat (go_big_quiet_step (first | (go_at_call 71; exact rg_same (HNA.out _))))
        refine wpQuiet_nil ?_
        rintro _ ⟨⟨dq, osq⟩, rfl⟩
        go_wp2
        go_ret
        exact ⟨by rw [HF.out]; rfl, HBX.out.trans ((HB.out.mono HBX.out.size).trans ((below_regrown _ dq osq).mono (Nat.le_trans HBX.out.size HB.out.size)))⟩
      rw [hN] at HNA HV
      have HV2 := Lib.hid (show nmOk n k = decide (plc n.ns x = (k : Int)) by rw [HV.out]; simp)
      clear hN HV
      generalize plc n.ns x = pl at *
      have hne : (pl != (k : Int)) = !decide (pl = (k : Int)) := rfl
      cases hP : decide (pl = (k : Int))
      · have HF := Lib.hid (HNO.out (by rw [HV2.out, hP]))
        rw [hP] at hne
        have hne2 : (pl != (k : Int)) = true := hne
        clear HNO HST HV2 hP hne
        go_wp2
        have j0 := rg p0
        have j1 := rg p1
        have j2 := rg hcw
        clear p0 p1 hcw
        refine wp_region_quiet_below (by kernel_rfl) (by kernel_rfl) ?_
        repeat (go_big_quiet_step (first | (go_at_call 71; exact rg_same (HNA.out _)) | (go_at_call 72; exact rg_same (HFI.out _ _))))
        refine wpQuiet_nil ?_
        rintro _ ⟨⟨dq, osq⟩, rfl⟩
        go_wp2
        go_ret
        exact ⟨by rw [HF.out]; rfl, HBX.out.trans ((HB.out.mono HBX.out.size).trans ((below_regrown _ dq osq).mono (Nat.le_trans HBX.out.size HB.out.size)))⟩
      · have HS := Lib.hid (HST.out (by rw [HV2.out, hP]))
        rw [hP] at hne
        have hne2 : (pl != (k : Int)) = false := hne
        clear HNO HST HV2 hP hne
        go_wp2
        have j0 := rg p0
        have j1 := rg p1
        have j2 := rg hcw
        clear p0 p1 hcw
        refine wp_region_quiet_below (by kernel_rfl) (by kernel_rfl) ?_
        repeat (go_big_quiet_step (first | (go_at_call 71; exact rg_same (HNA.out _)) | (go_at_call 72; exact rg_same (HFI.out _ _))))
        refine wpQuiet_nil ?_
        rintro _ ⟨⟨dq, osq⟩, rfl⟩
        go_wp2
        go_roundw
        case rel => exact ⟨k + 1, hlt, by go_num, HS.out, HB.out.trans ((below_regrown _ dq osq).mono HB.out.size)⟩
        case measure => simp [intOf]; omega
    · obtain rfl : m1 = k := by omega
      have HAL1 := Lib.hid (HALL.out HK.out)
      clear HALL HK HNM HR1
      go_wp2
      go_loopw [4] (fun i wr => ∃ k : Nat, k ≤ m2 ∧ i = .int .i64 k ∧ Hid (∀ i, i < k → fbOk n i = true) ∧ Hid (Below w1.heap.size w1 wr)) (fun i _ => m2 - (intOf i).toNat)
      case atStart => exact ⟨0, Nat.zero_le _, rfl, fun i hi => by omega, HB.out⟩
      case round =>
        clear HB p0 p1
        obtain ⟨k, hk, rfl, HK, HB⟩ := hrel
        have p0 := (HB.out.cell blt).trans q0
        have p1 := (HB.out.cell blt).trans q1
        by_cases hlt : k < m2
        · have hltI : (k : Int) < (m2 : Int) := by omega
          obtain ⟨b, off, rfl, hbs, hcs⟩ := HA2.out (by omega)
          have hcw := fun (i : Nat) (hi : i < m2) (r : Nat) (u : Value) (hu : (fibE (n.fs[i]?.getD nilB))[r]? = some u) => (HB.out.cell (p := ⟨b, off + i * 4 + r, none⟩) (Nat.lt_of_lt_of_le hbs HBX.out.size)).trans ((HBX.out.cell hbs).trans (hcs i hi r u hu))
          have HC := Lib.hid hcw
          have HST := Lib.hid (fun h => upto_succ HK.out (k := k) h)
          have HNO := Lib.hid (HFB.out k hlt)
          have HV := Lib.hid (show fbOk n k = (fibOk (fbA n k) n.ns.length && !(decide (0 < k) && fibGt (fbA n (k - 1)) (fbA n k))) from rfl)
          rw [HN1.out] at HV
          have c0 := hcw k hlt 0 _ rfl
          have c1 := hcw k hlt 1 _ rfl
          have c2 := hcw k hlt 2 _ rfl
          have c3 := hcw k hlt 3 _ rfl
          simp only [Nat.add_zero] at c0
          have j0 := rg c0
          have j1 := rg c1
          have j2 := rg c2
          have j3 := rg c3
          have j4 := rg p0
          have j5 := rg p1
          clear hcs hcw c0 c1 c2 c3
          unfold fbA at *
          have HFI := Lib.hid (fun w => l2Fiber_any (n.fs[k]?.getD nilB) m1 w (by omega))
          have HSMK := Lib.hid (fun h => @fibOk_small (n.fs[k]?.getD nilB) m1 h (by omega))
          generalize n.fs[k]?.getD nilB = f at *
          unfold fibV at HFI
          generalize hok : fibOk f m1 = ok at *
          cases ok
          · have HF := Lib.hid (HNO.out (by rw [HV.out]; rfl))
            clear hok HNO HST HV
            go_wp2
            clear p0 p1
            refine wp_region_quiet_below (by kernel_rfl) (by kernel_rfl) ?_
            repeat (go_big_quiet_step (first | (go_at_call 73; exact Calls.regrown_of (HFI.out _))))
            refine wpQuiet_nil ?_
            rintro _ ⟨⟨dq, osq⟩, rfl⟩
            go_wp2
            go_ret
            exact ⟨by rw [HF.out]; rfl, HBX.out.trans ((HB.out.mono HBX.out.size).trans ((below_regrown _ dq osq).mono (Nat.le_trans HBX.out.size HB.out.size)))⟩
          by_cases hk0 : k = 0
          · have hk0b : decide (0 < k) = false := decide_eq_false (by omega)
            have hk0c : decide (0 < (k : Int)) = false := decide_eq_false (by omega)
            have hv := HV.out
            rw [decide_eq_false (show ¬ 0 < k by omega)] at hv
            have HS := Lib.hid (HST.out (by rw [hv]; rfl))
            clear hok hk0 hv HV
            go_wp2
            clear p0 p1
            refine wp_region_quiet_below (by kernel_rfl) (by kernel_rfl) ?_
            repeat (go_big_quiet_step (first | (go_at_call 73; exact Calls.regrown_of (HFI.out _))))
            refine wpQuiet_nil ?_
            rintro _ ⟨⟨dq, osq⟩, rfl⟩
            go_wp2
            go_roundw
            case rel => exact ⟨k + 1, hlt, by go_num, HS.out, HB.out.trans ((below_regrown _ dq osq).mono HB.out.size)⟩
            case measure => simp [intOf]; omega
          · obtain ⟨k', hk'⟩ : ∃ k', k = k' + 1 := ⟨k - 1, by omega⟩
            have hgo := HK.out k' (by omega)
            have o0 := HC.out k' (by omega) 0 _ rfl
            have o1 := HC.out k' (by omega) 1 _ rfl
            have o2 := HC.out k' (by omega) 2 _ rfl
            have o3 := HC.out k' (by omega) 3 _ rfl
            simp only [Nat.add_zero] at o0
            have t0 := rg o0
            have t1 := rg o1
            have t2 := rg o2
            have t3 := rg o3
            have hsg : smallF (n.fs[k']?.getD nilB) := by
              unfold fbOk fbA at hgo
              rw [HN1.out] at hgo
              simp only [Bool.and_eq_true] at hgo
              exact fibOk_small hgo.1 (by omega)
            have HCF := Lib.hid (fun w => l2Before_any (n.fs[k']?.getD nilB) f w hsg (HSMK.out rfl))
            have HGT := Lib.hid (befF_gt (n.fs[k']?.getD nilB) f)
            have hv := HV.out
            rw [show k - 1 = k' by omega, decide_eq_true (show 0 < k by omega)] at hv
            have HV2 := Lib.hid hv
            clear hok hv HV o0 o1 o2 o3 hgo hsg HSMK
            generalize n.fs[k']?.getD nilB = g at *
            have hkp : (0 : Int) < (k : Int) := by omega
            have hkd : decide (0 < (k : Int)) = true := decide_eq_true hkp
            have hke : decide (0 < k) = true := decide_eq_true (by omega)
            have f1w : IntKind.i64.wrap ((k : Int) - 1) = (k' : Int) := by rw [IntWalk.i64_in _ (by omega)]; omega
            have f2w : (k' : Int) < (m2 : Int) := by omega
            clear hk' hk0
            unfold fibV at HCF
            generalize befF g f = cc at *
            cases hgt : fibGt g f
            · have HS := Lib.hid (HST.out (by rw [HV2.out, hgt]; simp))
              have hdc : decide (0 < cc) = false := by rw [HGT.out, hgt]
              clear hgt HNO HST HV2 HGT
              go_wp2
              clear p0 p1
              refine wp_region_quiet_below (by kernel_rfl) (by kernel_rfl) ?_
              repeat (go_big_quiet_step (first | (go_at_call 73; exact Calls.regrown_of (HFI.out _)) | (go_at_call 74; exact Calls.regrown_of (HCF.out _))))
              refine wpQuiet_nil ?_
              rintro _ ⟨⟨dq, osq⟩, rfl⟩
              go_wp2
              go_roundw
              case rel => exact ⟨k + 1, hlt, by go_num, HS.out, HB.out.trans ((below_regrown _ dq osq).mono HB.out.size)⟩
              case measure => simp [intOf]; omega
            · have HF := Lib.hid (HNO.out (by rw [HV2.out, hgt]; simp))
              have hdc : decide (0 < cc) = true := by rw [HGT.out, hgt]
              clear hgt HNO HST HV2 HGT
              go_wp2
              clear p0 p1
              refine wp_region_quiet_below (by kernel_rfl) (by kernel_rfl) ?_
              repeat (go_big_quiet_step (first | (go_at_call 73; exact Calls.regrown_of (HFI.out _)) | (go_at_call 74; exact Calls.regrown_of (HCF.out _))))
              refine wpQuiet_nil ?_
              rintro _ ⟨⟨dq, osq⟩, rfl⟩
              go_wp2
              go_ret
              exact ⟨by rw [HF.out]; rfl, HBX.out.trans ((HB.out.mono HBX.out.size).trans ((below_regrown _ dq osq).mono (Nat.le_trans HBX.out.size HB.out.size)))⟩
        · obtain rfl : m2 = k := by omega
          have HE := Lib.hid (HAL1.out HK.out)
          go_wp2
          go_ret
          exact ⟨by rw [HE.out]; rfl, HBX.out.trans (HB.out.mono HBX.out.size)⟩
end Go.Proofs.Ytphhenlokbodnaa
