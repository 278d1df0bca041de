/- Joined: XNetW XNetS XFlu XMid XRecP XNumP XLst. -/
import Derived.Test.YtonpcgdnfclidaaGreatDoorBf02
import Derived.OwnWalk
import Derived.Deep.MidRow
import Derived.WalkKit
import Derived.Lib.Hide
import Derived.Test.YtonpcgdnfclidaaGreatDoorBf01
import Derived.Lib.ItoaNum
import Derived.Laws.IdiomStrings
namespace Go.Proofs.YtonpcgdnfclidaaGreatDoor
open Go.RowKit Go.Sort
set_option maxRecDepth 100000

theorem fib_cases (f : Fib) (m : Nat) :
    (decide (f.a < 0) = true ∧ fibOk f m = false) ∨
    (decide (f.a < 0) = false ∧ decide (f.b ≤ f.a) = true ∧ fibOk f m = false) ∨
    (decide (f.a < 0) = false ∧ decide (f.b ≤ f.a) = false ∧ decide ((m : Int) ≤ f.b) = true ∧ fibOk f m = false) ∨
    (decide (f.a < 0) = false ∧ decide (f.b ≤ f.a) = false ∧ decide ((m : Int) ≤ f.b) = false ∧ inB f.l 1 5000 = false ∧ fibOk f m = false) ∨
    (decide (f.a < 0) = false ∧ decide (f.b ≤ f.a) = false ∧ decide ((m : Int) ≤ f.b) = false ∧ inB f.l 1 5000 = true ∧ inB f.r 0 9 = false ∧ fibOk f m = false) ∨
    (decide (f.a < 0) = false ∧ decide (f.b ≤ f.a) = false ∧ decide ((m : Int) ≤ f.b) = false ∧ inB f.l 1 5000 = true ∧ inB f.r 0 9 = true ∧ fibOk f m = true) := by
  have e : fibOk f m = (inB f.a 0 ((m : Int) - 1) && inB f.b (f.a + 1) ((m : Int) - 1) && inB f.l 1 5000 && inB f.r 0 9) := rfl
  by_cases h1 : f.a < 0
  · left; refine ⟨decide_eq_true h1, ?_⟩
    rw [e, show inB f.a 0 ((m : Int) - 1) = false by unfold inB; simp; omega]; simp
  right
  by_cases h2 : f.b ≤ f.a
  · left; refine ⟨decide_eq_false h1, decide_eq_true h2, ?_⟩
    rw [e, show inB f.b (f.a + 1) ((m : Int) - 1) = false by unfold inB; simp; omega]; simp
  right
  by_cases h3 : (m : Int) ≤ f.b
  · left; refine ⟨decide_eq_false h1, decide_eq_false h2, decide_eq_true h3, ?_⟩
    rw [e, show inB f.b (f.a + 1) ((m : Int) - 1) = false by unfold inB; simp; omega]; simp
  right
  have e2 : fibOk f m = (inB f.l 1 5000 && inB f.r 0 9) := by
    rw [e, show inB f.a 0 ((m : Int) - 1) = true by unfold inB; simp; omega, show inB f.b (f.a + 1) ((m : Int) - 1) = true by unfold inB; simp; omega]; simp
  rw [e2]
  cases inB f.l 1 5000
  · left; exact ⟨decide_eq_false h1, decide_eq_false h2, decide_eq_false h3, rfl, rfl⟩
  right
  cases inB f.r 0 9
  · left; exact ⟨decide_eq_false h1, decide_eq_false h2, decide_eq_false h3, rfl, rfl, rfl⟩
  · right; exact ⟨decide_eq_false h1, decide_eq_false h2, decide_eq_false h3, rfl, rfl, rfl⟩
set_option maxHeartbeats 6400000 in
theorem IsValidNetwork_any (v : Value) (n : Net) (w : World) (h : NetR w v n) :
    Calls Tryz.prog 57 #[v] w fun e w' => e = .returned (.bool (netOk n)) ∧ Below w.heap.size w w' := by
  obtain ⟨u1, u2, rfl, r1, r2, hsm⟩ := h
  obtain ⟨a1, m1, c1, rfl, HN1, hc1, hm1, ha1⟩ := flt_opn (m := 1) (enc := strE) (fun _ => rfl) (by omega) nilS r1
  obtain ⟨a2, m2, c2, rfl, HN2, hc2, hm2, ha2⟩ := flt_opn (m := 4) (enc := fibE) (fun _ => rfl) (by omega) nilB r2
  have HNM := Lib.hid (fun i hi h => @netOk_nm n i hi h)
  have HFB := Lib.hid (fun i hi h => @netOk_fb n i hi h)
  have HALL := Lib.hid (@netOk_all n)
  rw [HN1.out, HN2.out] at HALL
  rw [HN1.out] at HNM
  rw [HN2.out] at HFB
  generalize netOk n = q at *
  obtain ⟨bx, bc, blt, -⟩ := box_facts w #[.slice a1 m1 c1, .slice a2 m2 c2] 38
  have q0 := bc 0 _ rfl
  have q1 := bc 1 _ rfl
  have HA1 := Lib.hid ha1
  have HA2 := Lib.hid ha2
  have HR1 := Lib.hid (r1.behind bx)
  have HBX := Lib.hid bx
  have HSM := Lib.hid hsm
  clear bc ha1 ha2 r1 r2 bx hsm
  go_enter Tryz.func57, Tryz.ntmps57
  go_wp2
  generalize w.alloc (.cells #[.slice a1 m1 c1, .slice a2 m2 c2] 38) = w1 at *
  go_loopw [3, 4, 10] (fun _ _ i wr => ∃ k : Nat, k ≤ m1 ∧ i = .int .i64 k ∧ Hid (∀ i, i < k → nmOk n i = true) ∧ Hid (Below w1.heap.size w1 wr)) (fun _ _ i _ => m1 - (intOf i).toNat)
  case atStart => exact ⟨0, Nat.zero_le _, rfl, fun i hi => by omega, Below.refl _ _⟩
  case round =>
    obtain ⟨k, hk, rfl, HK, HB⟩ := hrel
    have p0 := (HB.out.cell blt).trans q0
    have p1 := (HB.out.cell blt).trans q1
    by_cases hlt : k < m1
    · have hltI : (k : Int) < (m1 : Int) := by omega
      have hkx : k < n.ns.length := by rw [HN1.out]; exact hlt
      obtain ⟨b, off, rfl, hbs, hcs⟩ := HA1.out (by omega)
      have hc0 := hcs k hlt 0 _ rfl
      rw [Nat.mul_one, Nat.add_zero] at hc0
      have hcw := (HB.out.cell (p := ⟨b, off + k, none⟩) (Nat.lt_of_lt_of_le hbs HBX.out.size)).trans ((HBX.out.cell hbs).trans hc0)
      have HNA := Lib.hid (fun w => isName_any (nmA n k) w (Nat.le_trans (HSM.out k) (by decide)))
      have HCO := Lib.hid (fun N => containsS_any _ (n.ns.take k) (nmA n k) (wr.drewN N) ((flt_take (m := 1) (enc := strE) (fun _ => rfl) (by omega) (HR1.out.behind HB.out) hk).behind ((Dr.refl _).drewN N |>.below (Below.refl _ _))))
      have HV := Lib.hid (show nmOk n k = (nameOk (nmA n k) && decide (plc n.ns (nmA n k) = (k : Int))) from rfl)
      have HPL := Lib.hid (plc_pre hkx)
      have HST := Lib.hid (fun h => upto_succ HK.out (k := k) h)
      have HNO := Lib.hid (HNM.out k hlt)
      clear hcs hc0 hkx
      unfold nmA at *
      generalize hx : n.ns[k]?.getD nilS = x at *
      have hkI : (0 : Int) ≤ (k : Int) := by omega
      have hkI2 : (k : Int) ≤ (c1 : Int) := by omega
      clear hx
      cases hN : nameOk x
      · have HF := Lib.hid (HNO.out (by rw [HV.out, hN]; rfl))
        clear HNO HST HPL HV HCO
        rw [hN] at HNA
        clear hN
        go_wp2_with (go_at_call 85; refine (HNA.out _).mono ?_; rintro e w' ⟨rfl, n', rfl⟩)
        go_ret
        exact ⟨by rw [HF.out]; rfl, HBX.out.trans ((HB.out.mono HBX.out.size).trans (((Dr.refl _).drewN n').below (Below.refl _ _)))⟩
      cases hP : decide (plc n.ns x = (k : Int))
      · have HF := Lib.hid (HNO.out (by rw [HV.out, hN, hP]; rfl))
        rw [hN] at HNA
        have hpl := HPL.out
        rw [hP] at hpl
        rw [hpl] at HCO
        clear HNO HST HPL HV hN hP hpl
        go_wp2_with (first | (go_at_call 85; refine (HNA.out _).mono ?_; rintro e w' ⟨rfl, n', rfl⟩) | (go_at_call 86; refine (HCO.out _).mono ?_; rintro e w' ⟨rfl, rfl⟩))
        go_ret
        exact ⟨by rw [HF.out]; rfl, HBX.out.trans ((HB.out.mono HBX.out.size).trans (((Dr.refl _).drewN n').below (Below.refl _ _)))⟩
      · have HS := Lib.hid (HST.out (by rw [HV.out, hN, hP]; rfl))
        rw [hN] at HNA
        have hpl := HPL.out
        rw [hP] at hpl
        rw [hpl] at HCO
        clear HNO HST HPL HV hN hP hpl
        go_wp2_with (first | (go_at_call 85; refine (HNA.out _).mono ?_; rintro e w' ⟨rfl, n', rfl⟩) | (go_at_call 86; refine (HCO.out _).mono ?_; rintro e w' ⟨rfl, rfl⟩))
        go_roundw
        case rel => exact ⟨k + 1, hlt, by go_num, HS.out, HB.out.trans (((Dr.refl _).drewN n').below (Below.refl _ _))⟩
        case measure => simp [intOf]; omega
    · obtain rfl : m1 = k := by omega
      have HAL1 := Lib.hid (HALL.out HK.out)
      clear HALL HK HNM HR1
      go_wp2
      go_loopw [5, 6, 30] (fun _ _ i wr => ∃ k : Nat, k ≤ m2 ∧ i = .int .i64 k ∧ Hid (∀ i, i < k → fbOk n i = true) ∧ Hid (Below w1.heap.size w1 wr)) (fun _ _ i _ => m2 - (intOf i).toNat)
      case atStart => exact ⟨0, Nat.zero_le _, rfl, fun i hi => by omega, HB.out⟩
      case round =>
        clear HB p0 p1
        obtain ⟨k, hk, rfl, HK, HB⟩ := hrel
        have p0 := (HB.out.cell blt).trans q0
        have p1 := (HB.out.cell blt).trans q1
        by_cases hlt : k < m2
        · have hltI : (k : Int) < (m2 : Int) := by omega
          obtain ⟨b, off, rfl, hbs, hcs⟩ := HA2.out (by omega)
          have hcw := fun (i : Nat) (hi : i < m2) (r : Nat) (u : Value) (hu : (fibE (n.fs[i]?.getD nilB))[r]? = some u) => (HB.out.cell (p := ⟨b, off + i * 4 + r, none⟩) (Nat.lt_of_lt_of_le hbs HBX.out.size)).trans ((HBX.out.cell hbs).trans (hcs i hi r u hu))
          have HA3 := Lib.hid hcs
          have HST := Lib.hid (fun h => upto_succ HK.out (k := k) h)
          have HNO := Lib.hid (HFB.out k hlt)
          have HV := Lib.hid (show fbOk n k = (fibOk (fbA n k) n.ns.length && !(decide (0 < k) && fibGt (fbA n (k - 1)) (fbA n k))) from rfl)
          rw [HN1.out] at HV
          have c0 := hcw k hlt 0 _ rfl
          have c1 := hcw k hlt 1 _ rfl
          have c2 := hcw k hlt 2 _ rfl
          have c3 := hcw k hlt 3 _ rfl
          simp only [Nat.add_zero] at c0
          clear hcs hcw
          unfold fbA at *
          have HFC := Lib.hid (fib_cases (n.fs[k]?.getD nilB) m1)
          generalize n.fs[k]?.getD nilB = f at *
          obtain ⟨bf, bfc, bfl, -⟩ := box_facts wr #[.int .i64 f.a, .int .i64 f.b, .int .i64 f.l, .int .i64 f.r] 110
          have HBF := Lib.hid (HB.out.trans (bf.mono HB.out.size))
          have f0 := bfc 0 _ rfl
          have f1 := bfc 1 _ rfl
          have f2 := bfc 2 _ rfl
          have f3 := bfc 3 _ rfl
          have g0 := (HBF.out.cell blt).trans q0
          have g1 := (HBF.out.cell blt).trans q1
          clear bf bfc bfl
          rcases HFC.out with ⟨d1, hok⟩ | ⟨d1, d2, hok⟩ | ⟨d1, d2, d3, hok⟩ | ⟨d1, d2, d3, d4, hok⟩ | ⟨d1, d2, d3, d4, d5, hok⟩ | ⟨d1, d2, d3, d4, d5, hok⟩
          rotate_left 5
          · by_cases hk0 : k = 0
            · have hk0b : decide (0 < k) = false := decide_eq_false (by omega)
              have hk0c : decide (0 < (k : Int)) = false := decide_eq_false (by omega)
              have hv := HV.out
              rw [hok, decide_eq_false (show ¬ 0 < k by omega)] at hv
              have HV2 := Lib.hid hv
              clear hv HV hk0
              have HS := Lib.hid (HST.out (by rw [HV2.out]; rfl))
              clear hok
              go_wp2
              generalize wr.alloc (.cells #[.int .i64 f.a, .int .i64 f.b, .int .i64 f.l, .int .i64 f.r] 110) = w2 at *
              have j0 := rg f0
              have j1 := rg f1
              have j2 := rg f2
              have j3 := rg f3
              have j4 := rg g0
              have j5 := rg g1
              clear f0 f1 f2 f3 g0 g1 p0 p1
              refine wp_region_quiet_below (by kernel_rfl) (by kernel_rfl) ?_
              repeat (go_big_quiet_step (first | (go_at_call 62; exact rg_same (within_any _ _ _ _))))
              refine wpQuiet_nil ?_
              rintro _ ⟨⟨dq, osq⟩, rfl⟩
              go_wp2
              go_roundw
              case rel => exact ⟨k + 1, hlt, by go_num, HS.out, HBF.out.trans ((below_regrown _ dq osq).mono HBF.out.size)⟩
              case measure => simp [intOf]; omega
            · obtain ⟨k', hk'⟩ : ∃ k', k = k' + 1 := ⟨k - 1, by omega⟩
              have HKK := Lib.hid hk'
              have o0 := (HBF.out.cell (p := ⟨b, off + k' * 4 + 0, none⟩) (Nat.lt_of_lt_of_le hbs HBX.out.size)).trans ((HBX.out.cell hbs).trans (HA3.out k' (by omega) 0 _ rfl))
              have o1 := (HBF.out.cell (p := ⟨b, off + k' * 4 + 1, none⟩) (Nat.lt_of_lt_of_le hbs HBX.out.size)).trans ((HBX.out.cell hbs).trans (HA3.out k' (by omega) 1 _ rfl))
              have o2 := (HBF.out.cell (p := ⟨b, off + k' * 4 + 2, none⟩) (Nat.lt_of_lt_of_le hbs HBX.out.size)).trans ((HBX.out.cell hbs).trans (HA3.out k' (by omega) 2 _ rfl))
              have o3 := (HBF.out.cell (p := ⟨b, off + k' * 4 + 3, none⟩) (Nat.lt_of_lt_of_le hbs HBX.out.size)).trans ((HBX.out.cell hbs).trans (HA3.out k' (by omega) 3 _ rfl))
              simp only [Nat.add_zero] at o0
              have HCF := Lib.hid (fun w => compareFibers_any (n.fs[k']?.getD nilB) f w)
              have HGT := Lib.hid (cmpF_gt (n.fs[k']?.getD nilB) f)
              have hv := HV.out
              rw [hok, show k - 1 = k' by omega, decide_eq_true (show 0 < k by omega)] at hv
              have HV2 := Lib.hid hv
              clear hok hv HV
              generalize n.fs[k']?.getD nilB = g at *
              have hkp : (0 : Int) < (k : Int) := by omega
              have hkd : decide (0 < (k : Int)) = true := decide_eq_true hkp
              have hke : decide (0 < k) = true := decide_eq_true (by omega)
              have f1w : IntKind.i64.wrap ((k : Int) - 1) = (k' : Int) := by rw [IntWalk.i64_in _ (by omega)]; omega
              have f2w : (k' : Int) < (m2 : Int) := by omega
              clear hk' hk0
              unfold fibV at HCF
              generalize cmpF g f = cc at *
              cases hgt : fibGt g f
              · have HS := Lib.hid (HST.out (by rw [HV2.out, hgt]; simp))
                have hdc : decide (0 < cc) = false := by rw [HGT.out, hgt]
                clear hgt HNO HST HV2 HGT
                go_wp2
                generalize wr.alloc (.cells #[.int .i64 f.a, .int .i64 f.b, .int .i64 f.l, .int .i64 f.r] 110) = w2 at *
                have j0 := rg f0
                have j1 := rg f1
                have j2 := rg f2
                have j3 := rg f3
                have j4 := rg g0
                have j5 := rg g1
                have t0 := rg o0
                have t1 := rg o1
                have t2 := rg o2
                have t3 := rg o3
                clear f0 f1 f2 f3 g0 g1 p0 p1 o0 o1 o2 o3
                refine wp_region_quiet_below (by kernel_rfl) (by kernel_rfl) ?_
                repeat (go_big_quiet_step (first | (go_at_call 62; exact rg_same (within_any _ _ _ _)) | (go_at_call 87; exact Calls.regrown_of (HCF.out _))))
                refine wpQuiet_nil ?_
                rintro _ ⟨⟨dq, osq⟩, rfl⟩
                go_wp2
                go_roundw
                case rel => exact ⟨k + 1, hlt, by go_num, HS.out, HBF.out.trans ((below_regrown _ dq osq).mono HBF.out.size)⟩
                case measure => simp [intOf]; omega
              · have HF := Lib.hid (HNO.out (by rw [HV2.out, hgt]; simp))
                have hdc : decide (0 < cc) = true := by rw [HGT.out, hgt]
                clear hgt HNO HST HV2 HGT
                go_wp2
                generalize wr.alloc (.cells #[.int .i64 f.a, .int .i64 f.b, .int .i64 f.l, .int .i64 f.r] 110) = w2 at *
                have j0 := rg f0
                have j1 := rg f1
                have j2 := rg f2
                have j3 := rg f3
                have j4 := rg g0
                have j5 := rg g1
                have t0 := rg o0
                have t1 := rg o1
                have t2 := rg o2
                have t3 := rg o3
                clear f0 f1 f2 f3 g0 g1 p0 p1 o0 o1 o2 o3
                refine wp_region_quiet_below (by kernel_rfl) (by kernel_rfl) ?_
                repeat (go_big_quiet_step (first | (go_at_call 62; exact rg_same (within_any _ _ _ _)) | (go_at_call 87; exact Calls.regrown_of (HCF.out _))))
                refine wpQuiet_nil ?_
                rintro _ ⟨⟨dq, osq⟩, rfl⟩
                go_wp2
                go_ret
                exact ⟨by rw [HF.out]; rfl, HBX.out.trans ((HBF.out.mono HBX.out.size).trans ((below_regrown _ dq osq).mono (Nat.le_trans HBX.out.size HBF.out.size)))⟩
          all_goals
            have HF := Lib.hid (HNO.out (by rw [HV.out, hok]; rfl))
            clear hok
            go_wp2
            generalize wr.alloc (.cells #[.int .i64 f.a, .int .i64 f.b, .int .i64 f.l, .int .i64 f.r] 110) = w2 at *
            have j0 := rg f0
            have j1 := rg f1
            have j2 := rg f2
            have j3 := rg f3
            have j4 := rg g0
            have j5 := rg g1
            clear f0 f1 f2 f3 g0 g1 p0 p1
            refine wp_region_quiet_below (by kernel_rfl) (by kernel_rfl) ?_
            repeat (go_big_quiet_step (first | (go_at_call 62; exact rg_same (within_any _ _ _ _))))
            refine wpQuiet_nil ?_
            rintro _ ⟨⟨dq, osq⟩, rfl⟩
            go_wp2
            go_ret
            exact ⟨by rw [HF.out]; rfl, HBX.out.trans ((HBF.out.mono HBX.out.size).trans ((below_regrown _ dq osq).mono (Nat.le_trans HBX.out.size HBF.out.size)))⟩
        · obtain rfl : m2 = k := by omega
          have HE := Lib.hid (HAL1.out HK.out)
          have HV := Lib.hid (show decide (2 ≤ m1 ∧ m1 ≤ 8 ∧ m2 ≤ 14) = (inB (m1 : Int) 2 8 && decide (m2 ≤ 14)) by unfold inB; rw [Bool.eq_iff_iff]; simp; omega)
          cases hin : inB (m1 : Int) 2 8
          · go_wp2_with (go_at_call 62; refine (within_any _ _ _ _).mono ?_; rintro e w' ⟨rfl, rfl⟩; rw [hin])
            go_ret
            exact ⟨by rw [HE.out, HV.out, hin]; rfl, HBX.out.trans (HB.out.mono HBX.out.size)⟩
          · by_cases h14 : (m2 : Int) ≤ 14
            · have hd : decide ((m2 : Int) ≤ 14) = true := decide_eq_true h14
              have hd2 : decide (m2 ≤ 14) = true := decide_eq_true (by omega)
              clear h14
              go_wp2_with (go_at_call 62; refine (within_any _ _ _ _).mono ?_; rintro e w' ⟨rfl, rfl⟩; rw [hin])
              go_ret
              exact ⟨by rw [HE.out, HV.out, hin, hd2]; rfl, HBX.out.trans (HB.out.mono HBX.out.size)⟩
            · have hd : decide ((m2 : Int) ≤ 14) = false := decide_eq_false h14
              have hd2 : decide (m2 ≤ 14) = false := decide_eq_false (by omega)
              clear h14
              go_wp2_with (go_at_call 62; refine (within_any _ _ _ _).mono ?_; rintro e w' ⟨rfl, rfl⟩; rw [hin])
              go_ret
              exact ⟨by rw [HE.out, HV.out, hin, hd2]; rfl, HBX.out.trans (HB.out.mono HBX.out.size)⟩
end Go.Proofs.YtonpcgdnfclidaaGreatDoor
namespace Go.Proofs.YtonpcgdnfclidaaGreatDoor
open Go.RowKit Go.Sort
set_option maxRecDepth 100000

set_option maxHeartbeats 6400000 in
theorem l2Good_any (v : Value) (n : Net) (w : World) (h : NetR w v n) :
    Calls Tryz.prog 79 #[v] w fun e w' => e = .returned (.bool (netOk n)) ∧ Below w.heap.size w w' := by
  obtain ⟨u1, u2, rfl, r1, r2, hsm⟩ := h
  obtain ⟨a1, m1, c1, rfl, HN1, hc1, hm1, ha1⟩ := flt_opn (m := 1) (enc := strE) (fun _ => rfl) (by omega) nilS r1
  obtain ⟨a2, m2, c2, rfl, HN2, hc2, hm2, ha2⟩ := flt_opn (m := 4) (enc := fibE) (fun _ => rfl) (by omega) nilB r2
  have HNM := Lib.hid (fun i hi h => @netOk_nm n i hi h)
  have HFB := Lib.hid (fun i hi h => @netOk_fb n i hi h)
  have HALL := Lib.hid (@netOk_all n)
  have HSZ := Lib.hid (@netOk_sz n)
  rw [HN1.out, HN2.out] at HALL HSZ
  rw [HN1.out] at HNM
  rw [HN2.out] at HFB
  generalize netOk n = q at *
  obtain ⟨bx, bc, blt, -⟩ := box_facts w #[.slice a1 m1 c1, .slice a2 m2 c2] 38
  have q0 := bc 0 _ rfl
  have q1 := bc 1 _ rfl
  have HA1 := Lib.hid ha1
  have HA2 := Lib.hid ha2
  have HR1 := Lib.hid (r1.behind bx)
  have HBX := Lib.hid bx
  have HSM := Lib.hid hsm
  clear bc ha1 ha2 r1 r2 bx hsm
  go_enter Tryz.func79, Tryz.ntmps79
  by_cases hsz : 2 ≤ m1 ∧ m1 ≤ 8 ∧ m2 ≤ 14
  case neg =>
    have HF := Lib.hid (HSZ.out hsz)
    by_cases h1 : 2 ≤ m1 ∧ m1 ≤ 8
    · have hin : inB (m1 : Int) 2 8 = true := by unfold inB; simp; omega
      have hd : decide (14 < (m2 : Int)) = true := decide_eq_true (by omega)
      have hd2 : decide (14 < m2) = true := decide_eq_true (by omega)
      clear hsz h1
      go_wp2_with (go_at_call 82; refine (l1In_any _ _ _ _).mono ?_; rintro e w' ⟨rfl, rfl⟩; rw [hin])
      go_ret
      exact ⟨by rw [HF.out]; rfl, HBX.out⟩
    · have hin : inB (m1 : Int) 2 8 = false := by
        by_cases h2 : 2 ≤ m1
        · unfold inB; simp; omega
        · unfold inB; simp; omega
      clear hsz h1
      go_wp2_with (go_at_call 82; refine (l1In_any _ _ _ _).mono ?_; rintro e w' ⟨rfl, rfl⟩; rw [hin])
      go_ret
      exact ⟨by rw [HF.out]; rfl, HBX.out⟩
  have hin : inB (m1 : Int) 2 8 = true := by unfold inB; simp; omega
  have hd : decide (14 < (m2 : Int)) = false := decide_eq_false (by omega)
  have hd2 : decide (14 < m2) = false := decide_eq_false (by omega)
  obtain ⟨z1, z2, z3⟩ := hsz
  rw [decide_eq_true (show 2 ≤ m1 ∧ m1 ≤ 8 ∧ m2 ≤ 14 from ⟨z1, z2, z3⟩)] at HALL
  clear HSZ
  go_wp2_with (go_at_call 82; refine (l1In_any _ _ _ _).mono ?_; rintro e w' ⟨rfl, rfl⟩; rw [hin])
  generalize w.alloc (.cells #[.slice a1 m1 c1, .slice a2 m2 c2] 38) = w1 at *
  clear hin hd hd2
  go_loopw [3] (fun i wr => ∃ k : Nat, k ≤ m1 ∧ i = .int .i64 k ∧ Hid (∀ i, i < k → nmOk n i = true) ∧ Hid (Below w1.heap.size w1 wr)) (fun i _ => m1 - (intOf i).toNat)
  case atStart => exact ⟨0, Nat.zero_le _, rfl, fun i hi => by omega, Below.refl _ _⟩
  case round =>
    obtain ⟨k, hk, rfl, HK, HB⟩ := hrel
    have p0 := (HB.out.cell blt).trans q0
    have p1 := (HB.out.cell blt).trans q1
    by_cases hlt : k < m1
    · have hltI : (k : Int) < (m1 : Int) := by omega
      have hkx : k < n.ns.length := by rw [HN1.out]; exact hlt
      obtain ⟨b, off, rfl, hbs, hcs⟩ := HA1.out (by omega)
      have hc0 := hcs k hlt 0 _ rfl
      rw [Nat.mul_one, Nat.add_zero] at hc0
      have hcw := (HB.out.cell (p := ⟨b, off + k, none⟩) (Nat.lt_of_lt_of_le hbs HBX.out.size)).trans ((HBX.out.cell hbs).trans hc0)
      have HNA := Lib.hid (fun w => l2Name_any (nmA n k) w (Nat.le_trans (HSM.out k) (by decide)))
      have HFI := Lib.hid (fun d os => l2Find_any _ n.ns (nmA n k) _ ((HR1.out.behind HB.out).rg d os))
      have HV := Lib.hid (show nmOk n k = (nameOk (nmA n k) && decide (plc n.ns (nmA n k) = (k : Int))) from rfl)
      have HST := Lib.hid (fun h => upto_succ HK.out (k := k) h)
      have HNO := Lib.hid (HNM.out k hlt)
      clear hcs hc0 hkx
      unfold nmA at *
      generalize hx : n.ns[k]?.getD nilS = x at *
      clear hx
      cases hN : nameOk x
      · have HF := Lib.hid (HNO.out (by rw [HV.out, hN]; rfl))
        clear HNO HST HV HFI
        rw [hN] at HNA
        clear hN
        go_wp2
        have j0 := rg p0
        have j1 := rg p1
        have j2 := rg hcw
        clear p0 p1 hcw
        refine wp_region_quiet_below (by kernel_rfl) (by kernel_rfl) ?_
        repeat (go_big_quiet_step (first | (go_at_call 107; exact rg_same (HNA.out _))))
        refine wpQuiet_nil ?_
        rintro _ ⟨⟨dq, osq⟩, rfl⟩
        go_wp2
        go_ret
        exact ⟨by rw [HF.out]; rfl, HBX.out.trans ((HB.out.mono HBX.out.size).trans ((below_regrown _ dq osq).mono (Nat.le_trans HBX.out.size HB.out.size)))⟩
      rw [hN] at HNA HV
      have HV2 := Lib.hid (show nmOk n k = decide (plc n.ns x = (k : Int)) by rw [HV.out]; simp)
      clear hN HV
      generalize plc n.ns x = pl at *
      have hne : (pl != (k : Int)) = !decide (pl = (k : Int)) := rfl
      cases hP : decide (pl = (k : Int))
      · have HF := Lib.hid (HNO.out (by rw [HV2.out, hP]))
        rw [hP] at hne
        have hne2 : (pl != (k : Int)) = true := hne
        clear HNO HST HV2 hP hne
        go_wp2
        have j0 := rg p0
        have j1 := rg p1
        have j2 := rg hcw
        clear p0 p1 hcw
        refine wp_region_quiet_below (by kernel_rfl) (by kernel_rfl) ?_
        repeat (go_big_quiet_step (first | (go_at_call 107; exact rg_same (HNA.out _)) | (go_at_call 108; exact rg_same (HFI.out _ _))))
        refine wpQuiet_nil ?_
        rintro _ ⟨⟨dq, osq⟩, rfl⟩
        go_wp2
        go_ret
        exact ⟨by rw [HF.out]; rfl, HBX.out.trans ((HB.out.mono HBX.out.size).trans ((below_regrown _ dq osq).mono (Nat.le_trans HBX.out.size HB.out.size)))⟩
      · have HS := Lib.hid (HST.out (by rw [HV2.out, hP]))
        rw [hP] at hne
        have hne2 : (pl != (k : Int)) = false := hne
        clear HNO HST HV2 hP hne
        go_wp2
        have j0 := rg p0
        have j1 := rg p1
        have j2 := rg hcw
        clear p0 p1 hcw
        refine wp_region_quiet_below (by kernel_rfl) (by kernel_rfl) ?_
        repeat (go_big_quiet_step (first | (go_at_call 107; exact rg_same (HNA.out _)) | (go_at_call 108; exact rg_same (HFI.out _ _))))
        refine wpQuiet_nil ?_
        rintro _ ⟨⟨dq, osq⟩, rfl⟩
        go_wp2
        go_roundw
        case rel => exact ⟨k + 1, hlt, by go_num, HS.out, HB.out.trans ((below_regrown _ dq osq).mono HB.out.size)⟩
        case measure => simp [intOf]; omega
    · obtain rfl : m1 = k := by omega
      have HAL1 := Lib.hid (HALL.out HK.out)
      clear HALL HK HNM HR1
      go_wp2
      go_loopw [4] (fun i wr => ∃ k : Nat, k ≤ m2 ∧ i = .int .i64 k ∧ Hid (∀ i, i < k → fbOk n i = true) ∧ Hid (Below w1.heap.size w1 wr)) (fun i _ => m2 - (intOf i).toNat)
      case atStart => exact ⟨0, Nat.zero_le _, rfl, fun i hi => by omega, HB.out⟩
      case round =>
        clear HB p0 p1
        obtain ⟨k, hk, rfl, HK, HB⟩ := hrel
        have p0 := (HB.out.cell blt).trans q0
        have p1 := (HB.out.cell blt).trans q1
        by_cases hlt : k < m2
        · have hltI : (k : Int) < (m2 : Int) := by omega
          obtain ⟨b, off, rfl, hbs, hcs⟩ := HA2.out (by omega)
          have hcw := fun (i : Nat) (hi : i < m2) (r : Nat) (u : Value) (hu : (fibE (n.fs[i]?.getD nilB))[r]? = some u) => (HB.out.cell (p := ⟨b, off + i * 4 + r, none⟩) (Nat.lt_of_lt_of_le hbs HBX.out.size)).trans ((HBX.out.cell hbs).trans (hcs i hi r u hu))
          have HC := Lib.hid hcw
          have HST := Lib.hid (fun h => upto_succ HK.out (k := k) h)
          have HNO := Lib.hid (HFB.out k hlt)
          have HV := Lib.hid (show fbOk n k = (fibOk (fbA n k) n.ns.length && !(decide (0 < k) && fibGt (fbA n (k - 1)) (fbA n k))) from rfl)
          rw [HN1.out] at HV
          have c0 := hcw k hlt 0 _ rfl
          have c1 := hcw k hlt 1 _ rfl
          have c2 := hcw k hlt 2 _ rfl
          have c3 := hcw k hlt 3 _ rfl
          simp only [Nat.add_zero] at c0
          have j0 := rg c0
          have j1 := rg c1
          have j2 := rg c2
          have j3 := rg c3
          have j4 := rg p0
          have j5 := rg p1
          clear hcs hcw c0 c1 c2 c3
          unfold fbA at *
          have HFI := Lib.hid (fun w => l2Fiber_any (n.fs[k]?.getD nilB) m1 w (by omega))
          have HSMK := Lib.hid (fun h => @fibOk_small (n.fs[k]?.getD nilB) m1 h (by omega))
          generalize n.fs[k]?.getD nilB = f at *
          unfold fibV at HFI
          generalize hok : fibOk f m1 = ok at *
          cases ok
          · have HF := Lib.hid (HNO.out (by rw [HV.out]; rfl))
            clear hok HNO HST HV
            go_wp2
            clear p0 p1
            refine wp_region_quiet_below (by kernel_rfl) (by kernel_rfl) ?_
            repeat (go_big_quiet_step (first | (go_at_call 109; exact Calls.regrown_of (HFI.out _))))
            refine wpQuiet_nil ?_
            rintro _ ⟨⟨dq, osq⟩, rfl⟩
            go_wp2
            go_ret
            exact ⟨by rw [HF.out]; rfl, HBX.out.trans ((HB.out.mono HBX.out.size).trans ((below_regrown _ dq osq).mono (Nat.le_trans HBX.out.size HB.out.size)))⟩
          by_cases hk0 : k = 0
          · have hk0b : decide (0 < k) = false := decide_eq_false (by omega)
            have hk0c : decide (0 < (k : Int)) = false := decide_eq_false (by omega)
            have hv := HV.out
            rw [decide_eq_false (show ¬ 0 < k by omega)] at hv
            have HS := Lib.hid (HST.out (by rw [hv]; rfl))
            clear hok hk0 hv HV
            go_wp2
            clear p0 p1
            refine wp_region_quiet_below (by kernel_rfl) (by kernel_rfl) ?_
            repeat (go_big_quiet_step (first | (go_at_call 109; exact Calls.regrown_of (HFI.out _))))
            refine wpQuiet_nil ?_
            rintro _ ⟨⟨dq, osq⟩, rfl⟩
            go_wp2
            go_roundw
            case rel => exact ⟨k + 1, hlt, by go_num, HS.out, HB.out.trans ((below_regrown _ dq osq).mono HB.out.size)⟩
            case measure => simp [intOf]; omega
          · obtain ⟨k', hk'⟩ : ∃ k', k = k' + 1 := ⟨k - 1, by omega⟩
            have hgo := HK.out k' (by omega)
            have o0 := HC.out k' (by omega) 0 _ rfl
            have o1 := HC.out k' (by omega) 1 _ rfl
            have o2 := HC.out k' (by omega) 2 _ rfl
            have o3 := HC.out k' (by omega) 3 _ rfl
            simp only [Nat.add_zero] at o0
            have t0 := rg o0
            have t1 := rg o1
            have t2 := rg o2
            have t3 := rg o3
            have hsg : smallF (n.fs[k']?.getD nilB) := by
              unfold fbOk fbA at hgo
              rw [HN1.out] at hgo
              simp only [Bool.and_eq_true] at hgo
              exact fibOk_small hgo.1 (by omega)
            have HCF := Lib.hid (fun w => l2Before_any (n.fs[k']?.getD nilB) f w hsg (HSMK.out rfl))
            have HGT := Lib.hid (befF_gt (n.fs[k']?.getD nilB) f)
            have hv := HV.out
            rw [show k - 1 = k' by omega, decide_eq_true (show 0 < k by omega)] at hv
            have HV2 := Lib.hid hv
            clear hok hv HV o0 o1 o2 o3 hgo hsg HSMK
            generalize n.fs[k']?.getD nilB = g at *
            have hkp : (0 : Int) < (k : Int) := by omega
            have hkd : decide (0 < (k : Int)) = true := decide_eq_true hkp
            have hke : decide (0 < k) = true := decide_eq_true (by omega)
            have f1w : IntKind.i64.wrap ((k : Int) - 1) = (k' : Int) := by rw [IntWalk.i64_in _ (by omega)]; omega
            have f2w : (k' : Int) < (m2 : Int) := by omega
            clear hk' hk0
            unfold fibV at HCF
            generalize befF g f = cc at *
            cases hgt : fibGt g f
            · have HS := Lib.hid (HST.out (by rw [HV2.out, hgt]; simp))
              have hdc : decide (0 < cc) = false := by rw [HGT.out, hgt]
              clear hgt HNO HST HV2 HGT
              go_wp2
              clear p0 p1
              refine wp_region_quiet_below (by kernel_rfl) (by kernel_rfl) ?_
              repeat (go_big_quiet_step (first | (go_at_call 109; exact Calls.regrown_of (HFI.out _)) | (go_at_call 110; exact Calls.regrown_of (HCF.out _))))
              refine wpQuiet_nil ?_
              rintro _ ⟨⟨dq, osq⟩, rfl⟩
              go_wp2
              go_roundw
              case rel => exact ⟨k + 1, hlt, by go_num, HS.out, HB.out.trans ((below_regrown _ dq osq).mono HB.out.size)⟩
              case measure => simp [intOf]; omega
            · have HF := Lib.hid (HNO.out (by rw [HV2.out, hgt]; simp))
              have hdc : decide (0 < cc) = true := by rw [HGT.out, hgt]
              clear hgt HNO HST HV2 HGT
              go_wp2
              clear p0 p1
              refine wp_region_quiet_below (by kernel_rfl) (by kernel_rfl) ?_
              repeat (go_big_quiet_step (first | (go_at_call 109; exact Calls.regrown_of (HFI.out _)) | (go_at_call 110; exact Calls.regrown_of (HCF.out _))))
              refine wpQuiet_nil ?_
              rintro _ ⟨⟨dq, osq⟩, rfl⟩
              go_wp2
              go_ret
              exact ⟨by rw [HF.out]; rfl, HBX.out.trans ((HB.out.mono HBX.out.size).trans ((below_regrown _ dq osq).mono (Nat.le_trans HBX.out.size HB.out.size)))⟩
        · obtain rfl : m2 = k := by omega
          have HE := Lib.hid (HAL1.out HK.out)
          go_wp2
          go_ret
          exact ⟨by rw [HE.out]; rfl, HBX.out.trans (HB.out.mono HBX.out.size)⟩
end Go.Proofs.YtonpcgdnfclidaaGreatDoor
namespace Go.Proofs.YtonpcgdnfclidaaGreatDoor
open Go.RowKit

theorem kept_o' {X Y : World} {b : Nat} {x : Obj} (h : X.heap[b]? = some x) (hb : Below X.heap.size X Y) : Y.heap[b]? = some x := by
  rw [hb.block b (Array.getElem?_eq_some_iff.1 h).1]; exact h
section
variable {α : Type}
theorem flatV_at {enc : α → List Value} {m : Nat} (hm : ∀ z, (enc z).length = m) : ∀ (zs : List α) (i r : Nat), r < m → (zs.flatMap enc)[i * m + r]? = (zs[i]?).bind fun z => (enc z)[r]?
  | [], i, r, _ => by simp
  | z :: zs, 0, r, h => by
    rw [List.flatMap_cons, List.getElem?_append_left (by rw [hm]; omega)]
    simp
  | z :: zs, i + 1, r, h => by
    rw [List.flatMap_cons, List.getElem?_append_right (by rw [hm, Nat.add_mul]; omega), hm, show (i + 1) * m + r - m = i * m + r by rw [Nat.add_mul]; omega, flatV_at hm zs i r h]
    simp
theorem madeCells_flat {enc : α → List Value} {m : Nat} (hm : ∀ z, (enc z).length = m) (hm0 : 0 < m) (nil : α) (zc : Array Value) (hz : zc.toList = enc nil) (n : Nat) : (madeCells zc (n * m)).toList = (List.replicate n nil).flatMap enc := by
  have hs : zc.size = m := by rw [← Array.length_toList, hz, hm]
  apply List.ext_getElem?
  intro j
  obtain ⟨i, r, hr, rfl⟩ : ∃ i r, r < m ∧ j = i * m + r := ⟨j / m, j % m, Nat.mod_lt _ hm0, by rw [Nat.mul_comm]; exact (Nat.div_add_mod j m).symm⟩
  rw [flatV_at hm _ i r hr]
  have hmod : (i * m + r) % m = r := by rw [Nat.mul_comm, Nat.mul_add_mod]; exact Nat.mod_eq_of_lt hr
  by_cases hi : i < n
  · have hlt : i * m + r < n * m := by
      have := Nat.mul_le_mul_right m (show i + 1 ≤ n by omega)
      rw [Nat.add_mul] at this; omega
    have hre : (List.replicate n nil)[i]? = some nil := by simp [hi]
    rw [hre, Option.bind_some, ← hz, Array.getElem?_toList, Array.getElem?_toList]
    unfold madeCells
    rw [Array.getElem?_map, Array.getElem?_range, if_pos hlt, Option.map_some, hs, hmod]
    simp [hs, hr]
  · have hge : n * m ≤ i * m + r := by
      have := Nat.mul_le_mul_right m (show n ≤ i by omega)
      omega
    have hre : (List.replicate n nil)[i]? = none := by simp; omega
    rw [hre, Option.bind_none, Array.getElem?_toList]
    unfold madeCells
    rw [Array.getElem?_map, Array.getElem?_range, if_neg (by omega)]
    rfl
theorem made_flat {enc : α → List Value} {m : Nat} {w : World} {base n : Nat} {T : TypeId} {v : Value} (hm : ∀ z, (enc z).length = m) (hm0 : 0 < m) (nil : α) {zc : Array Value} (hz : zc.toList = enc nil) (h : w.ownsRow base T m v n (madeCells zc (n * m)).toList) : Ofr w base (flt m enc (List.replicate n nil)) v := by
  rw [madeCells_flat hm hm0 nil zc hz] at h
  exact flt_of_row h
theorem setRow_below {B : Nat} {w : World} {g : Nat} (hB : B ≤ g) (us : List Value) : ∀ (w' : World) (o : Nat), Below B w w' → Below B w (setRow w' g o us) := by
  induction us with
  | nil => intro w' o h; exact h
  | cons u us ih => intro w' o h; exact ih _ _ (h.setCell (p := ⟨g, o, none⟩) hB _)
/-- The first k of n have been filled. -/
def fillG (nil : α) (zs : List α) (n k : Nat) : List α := zs.take k ++ List.replicate (n - k) nil
theorem fillG_zero (nil : α) (zs : List α) (n : Nat) : fillG nil zs n 0 = List.replicate n nil := by simp [fillG]
theorem fillG_all (nil : α) (zs : List α) (n : Nat) (h : zs.length = n) : fillG nil zs n n = zs := by simp [fillG, ← h]
theorem fillG_len (nil : α) (zs : List α) (n k : Nat) (h : zs.length = n) (hk : k ≤ n) : (fillG nil zs n k).length = n := by simp [fillG]; omega
theorem fillG_step (nil : α) (zs : List α) (n k : Nat) (h : zs.length = n) (hk : k < n) : (fillG nil zs n k).set k (zs[k]?.getD nil) = fillG nil zs n (k + 1) := by
  unfold fillG
  have hl : (zs.take k).length = k := by simp; omega
  rw [List.set_append_right _ _ (by omega), hl, Nat.sub_self]
  obtain ⟨m, hm⟩ : ∃ m, n - k = m + 1 := ⟨n - k - 1, by omega⟩
  rw [hm, List.replicate_succ, List.set_cons_zero, show n - (k + 1) = m by omega, List.take_add_one, List.append_assoc, List.getElem?_eq_getElem (show k < zs.length by omega)]
  rfl
end
end Go.Proofs.YtonpcgdnfclidaaGreatDoor
namespace Go.Proofs.YtonpcgdnfclidaaGreatDoor
open Go.RowKit

def putA (cur : Array Value) (o : Nat) : List Value → Array Value
  | [] => cur
  | u :: us => putA (cur.setIfInBounds o u) (o + 1) us
theorem blk_there {w : World} {b : Nat} {cur : Array Value} {T : TypeId} (h : w.heap[b]? = some (.cells cur T (0, 0))) {o n : Nat} (hn : o + n ≤ cur.size) : w.there b o n := fun j hj => by
  refine ⟨?_, frozen_of_row _ _ _ _ _ h⟩
  rw [cell_of_row _ _ _ _ _ _ h, Array.getElem?_eq_getElem (by omega)]; rfl
theorem blk_put {b : Nat} {T : TypeId} (us : List Value) : ∀ {w : World} {cur : Array Value} (o : Nat), w.heap[b]? = some (.cells cur T (0, 0)) → (w.setCells b o us).heap[b]? = some (.cells (putA cur o us) T (0, 0)) := by
  induction us with
  | nil => intro w cur o h; exact h
  | cons u us ih => intro w cur o h; exact ih (o + 1) (heap_setCell_same w b o cur T u h)
theorem blk_put_other {b k : Nat} (hk : k ≠ b) (us : List Value) : ∀ (w : World) (o : Nat), (w.setCells b o us).heap[k]? = w.heap[k]? := by
  induction us with
  | nil => intro w o; rfl
  | cons u us ih => intro w o; exact (ih _ (o + 1)).trans (heap_setCell_other w ⟨b, o, none⟩ k u hk)
theorem blk_put_size {b : Nat} (us : List Value) : ∀ (w : World) (o : Nat), (w.setCells b o us).heap.size = w.heap.size := by
  induction us with
  | nil => intro w o; rfl
  | cons u us ih => intro w o; exact (ih _ (o + 1)).trans (by simp)
theorem below_put {B b : Nat} {u : World} (hB : B ≤ b) (us : List Value) : ∀ {w : World} (o : Nat), Below B u w → Below B u (w.setCells b o us) := by
  induction us with
  | nil => intro w o h; exact h
  | cons x us ih => intro w o h; exact ih (o + 1) (h.setCell (p := ⟨b, o, none⟩) hB _)
/-- What a store into block b leaves. -/
structure Stx (w w' : World) (b : Nat) (new : Array Value) (T : TypeId) : Prop where
  blk : w'.heap[b]? = some (.cells new T (0, 0))
  other : ∀ k, k ≠ b → w'.heap[k]? = w.heap[k]?
  size : w'.heap.size = w.heap.size
  below : ∀ (B : Nat) (u : World), B ≤ b → Below B u w → Below B u w'
theorem Stx.keep {w w' : World} {b : Nat} {new : Array Value} {T : TypeId} (h : Stx w w' b new T) {k : Nat} {x : Obj} (hk : k ≠ b) (hx : w.heap[k]? = some x) : w'.heap[k]? = some x := (h.other k hk).trans hx
theorem Stx.ofr {w w' : World} {b base : Nat} {new : Array Value} {T : TypeId} {d : Dt} {v : Value} (h : Stx w w' b new T) (ho : Ofr w base d v) (hb : b < base) : Ofr w' base d v := by
  obtain ⟨fp, h1, h2, h3⟩ := ho
  exact ⟨fp, h1.kept fun k hk => h.other k (by have := h3 k hk; omega), h2, h3⟩
theorem Stx.kept {w w' : World} {b : Nat} {new : Array Value} {T : TypeId} (h : Stx w w' b new T) (p : Addr) (hp : p.block ≠ b) : w'.cell? p = w.cell? p := by
  unfold World.cell?
  rw [h.other _ hp]
theorem Stx.odt {w w' : World} {b : Nat} {new : Array Value} {T : TypeId} {d : Dt} {v : Value} {fp : List Nat} (h : Stx w w' b new T) (ho : Odt w d v fp) (hb : b ∉ fp) : Odt w' d v fp :=
  ho.kept fun k hk => h.other k (fun e => hb (by rw [← e]; exact hk))
theorem stx_cell {w : World} {b j : Nat} {cur : Array Value} {T : TypeId} (hg : w.heap[b]? = some (.cells cur T (0, 0))) (u : Value) : Stx w (w.setCell ⟨b, j, none⟩ u) b (cur.setIfInBounds j u) T :=
  ⟨heap_setCell_same w b j cur T u hg, fun k hk => heap_setCell_other w ⟨b, j, none⟩ k u hk, by simp, fun B u hB hb => hb.setCell (p := ⟨b, j, none⟩) hB _⟩
theorem wpList_stx {P : Program} {ops : Array Oper} {rest : List Oper} {op : Oper} {a : Act} {w : World} {Q : Exit → Act → World → Prop} (hgd : op.guard = none) (ty : TypeId) (x y : Operand) (ho : op.op = .store ty x y)
    (b o : Nat) (us : List Value) (hx : a.eval x = .pointer (some ⟨b, o, none⟩)) (hy : a.eval y = .agg us.toArray) {cur : Array Value} {T : TypeId} (hg : w.heap[b]? = some (.cells cur T (0, 0))) (hn : o + us.length ≤ cur.size)
    (hi : (P.info? ty).map (·.size) = some us.length) (h1 : ∀ v ∈ us, v.oneCell' = true)
    (h : ∀ w', Stx w w' b (putA cur o us) T → wpList P ops Q rest (a.put op.dst undef) w') : wpList P ops Q (op :: rest) a w := by
  refine wpList_store_mid hgd ty x y ho b o us.toArray hx hy (blk_there hg (by simpa using hn)) (by simpa using hi) (all_oneCell_toArray h1) ?_
  exact h _ ⟨blk_put us o hg, fun k hk => blk_put_other hk us w o, blk_put_size us w o, fun B u hB hb => below_put hB us o hb⟩
/-- A store of one cell into a block known whole. -/
theorem wpList_st1 {P : Program} {ops : Array Oper} {rest : List Oper} {op : Oper} {a : Act} {w : World} {Q : Exit → Act → World → Prop} (hgd : op.guard = none) (ty : TypeId) (x y : Operand) (ho : op.op = .store ty x y)
    (b o : Nat) (u : Value) (hx : a.eval x = .pointer (some ⟨b, o, none⟩)) (hy : a.eval y = u) {cur : Array Value} {T : TypeId} (hg : w.heap[b]? = some (.cells cur T (0, 0))) (hn : o < cur.size)
    (hi : (P.info? ty).map (·.size) = some 1) (h1 : u.cells = #[u] ∧ u.oneCell' = true)
    (h : ∀ w', Stx w w' b (cur.setIfInBounds o u) T → wpList P ops Q rest (a.put op.dst undef) w') : wpList P ops Q (op :: rest) a w := by
  refine wpList_plain hgd fun _ hK => ?_
  have hc := blk_there hg (o := o) (n := 1) (by omega)
  have hr := run_storeCells_cells (P := P) b o [u] 0 w (fun j hj => by simpa using (hc j (by simpa using hj)).1) (fun j hj => by simpa using (hc j (by simpa using hj)).2) (fun v hv => by simp at hv; rw [hv]; exact h1.2)
  unfold Oper.wp execOp
  cases hq : P.info? ty with
  | none => simp [hq] at hi
  | some i =>
    have hs : i.size = 1 := by simpa [hq] using hi
    have hst : (storeVar ty ⟨b, o, none⟩ u).run P w = .ok () (w.setCell ⟨b, o, none⟩ u) := by
      simp only [Nat.add_zero] at hr
      rw [show w.setCell ⟨b, o, none⟩ u = w.setCells b o [u] from rfl]
      simp [storeVar, sizeOf, typeInfo, hq, h1.1, hs]
      simpa using hr
    simp only [ho, hx, hy, Instr.storeAt, Instr.sureAddr, Sem.run_bind, Sem.run_pure, Result.andThen_ok, hst]
    exact hK _ _ (h _ (stx_cell hg u))
/-- A struct read out of a block known whole. -/
theorem wpList_ldx {P : Program} {ops : Array Oper} {rest : List Oper} {op : Oper} {a : Act} {w : World} {Q : Exit → Act → World → Prop} (hgd : op.guard = none) (ty : TypeId) (x : Operand) (ho : op.op = .load ty x)
    (b o : Nat) (hx : a.eval x = .pointer (some ⟨b, o, none⟩)) (cs : List Value) {cur : Array Value} {T : TypeId} (hg : w.heap[b]? = some (.cells cur T (0, 0))) (hc : ((cur.toList.drop o).take cs.length) = cs) (d : TypeDesc)
    (hu : P.underlying ty = some d) (hd : d.isRow = true) (hi : (P.info? ty).map (·.size) = some cs.length)
    (h : wpList P ops Q rest (a.put op.dst (.agg cs.toArray)) w) : wpList P ops Q (op :: rest) a w :=
  wpList_load_mid hgd ty x ho b o hx cs d (fun j v hj => row_cell hg hc hj rfl) hu hd hi h
end Go.Proofs.YtonpcgdnfclidaaGreatDoor
namespace Go.Proofs.YtonpcgdnfclidaaGreatDoor
open Go.RowKit

theorem inB_lo {n lo hi : Int} (h : n < lo) : inB n lo hi = false := by simp [inB]; omega
theorem inB_hi {n lo hi : Int} (h : hi < n) : inB n lo hi = false := by simp [inB]; omega
/-- A byte that a record's text may hold. -/
def plainB (c : UInt8) : Bool := inB (c.toNat : Int) 32 126 && !((c.toNat : Int) == 35)
def plainL (l : List UInt8) : Bool := l.all plainB
/-- A byte stands in a text. -/
def standsL (l : List UInt8) (b : UInt8) : Bool := l.any fun c => (c.toNat : Int) == (b.toNat : Int)
theorem take_snoc (s : ByteArray) (k : Nat) (h : k < s.size) : s.data.toList.take (k + 1) = s.data.toList.take k ++ [s[k]] := by
  rw [List.take_succ_eq_append_getElem (by simpa using h)]; rfl
theorem take_all (s : ByteArray) : s.data.toList.take s.size = s.data.toList := List.take_of_length_le (by simp)
theorem all_step {s : ByteArray} {p : UInt8 → Bool} {k : Nat} (hk : k < s.size) (h : (s.data.toList.take k).all p = true) (e : p s[k] = true) : (s.data.toList.take (k + 1)).all p = true := by
  rw [take_snoc s k hk, List.all_append, h]; simp [e]
theorem all_no {s : ByteArray} {p : UInt8 → Bool} {k : Nat} (hk : k < s.size) (e : p s[k] = false) : s.data.toList.all p = false := by
  rw [List.all_eq_false]
  exact ⟨s[k], by rw [List.mem_iff_getElem]; exact ⟨k, by simpa using hk, rfl⟩, by simp [e]⟩
theorem any_step {s : ByteArray} {p : UInt8 → Bool} {k : Nat} (hk : k < s.size) (h : (s.data.toList.take k).any p = false) (e : p s[k] = false) : (s.data.toList.take (k + 1)).any p = false := by
  rw [take_snoc s k hk, List.any_append, h]; simp [e]
theorem any_yes {s : ByteArray} {p : UInt8 → Bool} {k : Nat} (hk : k < s.size) (e : p s[k] = true) : s.data.toList.any p = true := by
  rw [List.any_eq_true]
  exact ⟨s[k], by rw [List.mem_iff_getElem]; exact ⟨k, by simpa using hk, rfl⟩, e⟩
/-- A record: a command and a reply. -/
def recOk (c r : ByteArray) : Bool := inB (c.size : Int) 1 160 && inB (r.size : Int) 0 200 && plainL c.data.toList && plainL r.data.toList && !(standsL c.data.toList 64)
end Go.Proofs.YtonpcgdnfclidaaGreatDoor
namespace Go.Proofs.YtonpcgdnfclidaaGreatDoor
open Go.RowKit

abbrev mk (l : List UInt8) : ByteArray := ⟨l.toArray⟩
theorem ba_ext {a b : ByteArray} (h : a.data.toList = b.data.toList) : a = b := by
  cases a; cases b; simp only [ByteArray.mk.injEq]; exact Array.toList_inj.1 h
theorem data_mk (l : List UInt8) : (mk l).data.toList = l := by simp
theorem data_append (a b : ByteArray) : (a ++ b).data.toList = a.data.toList ++ b.data.toList := by simp [ByteArray.data_append]
theorem mk_append (a b : List UInt8) : mk a ++ mk b = mk (a ++ b) := ba_ext (by rw [data_append])
theorem str_append (a : ByteArray) (b : List UInt8) : a ++ mk b = mk (a.data.toList ++ b) := ba_ext (by rw [data_append])
theorem mk_size (l : List UInt8) : (mk l).size = l.length := List.size_toArray
theorem size_data (s : ByteArray) : s.size = s.data.toList.length := by simp

/-- The numeral's digits. -/
abbrev digs (n : Nat) : List UInt8 := Go.Lib.decDigits n
theorem digs_small {n : Nat} (h : n < 10) : digs n = [UInt8.ofNat (48 + n)] := by unfold digs; rw [Go.Lib.decDigits, dif_pos h]
theorem digs_big {n : Nat} (h : ¬ n < 10) : digs n = digs (n / 10) ++ [UInt8.ofNat (48 + n % 10)] := by unfold digs; rw [Go.Lib.decDigits, dif_neg h]
theorem digs_len : ∀ (d n : Nat), n < 10 ^ (d + 1) → (digs n).length ≤ d + 1
  | 0, n, h => by rw [digs_small (by simpa using h)]; simp
  | d + 1, n, h => by
    by_cases h1 : n < 10
    · rw [digs_small h1]; simp
    · rw [digs_big h1, List.length_append]
      have := digs_len d (n / 10) (by rw [Nat.pow_succ] at h; omega)
      simp; omega
theorem digs_byte (n : Nat) : ∀ b ∈ digs n, 48 ≤ b.toNat ∧ b.toNat ≤ 57 := by
  induction n using Nat.strongRecOn with
  | _ n ih =>
    intro b hb
    by_cases h1 : n < 10
    · rw [digs_small h1] at hb
      simp only [List.mem_singleton] at hb
      subst hb
      simp [UInt8.toNat_ofNat']; omega
    · rw [digs_big h1] at hb
      rcases List.mem_append.1 hb with h | h
      · exact ih (n / 10) (by omega) b h
      · simp only [List.mem_singleton] at h
        subst h
        simp [UInt8.toNat_ofNat']; omega

/-- The checksum. -/
def sumStep (h : Int) (b : UInt8) : Int := (41 * h + (b.toNat : Int) + 1) % 999979
def sumL (l : List UInt8) : Int := l.foldl sumStep 7
theorem sumL_bd (l : List UInt8) : 0 ≤ sumL l ∧ sumL l < 999979 := by
  unfold sumL
  suffices H : ∀ (l : List UInt8) (h : Int), 0 ≤ h ∧ h < 999979 → 0 ≤ l.foldl sumStep h ∧ l.foldl sumStep h < 999979 from H l 7 (by omega)
  intro l
  induction l with
  | nil => intro h hh; exact hh
  | cons b l ih => intro h _; exact ih _ (by unfold sumStep; omega)
theorem sumL_snoc (l : List UInt8) (b : UInt8) : sumL (l ++ [b]) = sumStep (sumL l) b := by simp [sumL]
def sealL (l : List UInt8) : List UInt8 := l ++ 35 :: digs (sumL l).toNat
theorem sealL_len (l : List UInt8) : (sealL l).length ≤ l.length + 7 := by
  have hb := sumL_bd l
  have := digs_len 5 (sumL l).toNat (by omega)
  simp [sealL]; omega
/-- A record's text ahead of its checksum; its line. -/
def bodyL (k : Nat) (c r : List UInt8) : List UInt8 := digs k ++ 32 :: (c ++ 64 :: r)
def lineL (k : Nat) (c r : List UInt8) : List UInt8 := sealL (bodyL k c r) ++ [10]
theorem recOk_parts {c r : ByteArray} (h : recOk c r = true) : 1 ≤ c.size ∧ c.size ≤ 160 ∧ r.size ≤ 200 ∧ plainL c.data.toList = true ∧ plainL r.data.toList = true ∧ standsL c.data.toList 64 = false := by
  simp only [recOk, Bool.and_eq_true, Bool.not_eq_true'] at h
  obtain ⟨⟨⟨⟨h1, h2⟩, h3⟩, h4⟩, h5⟩ := h
  have a := inB_true h1
  have b := inB_true h2
  exact ⟨by omega, by omega, by omega, h3, h4, h5⟩
theorem stands_append (a b : List UInt8) (x : UInt8) : standsL (a ++ b) x = (standsL a x || standsL b x) := by simp [standsL]
theorem stands_cons (a : UInt8) (b : List UInt8) (x : UInt8) : standsL (a :: b) x = (((a.toNat : Int) == (x.toNat : Int)) || standsL b x) := rfl
theorem digs_stands (n : Nat) {x : UInt8} (hx : x.toNat < 48 ∨ 57 < x.toNat) : standsL (digs n) x = false := by
  unfold standsL
  rw [List.any_eq_false]
  intro b hb
  have := digs_byte n b hb
  simp only [beq_iff_eq]
  omega
theorem plain_stands {l : List UInt8} (h : plainL l = true) : standsL l 35 = false := by
  unfold standsL
  rw [List.any_eq_false]
  intro b hb
  have := List.all_eq_true.1 h b hb
  simp only [plainB, Bool.and_eq_true, Bool.not_eq_true', beq_eq_false_iff_ne] at this
  simp only [beq_iff_eq]
  exact this.2
theorem body_hash {k : Nat} {c r : ByteArray} (h : recOk c r = true) : standsL (bodyL k c.data.toList r.data.toList) 35 = false := by
  obtain ⟨_, _, _, h4, h5, _⟩ := recOk_parts h
  unfold bodyL
  rw [stands_append, digs_stands k (by decide), stands_cons, stands_append, plain_stands h4, stands_cons, plain_stands h5]
  decide
end Go.Proofs.YtonpcgdnfclidaaGreatDoor
namespace Go.Proofs.YtonpcgdnfclidaaGreatDoor
open Go.RowKit Go.Sort
set_option maxRecDepth 100000

/-! ### Sizes, copies, comparisons, marks -/
def totS (ns : List ByteArray) : Nat := (ns.map (·.size)).sum
theorem totS_step {ns : List ByteArray} {k : Nat} (h : k < ns.length) : totS (ns.take (k + 1)) = totS (ns.take k) + (ns[k]?.getD nilS).size := by
  rw [totS, totS, List.take_add_one, List.map_append, List.sum_append, List.getElem?_eq_getElem h]; simp
theorem totS_le (ns : List ByteArray) (k : Nat) : totS (ns.take k) ≤ totS ns := by
  rw [totS, totS]
  conv => rhs; rw [← List.take_append_drop k ns, List.map_append, List.sum_append]
  omega
theorem totS_mem (ns : List ByteArray) (k : Nat) : (ns[k]?.getD nilS).size ≤ totS ns := by
  by_cases h : k < ns.length
  · have h1 := totS_step h
    have h2 := totS_le ns (k + 1)
    omega
  · rw [List.getElem?_eq_none (by omega)]; exact Nat.zero_le _
set_option maxHeartbeats 1600000 in
theorem szStringS_any (v : Value) (ns : List ByteArray) (l : Int) (w : World) (h : Rwt w (flt 1 strE ns) v) (h0 : 0 ≤ l) (h1 : l ≤ 1048576) (hs : ∀ i : Nat, (ns[i]?.getD nilS).size ≤ maxLen) :
    Calls Tryz.prog 35 #[v, .int .i64 l] w fun e w' => e = .returned (.int .i64 (if l < (ns.length : Int) + totS ns then -1 else l - ((ns.length : Int) + totS ns))) ∧ w = w' := by
  obtain ⟨a, n, cap, rfl, HN, hn, ha⟩ := flt_opnw (m := 1) (enc := strE) (fun _ => rfl) (by omega) nilS h
  have HT := Lib.hid (fun k (h : k < ns.length) => @totS_step ns k h)
  have hal : totS (ns.take ns.length) = totS ns := by rw [List.take_length]
  have hle := totS_le ns
  rw [HN.out] at hal ⊢
  have HAL := Lib.hid hal
  have HLE := Lib.hid hle
  have HA := Lib.hid ha
  have HS := Lib.hid hs
  obtain ⟨T, hT⟩ : ∃ T, T = totS ns := ⟨_, rfl⟩
  rw [← hT] at hal hle ⊢
  have HTT := Lib.hid hT
  obtain ⟨r, hr⟩ : ∃ r : Int, r = (if l < (n : Int) + T then -1 else l - ((n : Int) + T)) := ⟨_, rfl⟩
  rw [← hr]
  have HRL := Lib.hid (show l < (n : Int) + T → r = -1 from fun h => by rw [hr, if_pos h])
  have HRG := Lib.hid (show ¬ l < (n : Int) + T → r = l - ((n : Int) + T) from fun h => by rw [hr, if_neg h])
  clear hal h ha hT hr hle hs
  by_cases hc : l - n < 0
  · have hb : decide (l - n < 0) = true := by simpa using hc
    have HE := Lib.hid (HRL.out (by omega))
    go_enter Tryz.func35, Tryz.ntmps35
    go_wp2
    go_ret
    exact ⟨by rw [HE.out]; rfl, rfl⟩
  have hb : decide (l - n < 0) = false := by simpa using hc
  go_enter Tryz.func35, Tryz.ntmps35
  go_wp2
  clear hb
  go_loop [1, 5] (fun x i => ∃ (k : Nat) (q : Int), k ≤ n ∧ i = .int .i64 k ∧ x = .int .i64 q ∧ 0 ≤ q ∧ q ≤ 1048576 ∧ Hid ((n : Int) + totS (ns.take k) + q = l)) (fun _ i => n - (intOf i).toNat)
  case atStart => exact ⟨0, l - n, by omega, rfl, rfl, by omega, by omega, by show (n : Int) + ((totS (ns.take 0) : Nat) : Int) + (l - n) = l; simp [totS]; omega⟩
  case round =>
    obtain ⟨k, q, hk, rfl, rfl, h2, h3, HR⟩ := hrel
    by_cases hlt : k < n
    · have hltI : (k : Int) < (n : Int) := by omega
      obtain ⟨b, off, rfl, hbs, hcs⟩ := HA.out (by omega)
      have hc0 := hcs k hlt 0 _ rfl
      rw [Nat.mul_one, Nat.add_zero] at hc0
      have HTK := Lib.hid (HT.out k (by rw [HN.out]; exact hlt))
      have HLK := Lib.hid (HLE.out (k + 1))
      have hsk := HS.out k
      clear hcs
      unfold maxLen at hsk
      generalize ns[k]?.getD nilS = s at *
      by_cases hx : q < (s.size : Int)
      · have hb : decide (q - (s.size : Int) < 0) = true := decide_eq_true (by omega)
        have HE := Lib.hid (HRL.out (by have := HR.out; have := HTK.out; have := HLK.out; have := HTT.out; omega))
        go_wp2
        go_ret
        exact ⟨by rw [HE.out]; rfl, rfl⟩
      · have hb : decide (q - (s.size : Int) < 0) = false := decide_eq_false (by omega)
        go_wp2
        go_round
        case rel => exact ⟨k + 1, q - s.size, by omega, by go_num, rfl, by omega, by omega, by show (n : Int) + ((totS (ns.take (k + 1)) : Nat) : Int) + (q - s.size) = l; have := HR.out; rw [HTK.out]; omega⟩
        case measure => simp [intOf]; omega
    · obtain rfl : k = n := by omega
      have HE := Lib.hid (HRG.out (by have := HR.out; have := HAL.out; have := HTT.out; omega))
      have HE2 := Lib.hid (show q = l - ((k : Int) + T) by have := HR.out; have := HAL.out; have := HTT.out; omega)
      go_wp2
      go_ret
      exact ⟨by rw [HE.out, ← HE2.out]; rfl, rfl⟩
theorem Tryz.infoStrS : (Tryz.prog.info? 9).map (fun i => (i.zero, i.size, i.bytes)) = some (some (.string ⟨#[]⟩), 1, 16) := by kernel_rfl
set_option maxHeartbeats 1600000 in
theorem toStringS_any (v : Value) (zs : List ByteArray) (w : World) (h : Rwt w (flt 1 strE zs) v) (hr : zs.length ≤ 1048576) :
    Calls Tryz.prog 38 #[v] w fun e w' => ∃ v', e = .returned v' ∧ Ofr w' w.heap.size (flt 1 strE zs) v' ∧ Below w.heap.size w w' := by
  obtain ⟨i0, hi, hz0, hz1, hz2⟩ := info_parts Tryz.infoStrS
  obtain ⟨a, n, cap, rfl, HN, hn, ha⟩ := flt_opnw (m := 1) (enc := strE) (fun _ => rfl) (by omega) nilS h
  have HA := Lib.hid ha
  have HL := Lib.hid (fun k hk => fillG_len nilS zs n k HN.out hk)
  have HST := Lib.hid (fun k hk => fillG_step nilS zs n k HN.out hk)
  have HAL := Lib.hid (fillG_all nilS zs n HN.out)
  rw [HN.out] at hr
  clear ha h
  go_enter Tryz.func38, Tryz.ntmps38
  go_wp2_with (refine wpList_make_full _ rfl _ _ 22 rfl w.heap.size 9 i0 (.string ⟨#[]⟩) 1 Tryz.underlying22 hi hz0 hz1 _ _ _ _ n rfl rfl rfl rfl (by rw [hz2]; omega) (by unfold maxLen; omega) (Nat.le_refl _) ?_; intro w1 hown1 hgrow1)
  have HO1 := Lib.hid (show Ofr w1 w.heap.size (flt 1 strE (fillG nilS zs n 0)) (.slice (some ⟨w.heap.size, 0, none⟩) n n) from by
    rw [fillG_zero]
    exact made_flat (m := 1) (enc := strE) (fun _ => rfl) (by omega) nilS rfl hown1)
  have HB1 := Lib.hid (show Below w.heap.size w w1 from (Below.refl _ _).grown hgrow1 (Nat.le_refl _) (by simp))
  clear hown1 hgrow1
  go_loopw [4] (fun i wr => ∃ k : Nat, k ≤ n ∧ i = .int .i64 k ∧ Hid (Ofr wr w.heap.size (flt 1 strE (fillG nilS zs n k)) (.slice (some ⟨w.heap.size, 0, none⟩) n n)) ∧ Hid (Below w.heap.size w wr)) (fun i _ => n - (intOf i).toNat)
  case atStart => exact ⟨0, by omega, rfl, HO1.out, HB1.out⟩
  case round =>
    obtain ⟨k, hk, rfl, HO, HB⟩ := hrel
    by_cases hlt : k < n
    · obtain ⟨b, off, rfl, hbs, hcs⟩ := HA.out (by omega)
      have hltI : (k : Int) < (n : Int) := by omega
      have d0 := (HB.out.cell (p := ⟨b, off + k * 1 + 0, none⟩) hbs).trans (hcs k hlt 0 _ rfl)
      simp only [Nat.add_zero, Nat.mul_one] at d0
      have HSK := Lib.hid (HST.out k hlt)
      have HLK := Lib.hid (HL.out k (by omega))
      clear hcs HO1 HB1
      generalize zs[k]?.getD nilS = z at *
      obtain ⟨g, o, cp, ev, hg1, hg2, hcc, hfz, hof⟩ := flt_put (enc := strE) (m := 1) (fun _ => rfl) (by omega) HO.out HB.out.size (k := k) (by rw [HLK.out]; exact hlt) z
      simp only [Value.slice.injEq, Option.some.injEq, Addr.mk.injEq, and_true] at ev
      obtain ⟨⟨rfl, rfl⟩, -, rfl⟩ := ev
      rw [HSK.out] at hof
      simp only [Nat.zero_add, Nat.mul_one] at hcc hof
      obtain ⟨q0, c0⟩ := hcc 0 (by omega)
      simp only [Nat.add_zero] at c0
      have f0 := hfz k
      have HB2 := Lib.hid (setRow_below (Nat.le_refl w.heap.size) (strE z) wr k HB.out)
      simp only [setRow, strE] at hof HB2
      have HOF := Lib.hid hof
      clear hof hfz hcc
      go_wp2
      go_roundw
      case rel => exact ⟨k + 1, by omega, by go_num, HOF.out, HB2.out⟩
      case measure => simp [intOf]; omega
    · obtain rfl : k = n := by omega
      have hof := HO.out
      rw [HAL.out] at hof
      have HOF := Lib.hid hof
      go_wp2
      go_ret
      exact ⟨_, rfl, HOF.out, HB.out⟩
set_option maxHeartbeats 1600000 in
theorem eqStringS_same (va vb : Value) (zs : List ByteArray) (w : World) (ha : Rdt w (flt 1 strE zs) va) (hb : Rdt w (flt 1 strE zs) vb) :
    Calls Tryz.prog 42 #[va, vb] w fun e w' => e = .returned (.bool true) ∧ Below w.heap.size w w' := by
  obtain ⟨a, n, ca, rfl, HN, _, hn, HA⟩ := flt_opn (m := 1) (enc := strE) (fun _ => rfl) (by omega) nilS ha
  obtain ⟨b, n2, cb, rfl, HM, _, _, HBB⟩ := flt_opn (m := 1) (enc := strE) (fun _ => rfl) (by omega) nilS hb
  obtain rfl : n = n2 := HN.out.symm.trans HM.out
  have HA := Lib.hid HA
  have HBB := Lib.hid HBB
  clear HM ha hb
  have hne : ((n : Int) != (n : Int)) = false := by simp
  go_enter Tryz.func42, Tryz.ntmps42
  go_wp2
  go_loopw [5] (fun i wr => ∃ k : Nat, k ≤ n ∧ i = .int .i64 k ∧ Hid (Below w.heap.size w wr)) (fun i _ => n - (intOf i).toNat)
  case atStart => exact ⟨0, by omega, rfl, Below.refl _ _⟩
  case round =>
    obtain ⟨k, hk, rfl, HB⟩ := hrel
    by_cases hlt : k < n
    · obtain ⟨g1, o1, rfl, hg1, hc1⟩ := HA.out (by omega)
      obtain ⟨g2, o2, rfl, hg2, hc2⟩ := HBB.out (by omega)
      have hltI : (k : Int) < (n : Int) := by omega
      have x0 := rg ((HB.out.cell (p := ⟨g1, o1 + k * 1 + 0, none⟩) hg1).trans (hc1 k hlt 0 _ rfl))
      have y0 := rg ((HB.out.cell (p := ⟨g2, o2 + k * 1 + 0, none⟩) hg2).trans (hc2 k hlt 0 _ rfl))
      simp only [Nat.add_zero, Nat.mul_one] at x0 y0
      generalize zs[k]?.getD nilS = z at *
      clear hc1 hc2
      have hzz : (z.toList == z.toList) = true := by simp
      go_wp2
      refine wp_region_quiet_below (by kernel_rfl) (by kernel_rfl) ?_
      repeat (go_big_quiet_step (fail))
      refine wpQuiet_nil ?_
      rintro _ ⟨⟨dq, osq⟩, rfl⟩
      go_wp2
      go_roundw
      case rel => exact ⟨k + 1, by omega, by go_num, HB.out.trans ((below_regrown _ dq osq).mono HB.out.size)⟩
      case measure => simp [intOf]; omega
    · obtain rfl : k = n := by omega
      go_wp2
      go_ret
      exact ⟨rfl, HB.out⟩
end Go.Proofs.YtonpcgdnfclidaaGreatDoor
