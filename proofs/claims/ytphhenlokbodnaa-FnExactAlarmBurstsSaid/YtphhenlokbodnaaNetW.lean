/- Walks: the program's IsValidNetwork. -/
import Derived.Test.YtphhenlokbodnaaNetP
namespace Go.Proofs.Ytphhenlokbodnaa
open Go.RowKit Go.Sort
set_option maxRecDepth 100000

theorem fib_cases (f : Fib) (m : Nat) :
    (decide (f.a < 0) = true ∧ fibOk f m = false) ∨
    (decide (f.a < 0) = false ∧ decide (f.b ≤ f.a) = true ∧ fibOk f m = false) ∨
    (decide (f.a < 0) = false ∧ decide (f.b ≤ f.a) = false ∧ decide ((m : Int) ≤ f.b) = true ∧ fibOk f m = false) ∨
    (decide (f.a < 0) = false ∧ decide (f.b ≤ f.a) = false ∧ decide ((m : Int) ≤ f.b) = false ∧ inB f.l 1 5000 = false ∧ fibOk f m = false) ∨
    (decide (f.a < 0) = false ∧ decide (f.b ≤ f.a) = false ∧ decide ((m : Int) ≤ f.b) = false ∧ inB f.l 1 5000 = true ∧ inB f.r 0 9 = false ∧ fibOk f m = false) ∨
    (decide (f.a < 0) = false ∧ decide (f.b ≤ f.a) = false ∧ decide ((m : Int) ≤ f.b) = false ∧ inB f.l 1 5000 = true ∧ inB f.r 0 9 = true ∧ fibOk f m = true) := by
  have e : fibOk f m = (inB f.a 0 ((m : Int) - 1) && inB f.b (f.a + 1) ((m : Int) - 1) && inB f.l 1 5000 && inB f.r 0 9) := rfl
  by_cases h1 : f.a < 0
  · left; refine ⟨decide_eq_true h1, ?_⟩
    rw [e, show inB f.a 0 ((m : Int) - 1) = false by unfold inB; simp; omega]; simp
  right
  by_cases h2 : f.b ≤ f.a
  · left; refine ⟨decide_eq_false h1, decide_eq_true h2, ?_⟩
    rw [e, show inB f.b (f.a + 1) ((m : Int) - 1) = false by unfold inB; simp; omega]; simp
  right
  by_cases h3 : (m : Int) ≤ f.b
  · left; refine ⟨decide_eq_false h1, decide_eq_false h2, decide_eq_true h3, ?_⟩
    rw [e, show inB f.b (f.a + 1) ((m : Int) - 1) = false by unfold inB; simp; omega]; simp
  right
  have e2 : fibOk f m = (inB f.l 1 5000 && inB f.r 0 9) := by
    rw [e, show inB f.a 0 ((m : Int) - 1) = true by unfold inB; simp; omega, show inB f.b (f.a + 1) ((m : Int) - 1) = true by unfold inB; simp; omega]; simp
  rw [e2]
  cases inB f.l 1 5000
  · left; exact ⟨decide_eq_false h1, decide_eq_false h2, decide_eq_false h3, rfl, rfl⟩
  right
  cases inB f.r 0 9
  · left; exact ⟨decide_eq_false h1, decide_eq_false h2, decide_eq_false h3, rfl, rfl, rfl⟩
  · right; exact ⟨decide_eq_false h1, decide_eq_false h2, decide_eq_false h3, rfl, rfl, rfl⟩
set_option maxHeartbeats 6400000 in
theorem IsValidNetwork_any (v : Value) (n : Net) (w : World) (h : NetR w v n) :
    Calls Try.prog 40 #[v] w fun e w' => e = .returned (.bool (netOk n)) ∧ Below w.heap.size w w' := by
  obtain ⟨u1, u2, rfl, r1, r2, hsm⟩ := h
  obtain ⟨a1, m1, c1, rfl, HN1, hc1, hm1, ha1⟩ := flt_opn (m := 1) (enc := strE) (fun _ => rfl) (by omega) nilS r1
  obtain ⟨a2, m2, c2, rfl, HN2, hc2, hm2, ha2⟩ := flt_opn (m := 4) (enc := fibE) (fun _ => rfl) (by omega) nilB r2
  have HNM := Lib.hid (fun i hi h => @netOk_nm n i hi h)
  have HFB := Lib.hid (fun i hi h => @netOk_fb n i hi h)
  have HALL := Lib.hid (@netOk_all n)
  rw [HN1.out, HN2.out] at HALL
  rw [HN1.out] at HNM
  rw [HN2.out] at HFB
  generalize netOk n = q at *
  obtain ⟨bx, bc, blt, -⟩ := box_facts w #[.slice a1 m1 c1, .slice a2 m2 c2] 32
  have q0 := bc 0 _ rfl
  have q1 := bc 1 _ rfl
  have HA1 := Lib.hid ha1
  have HA2 := Lib.hid ha2
  have HR1 := Lib.hid (r1.behind bx)
  have HBX := Lib.hid bx
  have HSM := Lib.hid hsm
  clear bc ha1 ha2 r1 r2 bx hsm
  go_enter Try.func40, Try.ntmps40
  go_wp2
  generalize w.alloc (.cells #[.slice a1 m1 c1, .slice a2 m2 c2] 32) = w1 at *
  go_loopw [3, 4, 10] (fun _ _ i wr => ∃ k : Nat, k ≤ m1 ∧ i = .int .i64 k ∧ Hid (∀ i, i < k → nmOk n i = true) ∧ Hid (Below w1.heap.size w1 wr)) (fun _ _ i _ => m1 - (intOf i).toNat)
  case atStart => exact ⟨0, Nat.zero_le _, rfl, fun i hi => by omega, Below.refl _ _⟩
  case round =>
    obtain ⟨k, hk, rfl, HK, HB⟩ := hrel
    have p0 := (HB.out.cell blt).trans q0
    have p1 := (HB.out.cell blt).trans q1
    by_cases hlt : k < m1
    · have hltI : (k : Int) < (m1 : Int) := by omega
      have hkx : k < n.ns.length := by rw [HN1.out]; exact hlt
      obtain ⟨b, off, rfl, hbs, hcs⟩ := HA1.out (by omega)
      have hc0 := hcs k hlt 0 _ rfl
      rw [Nat.mul_one, Nat.add_zero] at hc0
      have hcw := (HB.out.cell (p := ⟨b, off + k, none⟩) (Nat.lt_of_lt_of_le hbs HBX.out.size)).trans ((HBX.out.cell hbs).trans hc0)
      have HNA := Lib.hid (fun w => isName_any (nmA n k) w (Nat.le_trans (HSM.out k) (by decide)))
      have HCO := Lib.hid (fun N => containsS_any _ (n.ns.take k) (nmA n k) (wr.drewN N) ((flt_take (m := 1) (enc := strE) (fun _ => rfl) (by omega) (HR1.out.behind HB.out) hk).behind ((Dr.refl _).drewN N |>.below (Below.refl _ _))))
      have HV := Lib.hid (show nmOk n k = (nameOk (nmA n k) && decide (plc n.ns (nmA n k) = (k : Int))) from rfl)
      have HPL := Lib.hid (plc_pre hkx)
      have HST := Lib.hid (fun h => upto_succ HK.out (k := k) h)
      have HNO := Lib.hid (HNM.out k hlt)
      clear hcs hc0 hkx
      unfold nmA at *
      generalize hx : n.ns[k]?.getD nilS = x at *
      have hkI : (0 : Int) ≤ (k : Int) := by omega
      have hkI2 : (k : Int) ≤ (c1 : Int) := by omega
      clear hx
      cases hN : nameOk x
      · have HF := Lib.hid (HNO.out (by rw [HV.out, hN]; rfl))
        clear HNO HST HPL HV HCO
        rw [hN] at HNA
        clear hN
        go_wp2_with (go_at_call 62; refine (HNA.out _).mono ?_; rintro e w' ⟨rfl, n', rfl⟩)
        go_ret
        exact ⟨by rw [HF.out]; rfl, HBX.out.trans ((HB.out.mono HBX.out.size).trans (((Dr.refl _).drewN n').below (Below.refl _ _)))⟩
      cases hP : decide (plc n.ns x = (k : Int))
      · have HF := Lib.hid (HNO.out (by rw [HV.out, hN, hP]; rfl))
        rw [hN] at HNA
        have hpl := HPL.out
        rw [hP] at hpl
        rw [hpl] at HCO
        clear HNO HST HPL HV hN hP hpl
        go_wp2_with (first | (go_at_call 62; refine (HNA.out _).mono ?_; rintro e w' ⟨rfl, n', rfl⟩) | (go_at_call 63; refine (HCO.out _).mono ?_; rintro e w' ⟨rfl, rfl⟩))
        go_ret
        exact ⟨by rw [HF.out]; rfl, HBX.out.trans ((HB.out.mono HBX.out.size).trans (((Dr.refl _).drewN n').below (Below.refl _ _)))⟩
      · have HS := Lib.hid (HST.out (by rw [HV.out, hN, hP]; rfl))
        rw [hN] at HNA
        have hpl := HPL.out
        rw [hP] at hpl
        rw [hpl] at HCO
        clear HNO HST HPL HV hN hP hpl
        go_wp2_with (first | (go_at_call 62; refine (HNA.out _).mono ?_; rintro e w' ⟨rfl, n', rfl⟩) | (go_at_call 63; refine (HCO.out _).mono ?_; rintro e w' ⟨rfl, rfl⟩))
        go_roundw
        case rel => exact ⟨k + 1, hlt, by go_num, HS.out, HB.out.trans (((Dr.refl _).drewN n').below (Below.refl _ _))⟩
        case measure => simp [intOf]; omega
    · obtain rfl : m1 = k := by omega
      have HAL1 := Lib.hid (HALL.out HK.out)
      clear HALL HK HNM HR1
      go_wp2
      go_loopw [5, 6, 30] (fun _ _ i wr => ∃ k : Nat, k ≤ m2 ∧ i = .int .i64 k ∧ Hid (∀ i, i < k → fbOk n i = true) ∧ Hid (Below w1.heap.size w1 wr)) (fun _ _ i _ => m2 - (intOf i).toNat)
      case atStart => exact ⟨0, Nat.zero_le _, rfl, fun i hi => by omega, HB.out⟩
      case round =>
        clear HB p0 p1
        obtain ⟨k, hk, rfl, HK, HB⟩ := hrel
        have p0 := (HB.out.cell blt).trans q0
        have p1 := (HB.out.cell blt).trans q1
        by_cases hlt : k < m2
        · have hltI : (k : Int) < (m2 : Int) := by omega
          obtain ⟨b, off, rfl, hbs, hcs⟩ := HA2.out (by omega)
          have hcw := fun (i : Nat) (hi : i < m2) (r : Nat) (u : Value) (hu : (fibE (n.fs[i]?.getD nilB))[r]? = some u) => (HB.out.cell (p := ⟨b, off + i * 4 + r, none⟩) (Nat.lt_of_lt_of_le hbs HBX.out.size)).trans ((HBX.out.cell hbs).trans (hcs i hi r u hu))
          have HA3 := Lib.hid hcs
          have HST := Lib.hid (fun h => upto_succ HK.out (k := k) h)
          have HNO := Lib.hid (HFB.out k hlt)
          have HV := Lib.hid (show fbOk n k = (fibOk (fbA n k) n.ns.length && !(decide (0 < k) && fibGt (fbA n (k - 1)) (fbA n k))) from rfl)
          rw [HN1.out] at HV
          have c0 := hcw k hlt 0 _ rfl
          have c1 := hcw k hlt 1 _ rfl
          have c2 := hcw k hlt 2 _ rfl
          have c3 := hcw k hlt 3 _ rfl
          simp only [Nat.add_zero] at c0
          clear hcs hcw
          unfold fbA at *
          have HFC := Lib.hid (fib_cases (n.fs[k]?.getD nilB) m1)
          generalize n.fs[k]?.getD nilB = f at *
          obtain ⟨bf, bfc, bfl, -⟩ := box_facts wr #[.int .i64 f.a, .int .i64 f.b, .int .i64 f.l, .int .i64 f.r] 94
          have HBF := Lib.hid (HB.out.trans (bf.mono HB.out.size))
          have f0 := bfc 0 _ rfl
          have f1 := bfc 1 _ rfl
          have f2 := bfc 2 _ rfl
          have f3 := bfc 3 _ rfl
          have g0 := (HBF.out.cell blt).trans q0
          have g1 := (HBF.out.cell blt).trans q1
          clear bf bfc bfl
          rcases HFC.out with ⟨d1, hok⟩ | ⟨d1, d2, hok⟩ | ⟨d1, d2, d3, hok⟩ | ⟨d1, d2, d3, d4, hok⟩ | ⟨d1, d2, d3, d4, d5, hok⟩ | ⟨d1, d2, d3, d4, d5, hok⟩
          rotate_left 5
          · by_cases hk0 : k = 0
            · have hk0b : decide (0 < k) = false := decide_eq_false (by omega)
              have hk0c : decide (0 < (k : Int)) = false := decide_eq_false (by omega)
              have hv := HV.out
              rw [hok, decide_eq_false (show ¬ 0 < k by omega)] at hv
              have HV2 := Lib.hid hv
              clear hv HV hk0
              have HS := Lib.hid (HST.out (by rw [HV2.out]; rfl))
              clear hok
              go_wp2
              generalize wr.alloc (.cells #[.int .i64 f.a, .int .i64 f.b, .int .i64 f.l, .int .i64 f.r] 94) = w2 at *
              have j0 := rg f0
              have j1 := rg f1
              have j2 := rg f2
              have j3 := rg f3
              have j4 := rg g0
              have j5 := rg g1
              clear f0 f1 f2 f3 g0 g1 p0 p1
              refine wp_region_quiet_below (by kernel_rfl) (by kernel_rfl) ?_
              repeat (go_big_quiet_step (first | (go_at_call 44; exact rg_same (within_any _ _ _ _))))
              refine wpQuiet_nil ?_
              rintro _ ⟨⟨dq, osq⟩, rfl⟩
              go_wp2
              go_roundw
              case rel => exact ⟨k + 1, hlt, by go_num, HS.out, HBF.out.trans ((below_regrown _ dq osq).mono HBF.out.size)⟩
              case measure => simp [intOf]; omega
            · obtain ⟨k', hk'⟩ : ∃ k', k = k' + 1 := ⟨k - 1, by omega⟩
              have HKK := Lib.hid hk'
              have o0 := (HBF.out.cell (p := ⟨b, off + k' * 4 + 0, none⟩) (Nat.lt_of_lt_of_le hbs HBX.out.size)).trans ((HBX.out.cell hbs).trans (HA3.out k' (by omega) 0 _ rfl))
              have o1 := (HBF.out.cell (p := ⟨b, off + k' * 4 + 1, none⟩) (Nat.lt_of_lt_of_le hbs HBX.out.size)).trans ((HBX.out.cell hbs).trans (HA3.out k' (by omega) 1 _ rfl))
              have o2 := (HBF.out.cell (p := ⟨b, off + k' * 4 + 2, none⟩) (Nat.lt_of_lt_of_le hbs HBX.out.size)).trans ((HBX.out.cell hbs).trans (HA3.out k' (by omega) 2 _ rfl))
              have o3 := (HBF.out.cell (p := ⟨b, off + k' * 4 + 3, none⟩) (Nat.lt_of_lt_of_le hbs HBX.out.size)).trans ((HBX.out.cell hbs).trans (HA3.out k' (by omega) 3 _ rfl))
              simp only [Nat.add_zero] at o0
              have HCF := Lib.hid (fun w => compareFibers_any (n.fs[k']?.getD nilB) f w)
              have HGT := Lib.hid (cmpF_gt (n.fs[k']?.getD nilB) f)
              have hv := HV.out
              rw [hok, show k - 1 = k' by omega, decide_eq_true (show 0 < k by omega)] at hv
              have HV2 := Lib.hid hv
              clear hok hv HV
              generalize n.fs[k']?.getD nilB = g at *
              have hkp : (0 : Int) < (k : Int) := by omega
              have hkd : decide (0 < (k : Int)) = true := decide_eq_true hkp
              have hke : decide (0 < k) = true := decide_eq_true (by omega)
              have f1w : IntKind.i64.wrap ((k : Int) - 1) = (k' : Int) := by rw [IntWalk.i64_in _ (by omega)]; omega
              have f2w : (k' : Int) < (m2 : Int) := by omega
              clear hk' hk0
              unfold fibV at HCF
              generalize cmpF g f = cc at *
              cases hgt : fibGt g f
              · have HS := Lib.hid (HST.out (by rw [HV2.out, hgt]; simp))
                have hdc : decide (0 < cc) = false := by rw [HGT.out, hgt]
                clear hgt HNO HST HV2 HGT
                go_wp2
                generalize wr.alloc (.cells #[.int .i64 f.a, .int .i64 f.b, .int .i64 f.l, .int .i64 f.r] 94) = w2 at *
                have j0 := rg f0
                have j1 := rg f1
                have j2 := rg f2
                have j3 := rg f3
                have j4 := rg g0
                have j5 := rg g1
                have t0 := rg o0
                have t1 := rg o1
                have t2 := rg o2
                have t3 := rg o3
                clear f0 f1 f2 f3 g0 g1 p0 p1 o0 o1 o2 o3
                refine wp_region_quiet_below (by kernel_rfl) (by kernel_rfl) ?_
                repeat (go_big_quiet_step (first | (go_at_call 44; exact rg_same (within_any _ _ _ _)) | (go_at_call 64; exact Calls.regrown_of (HCF.out _))))
                refine wpQuiet_nil ?_
                rintro _ ⟨⟨dq, osq⟩, rfl⟩
                go_wp2
                go_roundw
                case rel => exact ⟨k + 1, hlt, by go_num, HS.out, HBF.out.trans ((below_regrown _ dq osq).mono HBF.out.size)⟩
                case measure => simp [intOf]; omega
              · have HF := Lib.hid (HNO.out (by rw [HV2.out, hgt]; simp))
                have hdc : decide (0 < cc) = true := by rw [HGT.out, hgt]
                clear hgt HNO HST HV2 HGT
                go_wp2
                generalize wr.alloc (.cells #[.int .i64 f.a, .int .i64 f.b, .int .i64 f.l, .int .i64 f.r] 94) = w2 at *
                have j0 := rg f0
                have j1 := rg f1
                have j2 := rg f2
                have j3 := rg f3
                have j4 := rg g0
                have j5 := rg g1
                have t0 := rg o0
                have t1 := rg o1
                have t2 := rg o2
                have t3 := rg o3
                clear f0 f1 f2 f3 g0 g1 p0 p1 o0 o1 o2 o3
                refine wp_region_quiet_below (by kernel_rfl) (by kernel_rfl) ?_
                repeat (go_big_quiet_step (first | (go_at_call 44; exact rg_same (within_any _ _ _ _)) | (go_at_call 64; exact Calls.regrown_of (HCF.out _))))
                refine wpQuiet_nil ?_
                rintro _ ⟨⟨dq, osq⟩, rfl⟩
                go_wp2
                go_ret
                exact ⟨by rw [HF.out]; rfl, HBX.out.trans ((HBF.out.mono HBX.out.size).trans ((below_regrown _ dq osq).mono (Nat.le_trans HBX.out.size HBF.out.size)))⟩
          all_goals
            have HF := Lib.hid (HNO.out (by rw [HV.out, hok]; rfl))
            clear hok
            go_wp2
            generalize wr.alloc (.cells #[.int .i64 f.a, .int .i64 f.b, .int .i64 f.l, .int .i64 f.r] 94) = w2 at *
            have j0 := rg f0
            have j1 := rg f1
            have j2 := rg f2
            have j3 := rg f3
            have j4 := rg g0
            have j5 := rg g1
            clear f0 f1 f2 f3 g0 g1 p0 p1
            refine wp_region_quiet_below (by kernel_rfl) (by kernel_rfl) ?_
            repeat (go_big_quiet_step (first | (go_at_call 44; exact rg_same (within_any _ _ _ _))))
            refine wpQuiet_nil ?_
            rintro _ ⟨⟨dq, osq⟩, rfl⟩
            go_wp2
            go_ret
            exact ⟨by rw [HF.out]; rfl, HBX.out.trans ((HBF.out.mono HBX.out.size).trans ((below_regrown _ dq osq).mono (Nat.le_trans HBX.out.size HBF.out.size)))⟩
        · obtain rfl : m2 = k := by omega
          have HE := Lib.hid (HAL1.out HK.out)
          have HV := Lib.hid (show decide (2 ≤ m1 ∧ m1 ≤ 8 ∧ m2 ≤ 14) = (inB (m1 : Int) 2 8 && decide (m2 ≤ 14)) by unfold inB; rw [Bool.eq_iff_iff]; simp; omega)
          cases hin : inB (m1 : Int) 2 8
          · go_wp2_with (go_at_call 44; refine (within_any _ _ _ _).mono ?_; rintro e w' ⟨rfl, rfl⟩; rw [hin])
            go_ret
            exact ⟨by rw [HE.out, HV.out, hin]; rfl, HBX.out.trans (HB.out.mono HBX.out.size)⟩
          · by_cases h14 : (m2 : Int) ≤ 14
            · have hd : decide ((m2 : Int) ≤ 14) = true := decide_eq_true h14
              have hd2 : decide (m2 ≤ 14) = true := decide_eq_true (by omega)
              clear h14
              go_wp2_with (go_at_call 44; refine (within_any _ _ _ _).mono ?_; rintro e w' ⟨rfl, rfl⟩; rw [hin])
              go_ret
              exact ⟨by rw [HE.out, HV.out, hin, hd2]; rfl, HBX.out.trans (HB.out.mono HBX.out.size)⟩
            · have hd : decide ((m2 : Int) ≤ 14) = false := decide_eq_false h14
              have hd2 : decide (m2 ≤ 14) = false := decide_eq_false (by omega)
              clear h14
              go_wp2_with (go_at_call 44; refine (within_any _ _ _ _).mono ?_; rintro e w' ⟨rfl, rfl⟩; rw [hin])
              go_ret
              exact ⟨by rw [HE.out, HV.out, hin, hd2]; rfl, HBX.out.trans (HB.out.mono HBX.out.size)⟩
end Go.Proofs.Ytphhenlokbodnaa
