/- Walks: names of nodes, the reference's. -/
import Derived.Test.YtphhenlokbodnaaNamW
namespace Go.Proofs.Ytphhenlokbodnaa
open Go.RowKit
set_option maxRecDepth 100000

theorem l2Sign_any (b : UInt8) (w : World) :
    Calls Try.prog 89 #[.int .u8 (b.toNat : Int)] w fun e w' => e = .returned (.bool (sgnB b)) ∧ w = w' := by
  have HSG := Lib.hid (show sgnB b = ((decide (97 ≤ (b.toNat : Int)) && decide ((b.toNat : Int) ≤ 122)) || (decide (48 ≤ (b.toNat : Int)) && decide ((b.toNat : Int) ≤ 57))) from rfl)
  generalize sgnB b = r at *
  generalize (b.toNat : Int) = x at *
  by_cases c1 : 97 ≤ x
  · have c1d : decide (97 ≤ x) = true := decide_eq_true c1
    by_cases c2 : x ≤ 122
    · have c2d : decide (x ≤ 122) = true := decide_eq_true c2
      go_enter Try.func89, Try.ntmps89
      go_wp2
      go_ret
      exact ⟨by rw [HSG.out, c1d, c2d]; rfl, rfl⟩
    · have c2d : decide (x ≤ 122) = false := decide_eq_false c2
      have c3 : 48 ≤ x := by omega
      have c3d : decide (48 ≤ x) = true := decide_eq_true c3
      have c4 : ¬ x ≤ 57 := by omega
      have c4d : decide (x ≤ 57) = false := decide_eq_false c4
      go_enter Try.func89, Try.ntmps89
      go_wp2
      go_ret
      exact ⟨by rw [HSG.out, c1d, c2d, c3d, c4d]; rfl, rfl⟩
  · have c1d : decide (97 ≤ x) = false := decide_eq_false c1
    by_cases c3 : 48 ≤ x
    · have c3d : decide (48 ≤ x) = true := decide_eq_true c3
      by_cases c4 : x ≤ 57
      · have c4d : decide (x ≤ 57) = true := decide_eq_true c4
        go_enter Try.func89, Try.ntmps89
        go_wp2
        go_ret
        exact ⟨by rw [HSG.out, c1d, c3d, c4d]; rfl, rfl⟩
      · have c4d : decide (x ≤ 57) = false := decide_eq_false c4
        go_enter Try.func89, Try.ntmps89
        go_wp2
        go_ret
        exact ⟨by rw [HSG.out, c1d, c3d, c4d]; rfl, rfl⟩
    · have c3d : decide (48 ≤ x) = false := decide_eq_false c3
      go_enter Try.func89, Try.ntmps89
      go_wp2
      go_ret
      exact ⟨by rw [HSG.out, c1d, c3d]; rfl, rfl⟩
set_option maxHeartbeats 3200000 in
theorem l2Name_any (s : ByteArray) (w : World) (hs : s.size ≤ maxLen) :
    Calls Try.prog 71 #[.string s] w fun e w' => e = .returned (.bool (nameOk s)) ∧ w = w' := by
  unfold maxLen at hs
  have HN := Lib.hid (fun k (hk : k < s.size) h => nameOk_sgn (nam_no (s := s) (p := sgnB) (k := k) hk h))
  have HS := Lib.hid (fun k (hk : k < s.size) h e => nam_step (s := s) (p := sgnB) (k := k) hk h e)
  have HA := Lib.hid (nam_all s)
  have HH := Lib.hid (@nameOk_hd s)
  have HL := Lib.hid (@nameOk_len s)
  have HY := Lib.hid (@nameOk_yes s)
  have H0 := Lib.hid (@hd0_of s)
  generalize nameOk s = r at *
  by_cases hl : 1 ≤ s.size ∧ s.size ≤ 8
  · have hb : inB (s.size : Int) 1 8 = true := by simp [inB]; omega
    have h0 : 0 < s.size := by omega
    have h0I : (0 : Int) < (s.size : Int) := by omega
    have HLE := Lib.hid (show hd0 s = (decide (97 ≤ (s[0].toNat : Int)) && decide ((s[0].toNat : Int) ≤ 122)) from (H0.out h0).trans rfl)
    by_cases c1 : (s[0].toNat : Int) < 97
    · have c1d : decide ((s[0].toNat : Int) < 97) = true := decide_eq_true c1
      have HF := Lib.hid (HH.out (by rw [HLE.out, decide_eq_false (show ¬ 97 ≤ (s[0].toNat : Int) by omega)]; rfl))
      go_enter Try.func71, Try.ntmps71
      go_wp2_with (go_at_call 48; refine (l1In_any _ _ _ _).mono ?_; rintro e w' ⟨rfl, rfl⟩; rw [hb])
      go_ret
      exact ⟨by rw [HF.out]; rfl, rfl⟩
    by_cases c2 : 122 < (s[0].toNat : Int)
    · have c1d : decide ((s[0].toNat : Int) < 97) = false := decide_eq_false c1
      have c2d : decide (122 < (s[0].toNat : Int)) = true := decide_eq_true c2
      have HF := Lib.hid (HH.out (by rw [HLE.out, decide_eq_false (show ¬ (s[0].toNat : Int) ≤ 122 by omega)]; simp))
      go_enter Try.func71, Try.ntmps71
      go_wp2_with (go_at_call 48; refine (l1In_any _ _ _ _).mono ?_; rintro e w' ⟨rfl, rfl⟩; rw [hb])
      go_ret
      exact ⟨by rw [HF.out]; rfl, rfl⟩
    have c1d : decide ((s[0].toNat : Int) < 97) = false := decide_eq_false c1
    have c2d : decide (122 < (s[0].toNat : Int)) = false := decide_eq_false c2
    have HHD := Lib.hid (show hd0 s = true by rw [HLE.out, decide_eq_true (show 97 ≤ (s[0].toNat : Int) by omega), decide_eq_true (show (s[0].toNat : Int) ≤ 122 by omega)]; rfl)
    go_enter Try.func71, Try.ntmps71
    go_wp2_with (go_at_call 48; refine (l1In_any _ _ _ _).mono ?_; rintro e w' ⟨rfl, rfl⟩; rw [hb])
    go_loop [3] (fun i => ∃ k : Nat, k ≤ s.size ∧ i = .int .i64 k ∧ Hid ((s.data.toList.take k).all sgnB = true)) (fun i => s.size - (intOf i).toNat)
    case atStart => exact ⟨0, Nat.zero_le _, rfl, by simp [Hid]⟩
    case round =>
      obtain ⟨k, hk, rfl, HT⟩ := hrel
      by_cases hlt : k < s.size
      · have hltI : (k : Int) < (s.size : Int) := by omega
        have HN1 := Lib.hid (HN.out k hlt)
        have HS1 := Lib.hid (HS.out k hlt HT.out)
        have HQ := Lib.hid (fun w => l2Sign_any s[k] w)
        generalize sgnB s[k] = ok at *
        cases ok
        · have HF := Lib.hid (HN1.out rfl)
          go_wp2_with (go_at_call 89; refine (HQ.out _).mono ?_; rintro e w' ⟨rfl, rfl⟩)
          go_ret
          exact ⟨by rw [HF.out]; rfl, rfl⟩
        · have HT2 := Lib.hid (HS1.out rfl)
          go_wp2_with (go_at_call 89; refine (HQ.out _).mono ?_; rintro e w' ⟨rfl, rfl⟩)
          go_round
          case rel => exact ⟨k + 1, hlt, by go_num, HT2.out⟩
          case measure => simp [intOf]; omega
      · obtain rfl : k = s.size := by omega
        have hall := HT.out
        rw [HA.out] at hall
        have HR := Lib.hid (HY.out hl HHD.out hall)
        go_wp2
        go_ret
        exact ⟨by rw [HR.out]; rfl, rfl⟩
  · have hb : inB (s.size : Int) 1 8 = false := by
      by_cases h1 : 1 ≤ s.size
      · simp [inB]; omega
      · simp [inB]; omega
    have HF := Lib.hid (HL.out hl)
    clear hl
    go_enter Try.func71, Try.ntmps71
    go_wp2_with (go_at_call 48; refine (l1In_any _ _ _ _).mono ?_; rintro e w' ⟨rfl, rfl⟩; rw [hb])
    go_ret
    exact ⟨by rw [HF.out]; rfl, rfl⟩
end Go.Proofs.Ytphhenlokbodnaa
