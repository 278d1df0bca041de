/- Walks of the functions on symbols. -/
import Derived.Test.YtphppdcdlhmmiaaSymP
import Derived.Test.YtphppdcdlhmmiaaProg
import Derived.WalkKit
import Derived.WalkSpells
import Derived.WalkLawsBesides
import Derived.Deep.QuietTactic
import Derived.BigQuiet
import Derived.Lib.Hide
import Derived.Handy
namespace Go.Proofs.Ytphppdcdlhmmiaa
open Go.RowKit

theorem int_eq {k : IntKind} {a b : Int} (h : a = b) : Value.int k a = Value.int k b := by rw [h]
theorem ret_int {k : IntKind} {a b : Int} (h : a = b) : Ending.returned (.int k a) = .returned (.int k b) := by rw [h]


theorem within_any (n lo hi : Int) (w : World) : Calls Try.prog 53 #[.int .i64 n, .int .i64 lo, .int .i64 hi] w fun e w' => e = .returned (.bool (inB n lo hi)) ∧ w = w' := by
  by_cases h1 : lo ≤ n
  · have hd : decide (lo ≤ n) = true := by simpa using h1
    go_enter Try.func53, Try.ntmps53
    go_wp2
    go_ret
    exact ⟨by simp [inB, h1], rfl⟩
  · have hd : decide (lo ≤ n) = false := by simpa using h1
    go_enter Try.func53, Try.ntmps53
    go_wp2
    go_ret
    exact ⟨by rw [inB, hd]; rfl, rfl⟩

theorem l1In_any (n lo hi : Int) (w : World) : Calls Try.prog 48 #[.int .i64 n, .int .i64 lo, .int .i64 hi] w fun e w' => e = .returned (.bool (inB n lo hi)) ∧ w = w' := by
  by_cases h1 : lo ≤ n
  · have hd : decide (lo ≤ n) = true := by simpa using h1
    go_enter Try.func48, Try.ntmps48
    go_wp2
    go_ret
    exact ⟨by simp [inB, h1], rfl⟩
  · have hd : decide (lo ≤ n) = false := by simpa using h1
    go_enter Try.func48, Try.ntmps48
    go_wp2
    go_ret
    exact ⟨by rw [inB, hd]; rfl, rfl⟩

theorem isSymbol_any (n : Int) (w : World) : Calls Try.prog 50 #[.int .i64 n] w fun e w' => e = .returned (.bool (inB n 0 15)) ∧ w = w' := by
  go_enter Try.func50, Try.ntmps50
  go_wp2_with (go_at_call 53; refine (within_any _ _ _ _).mono ?_; rintro e w' ⟨rfl, rfl⟩)
  go_ret
  exact ⟨rfl, rfl⟩

set_option maxHeartbeats 400000 in
theorem product_any (a b : Int) (w : World) (ha : 0 ≤ a) (ha2 : a ≤ 15) (hb : 0 ≤ b) (hb2 : b ≤ 15) :
    Calls Try.prog 51 #[.int .i64 a, .int .i64 b] w fun e w' => e = .returned (.int .i64 (mulI a b)) ∧ w = w' := by
  obtain ⟨a, rfl⟩ := Int.eq_ofNat_of_zero_le ha
  obtain ⟨b, rfl⟩ := Int.eq_ofNat_of_zero_le hb
  go_enter Try.func51, Try.ntmps51
  go_wp2
  go_loop [5, 8] (fun o i => ∃ (k : Nat), k ≤ 4 ∧ i = .int .i64 k ∧ o = .int .i64 (m1 a b k : Nat)) (fun _ i => 4 - (intOf i).toNat)
  case atStart => exact ⟨0, by omega, rfl, rfl⟩
  case round =>
    obtain ⟨k, hk, rfl, rfl⟩ := hrel
    by_cases hlt : k < 4
    · have hy := m1_yes0 a (by omega) b (by omega) k hlt
      have hn := m1_no0 a (by omega) b (by omega) k hlt
      have HY := Lib.hid hy
      have HN := Lib.hid hn
      clear hy hn
      go_wp2
      · go_round
        case rel => exact ⟨k + 1, by omega, by go_num, by rw [HY.out (by assumption)]⟩
        case measure => simp [intOf]; omega
      · go_round
        case rel => exact ⟨k + 1, by omega, by go_num, by rw [HN.out (by assumption)]⟩
        case measure => simp [intOf]; omega
    · obtain rfl : k = 4 := by omega
      have hl := m1_le0 a (by omega) b (by omega)
      have hM : mulI a b = r1 (m1 a b 4) 3 := rfl
      have HM := Lib.hid hM
      clear hM
      generalize m1 a b 4 = x at *
      go_wp2
      go_loop [5, 7] (fun o i => ∃ (j : Nat), 3 ≤ j ∧ j ≤ 6 ∧ i = .int .i64 j ∧ o = .int .i64 (r1 x (6 - j) : Nat)) (fun _ i => (intOf i).toNat)
      case atStart => exact ⟨6, by omega, by omega, rfl, rfl⟩
      case round =>
        obtain ⟨j, hj, hj2, rfl, rfl⟩ := hrel
        by_cases h4 : 4 ≤ j
        · have hy := r1_yes x hl j (by omega) h4
          have hn := r1_no x hl j (by omega) h4
          have HY := Lib.hid hy
          have HN := Lib.hid hn
          clear hy hn
          go_wp2
          · go_round
            case rel => exact ⟨j - 1, by omega, by omega, int_eq (by omega), by rw [HY.out (by assumption)]⟩
            case measure => simp [intOf]; omega
          · go_round
            case rel => exact ⟨j - 1, by omega, by omega, int_eq (by omega), by rw [HN.out (by assumption)]⟩
            case measure => simp [intOf]; omega
        · obtain rfl : j = 3 := by omega
          go_wp2
          go_ret
          exact ⟨by rw [HM.out]; rfl, rfl⟩

set_option maxHeartbeats 400000 in
theorem times_any (a b : Int) (w : World) (ha : 0 ≤ a) (ha2 : a ≤ 15) (hb : 0 ≤ b) (hb2 : b ≤ 15) :
    Calls Try.prog 49 #[.int .i64 a, .int .i64 b] w fun e w' => e = .returned (.int .i64 (mulI a b)) ∧ w = w' := by
  obtain ⟨a, rfl⟩ := Int.eq_ofNat_of_zero_le ha
  obtain ⟨b, rfl⟩ := Int.eq_ofNat_of_zero_le hb
  go_enter Try.func49, Try.ntmps49
  go_wp2
  go_loop [5, 6] (fun o i => ∃ (k : Nat), k ≤ 4 ∧ i = .int .i64 k ∧ o = .int .i64 (m1 a b k : Nat)) (fun _ i => 4 - (intOf i).toNat)
  case atStart => exact ⟨0, by omega, rfl, rfl⟩
  case round =>
    obtain ⟨k, hk, rfl, rfl⟩ := hrel
    by_cases hlt : k < 4
    · have hy := m1_yes0 a (by omega) b (by omega) k hlt
      have hn := m1_no0 a (by omega) b (by omega) k hlt
      have HY := Lib.hid hy
      have HN := Lib.hid hn
      clear hy hn
      go_wp2
      · go_round
        case rel => exact ⟨k + 1, by omega, by go_num, by rw [HY.out (by assumption)]⟩
        case measure => simp [intOf]; omega
      · go_round
        case rel => exact ⟨k + 1, by omega, by go_num, by rw [HN.out (by assumption)]⟩
        case measure => simp [intOf]; omega
    · obtain rfl : k = 4 := by omega
      have hl := m1_le0 a (by omega) b (by omega)
      have hM : mulI a b = r1 (m1 a b 4) 3 := rfl
      have HM := Lib.hid hM
      clear hM
      generalize m1 a b 4 = x at *
      go_wp2
      go_loop [5, 7] (fun o i => ∃ (j : Nat), 3 ≤ j ∧ j ≤ 6 ∧ i = .int .i64 j ∧ o = .int .i64 (r1 x (6 - j) : Nat)) (fun _ i => (intOf i).toNat)
      case atStart => exact ⟨6, by omega, by omega, rfl, rfl⟩
      case round =>
        obtain ⟨j, hj, hj2, rfl, rfl⟩ := hrel
        by_cases h4 : 4 ≤ j
        · have hy := r1_yes x hl j (by omega) h4
          have hn := r1_no x hl j (by omega) h4
          have HY := Lib.hid hy
          have HN := Lib.hid hn
          clear hy hn
          go_wp2
          · go_round
            case rel => exact ⟨j - 1, by omega, by omega, int_eq (by omega), by rw [HY.out (by assumption)]⟩
            case measure => simp [intOf]; omega
          · go_round
            case rel => exact ⟨j - 1, by omega, by omega, int_eq (by omega), by rw [HN.out (by assumption)]⟩
            case measure => simp [intOf]; omega
        · obtain rfl : j = 3 := by omega
          go_wp2
          go_ret
          exact ⟨by rw [HM.out]; rfl, rfl⟩

theorem implMul_any (a b : Int) (w : World) : Calls Try.prog 17 #[.int .i64 a, .int .i64 b] w fun e w' => e = .returned (.tuple #[.int .i64 (mulS a b), .bool (mulOk a b)]) ∧ w = w' := by
  by_cases h1 : inB a 0 15 = true
  · have b1 := inB_true h1
    by_cases h2 : inB b 0 15 = true
    · have b2 := inB_true h2
      go_enter Try.func17, Try.ntmps17
      go_wp2_with (first | (go_at_call 50; refine (isSymbol_any _ _).mono ?_; rintro e w' ⟨rfl, rfl⟩) | (go_at_call 51; refine (product_any _ _ _ b1.1 b1.2 b2.1 b2.2).mono ?_; rintro e w' ⟨rfl, rfl⟩))
      go_ret2
      exact ⟨by simp [mulS, mulOk, h1, h2], rfl⟩
    · have h2 : inB b 0 15 = false := by simpa using h2
      go_enter Try.func17, Try.ntmps17
      go_wp2_with (first | (go_at_call 50; refine (isSymbol_any _ _).mono ?_; rintro e w' ⟨rfl, rfl⟩))
      go_ret2
      exact ⟨by simp [mulS, mulOk, h2], rfl⟩
  · have h1 : inB a 0 15 = false := by simpa using h1
    go_enter Try.func17, Try.ntmps17
    go_wp2_with (first | (go_at_call 50; refine (isSymbol_any _ _).mono ?_; rintro e w' ⟨rfl, rfl⟩))
    go_ret2
    exact ⟨by simp [mulS, mulOk, h1], rfl⟩

theorem specMul_any (a b : Int) (w : World) : Calls Try.prog 16 #[.int .i64 a, .int .i64 b] w fun e w' => e = .returned (.tuple #[.int .i64 (mulS a b), .bool (mulOk a b)]) ∧ w = w' := by
  by_cases h1 : inB a 0 15 = true
  · have b1 := inB_true h1
    by_cases h2 : inB b 0 15 = true
    · have b2 := inB_true h2
      go_enter Try.func16, Try.ntmps16
      go_wp2_with (first | (go_at_call 48; refine (l1In_any _ _ _ _).mono ?_; rintro e w' ⟨rfl, rfl⟩) | (go_at_call 49; refine (times_any _ _ _ b1.1 b1.2 b2.1 b2.2).mono ?_; rintro e w' ⟨rfl, rfl⟩))
      go_ret2
      exact ⟨by simp [mulS, mulOk, h1, h2], rfl⟩
    · have h2 : inB b 0 15 = false := by simpa using h2
      go_enter Try.func16, Try.ntmps16
      go_wp2_with (first | (go_at_call 48; refine (l1In_any _ _ _ _).mono ?_; rintro e w' ⟨rfl, rfl⟩))
      go_ret2
      exact ⟨by simp [mulS, mulOk, h2], rfl⟩
  · have h1 : inB a 0 15 = false := by simpa using h1
    go_enter Try.func16, Try.ntmps16
    go_wp2_with (first | (go_at_call 48; refine (l1In_any _ _ _ _).mono ?_; rintro e w' ⟨rfl, rfl⟩))
    go_ret2
    exact ⟨by simp [mulS, mulOk, h1], rfl⟩

set_option maxHeartbeats 400000 in
theorem inverse_any (a : Int) (w : World) (ha : 1 ≤ a) (ha2 : a ≤ 15) :
    Calls Try.prog 54 #[.int .i64 a] w fun e w' => e = .returned (.int .i64 (invI a)) ∧ w = w' := by
  have hi := invI_bd ha ha2
  have hm := invI_mul ha ha2
  have hf := fun b h1 h2 => invI_first ha ha2 b h1 h2
  have HM := Lib.hid hm
  have HF := Lib.hid hf
  clear hm hf
  generalize invI a = v at *
  go_enter Try.func54, Try.ntmps54
  go_wp2
  go_loop [3] (fun i => ∃ (k : Nat), 1 ≤ k ∧ (k : Int) ≤ v ∧ i = .int .i64 k) (fun i => 16 - (intOf i).toNat)
  case atStart => exact ⟨1, by omega, by omega, rfl⟩
  case round =>
    obtain ⟨k, hk1, hk, rfl⟩ := hrel
    by_cases hlt : (k : Int) < v
    · have hne : (mulI a k != 1) = true := by simpa using HF.out k hlt hk1
      go_wp2_with (go_at_call 51; refine (product_any _ _ _ (by omega) (by omega) (by omega) (by omega)).mono ?_; rintro e w' ⟨rfl, rfl⟩)
      go_round
      case rel => exact ⟨k + 1, by omega, by omega, by go_num⟩
      case measure => simp [intOf]; omega
    · obtain rfl : v = (k : Int) := by omega
      have hne : (mulI a k != 1) = false := by simpa using HM.out
      go_wp2_with (go_at_call 51; refine (product_any _ _ _ (by omega) (by omega) (by omega) (by omega)).mono ?_; rintro e w' ⟨rfl, rfl⟩)
      go_ret
      exact ⟨rfl, rfl⟩

set_option maxHeartbeats 400000 in
theorem sinverse_any (a : Int) (w : World) (ha : 1 ≤ a) (ha2 : a ≤ 15) :
    Calls Try.prog 52 #[.int .i64 a] w fun e w' => e = .returned (.int .i64 (invI a)) ∧ w = w' := by
  have hi := invI_bd ha ha2
  have hm := invI_mul ha ha2
  have hf := fun b h1 h2 => invI_first ha ha2 b h1 h2
  have HM := Lib.hid hm
  have HF := Lib.hid hf
  clear hm hf
  generalize invI a = v at *
  go_enter Try.func52, Try.ntmps52
  go_wp2
  go_loop [3] (fun i => ∃ (k : Nat), 1 ≤ k ∧ (k : Int) ≤ v ∧ i = .int .i64 k) (fun i => 16 - (intOf i).toNat)
  case atStart => exact ⟨1, by omega, by omega, rfl⟩
  case round =>
    obtain ⟨k, hk1, hk, rfl⟩ := hrel
    by_cases hlt : (k : Int) < v
    · have hne : (mulI a k == 1) = false := by simpa using HF.out k hlt hk1
      go_wp2_with (go_at_call 49; refine (times_any _ _ _ (by omega) (by omega) (by omega) (by omega)).mono ?_; rintro e w' ⟨rfl, rfl⟩)
      go_round
      case rel => exact ⟨k + 1, by omega, by omega, by go_num⟩
      case measure => simp [intOf]; omega
    · obtain rfl : v = (k : Int) := by omega
      have hne : (mulI a k == 1) = true := by simpa using HM.out
      go_wp2_with (go_at_call 49; refine (times_any _ _ _ (by omega) (by omega) (by omega) (by omega)).mono ?_; rintro e w' ⟨rfl, rfl⟩)
      go_ret
      exact ⟨rfl, rfl⟩

theorem implInv_any (a : Int) (w : World) : Calls Try.prog 19 #[.int .i64 a] w fun e w' => e = .returned (.tuple #[.int .i64 (invS a), .bool (invOk a)]) ∧ w = w' := by
  by_cases h1 : inB a 1 15 = true
  · have b1 := inB_true h1
    go_enter Try.func19, Try.ntmps19
    go_wp2_with (first | (go_at_call 53; refine (within_any _ _ _ _).mono ?_; rintro e w' ⟨rfl, rfl⟩) | (go_at_call 54; refine (inverse_any _ _ b1.1 b1.2).mono ?_; rintro e w' ⟨rfl, rfl⟩))
    go_ret2
    exact ⟨by simp [invS, invOk, h1], rfl⟩
  · have h1 : inB a 1 15 = false := by simpa using h1
    go_enter Try.func19, Try.ntmps19
    go_wp2_with (first | (go_at_call 53; refine (within_any _ _ _ _).mono ?_; rintro e w' ⟨rfl, rfl⟩))
    go_ret2
    exact ⟨by simp [invS, invOk, h1], rfl⟩

theorem specInv_any (a : Int) (w : World) : Calls Try.prog 18 #[.int .i64 a] w fun e w' => e = .returned (.tuple #[.int .i64 (invS a), .bool (invOk a)]) ∧ w = w' := by
  by_cases h1 : inB a 1 15 = true
  · have b1 := inB_true h1
    go_enter Try.func18, Try.ntmps18
    go_wp2_with (first | (go_at_call 48; refine (l1In_any _ _ _ _).mono ?_; rintro e w' ⟨rfl, rfl⟩) | (go_at_call 52; refine (sinverse_any _ _ b1.1 b1.2).mono ?_; rintro e w' ⟨rfl, rfl⟩))
    go_ret2
    exact ⟨by simp [invS, invOk, h1], rfl⟩
  · have h1 : inB a 1 15 = false := by simpa using h1
    go_enter Try.func18, Try.ntmps18
    go_wp2_with (first | (go_at_call 48; refine (l1In_any _ _ _ _).mono ?_; rintro e w' ⟨rfl, rfl⟩))
    go_ret2
    exact ⟨by simp [invS, invOk, h1], rfl⟩
end Go.Proofs.Ytphppdcdlhmmiaa
