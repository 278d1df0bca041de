/- Walks of the functions on symbols. -/
import Derived.Test.YtlemielobmbadaaSymP
import Derived.Test.YtlemielobmbadaaProg
import Derived.WalkKit
import Derived.WalkSpells
import Derived.WalkLawsBesides
import Derived.Deep.QuietTactic
import Derived.BigQuiet
import Derived.Lib.Hide
import Derived.Handy
namespace Go.Proofs.Ytlemielobmbadaa
open Go.RowKit

theorem int_eq {k : IntKind} {a b : Int} (h : a = b) : Value.int k a = Value.int k b := by rw [h]
theorem ret_int {k : IntKind} {a b : Int} (h : a = b) : Ending.returned (.int k a) = .returned (.int k b) := by rw [h]


theorem within_any (n lo hi : Int) (w : World) : Calls Try.prog 68 #[.int .i64 n, .int .i64 lo, .int .i64 hi] w fun e w' => e = .returned (.bool (inB n lo hi)) ∧ w = w' := by
  by_cases h1 : lo ≤ n
  · have hd : decide (lo ≤ n) = true := by simpa using h1
    go_enter Try.func68, Try.ntmps68
    go_wp2
    go_ret
    exact ⟨by simp [inB, h1], rfl⟩
  · have hd : decide (lo ≤ n) = false := by simpa using h1
    go_enter Try.func68, Try.ntmps68
    go_wp2
    go_ret
    exact ⟨by rw [inB, hd]; rfl, rfl⟩

theorem l1In_any (n lo hi : Int) (w : World) : Calls Try.prog 71 #[.int .i64 n, .int .i64 lo, .int .i64 hi] w fun e w' => e = .returned (.bool (inB n lo hi)) ∧ w = w' := by
  by_cases h1 : lo ≤ n
  · have hd : decide (lo ≤ n) = true := by simpa using h1
    go_enter Try.func71, Try.ntmps71
    go_wp2
    go_ret
    exact ⟨by simp [inB, h1], rfl⟩
  · have hd : decide (lo ≤ n) = false := by simpa using h1
    go_enter Try.func71, Try.ntmps71
    go_wp2
    go_ret
    exact ⟨by rw [inB, hd]; rfl, rfl⟩

theorem isSymbol_any (n : Int) (w : World) : Calls Try.prog 109 #[.int .i64 n] w fun e w' => e = .returned (.bool (inB n 0 15)) ∧ w = w' := by
  go_enter Try.func109, Try.ntmps109
  go_wp2_with (go_at_call 68; refine (within_any _ _ _ _).mono ?_; rintro e w' ⟨rfl, rfl⟩)
  go_ret
  exact ⟨rfl, rfl⟩

set_option maxHeartbeats 400000 in
theorem product_any (a b : Int) (w : World) (ha : 0 ≤ a) (ha2 : a ≤ 15) (hb : 0 ≤ b) (hb2 : b ≤ 15) :
    Calls Try.prog 116 #[.int .i64 a, .int .i64 b] w fun e w' => e = .returned (.int .i64 (mulI a b)) ∧ w = w' := by
  obtain ⟨a, rfl⟩ := Int.eq_ofNat_of_zero_le ha
  obtain ⟨b, rfl⟩ := Int.eq_ofNat_of_zero_le hb
  go_enter Try.func116, Try.ntmps116
  go_wp2
  go_loop [5, 8] (fun o i => ∃ (k : Nat), k ≤ 4 ∧ i = .int .i64 k ∧ o = .int .i64 (m1 a b k : Nat)) (fun _ i => 4 - (intOf i).toNat)
  case atStart => exact ⟨0, by omega, rfl, rfl⟩
  case round =>
    obtain ⟨k, hk, rfl, rfl⟩ := hrel
    by_cases hlt : k < 4
    · have hy := m1_yes0 a (by omega) b (by omega) k hlt
      have hn := m1_no0 a (by omega) b (by omega) k hlt
      have HY := Lib.hid hy
      have HN := Lib.hid hn
      clear hy hn
      go_wp2
      · go_round
        case rel => exact ⟨k + 1, by omega, by go_num, by rw [HY.out (by assumption)]⟩
        case measure => simp [intOf]; omega
      · go_round
        case rel => exact ⟨k + 1, by omega, by go_num, by rw [HN.out (by assumption)]⟩
        case measure => simp [intOf]; omega
    · obtain rfl : k = 4 := by omega
      have hl := m1_le0 a (by omega) b (by omega)
      have hM : mulI a b = r1 (m1 a b 4) 3 := rfl
      have HM := Lib.hid hM
      clear hM
      generalize m1 a b 4 = x at *
      go_wp2
      go_loop [5, 7] (fun o i => ∃ (j : Nat), 3 ≤ j ∧ j ≤ 6 ∧ i = .int .i64 j ∧ o = .int .i64 (r1 x (6 - j) : Nat)) (fun _ i => (intOf i).toNat)
      case atStart => exact ⟨6, by omega, by omega, rfl, rfl⟩
      case round =>
        obtain ⟨j, hj, hj2, rfl, rfl⟩ := hrel
        by_cases h4 : 4 ≤ j
        · have hy := r1_yes x hl j (by omega) h4
          have hn := r1_no x hl j (by omega) h4
          have HY := Lib.hid hy
          have HN := Lib.hid hn
          clear hy hn
          go_wp2
          · go_round
            case rel => exact ⟨j - 1, by omega, by omega, int_eq (by omega), by rw [HY.out (by assumption)]⟩
            case measure => simp [intOf]; omega
          · go_round
            case rel => exact ⟨j - 1, by omega, by omega, int_eq (by omega), by rw [HN.out (by assumption)]⟩
            case measure => simp [intOf]; omega
        · obtain rfl : j = 3 := by omega
          go_wp2
          go_ret
          exact ⟨by rw [HM.out]; rfl, rfl⟩

set_option maxHeartbeats 400000 in
theorem times_any (a b : Int) (w : World) (ha : 0 ≤ a) (ha2 : a ≤ 15) (hb : 0 ≤ b) (hb2 : b ≤ 15) :
    Calls Try.prog 127 #[.int .i64 a, .int .i64 b] w fun e w' => e = .returned (.int .i64 (mulI a b)) ∧ w = w' := by
  obtain ⟨a, rfl⟩ := Int.eq_ofNat_of_zero_le ha
  obtain ⟨b, rfl⟩ := Int.eq_ofNat_of_zero_le hb
  go_enter Try.func127, Try.ntmps127
  go_wp2
  go_loop [5, 6] (fun o i => ∃ (k : Nat), k ≤ 4 ∧ i = .int .i64 k ∧ o = .int .i64 (m1 a b k : Nat)) (fun _ i => 4 - (intOf i).toNat)
  case atStart => exact ⟨0, by omega, rfl, rfl⟩
  case round =>
    obtain ⟨k, hk, rfl, rfl⟩ := hrel
    by_cases hlt : k < 4
    · have hy := m1_yes0 a (by omega) b (by omega) k hlt
      have hn := m1_no0 a (by omega) b (by omega) k hlt
      have HY := Lib.hid hy
      have HN := Lib.hid hn
      clear hy hn
      go_wp2
      · go_round
        case rel => exact ⟨k + 1, by omega, by go_num, by rw [HY.out (by assumption)]⟩
        case measure => simp [intOf]; omega
      · go_round
        case rel => exact ⟨k + 1, by omega, by go_num, by rw [HN.out (by assumption)]⟩
        case measure => simp [intOf]; omega
    · obtain rfl : k = 4 := by omega
      have hl := m1_le0 a (by omega) b (by omega)
      have hM : mulI a b = r1 (m1 a b 4) 3 := rfl
      have HM := Lib.hid hM
      clear hM
      generalize m1 a b 4 = x at *
      go_wp2
      go_loop [5, 7] (fun o i => ∃ (j : Nat), 3 ≤ j ∧ j ≤ 6 ∧ i = .int .i64 j ∧ o = .int .i64 (r1 x (6 - j) : Nat)) (fun _ i => (intOf i).toNat)
      case atStart => exact ⟨6, by omega, by omega, rfl, rfl⟩
      case round =>
        obtain ⟨j, hj, hj2, rfl, rfl⟩ := hrel
        by_cases h4 : 4 ≤ j
        · have hy := r1_yes x hl j (by omega) h4
          have hn := r1_no x hl j (by omega) h4
          have HY := Lib.hid hy
          have HN := Lib.hid hn
          clear hy hn
          go_wp2
          · go_round
            case rel => exact ⟨j - 1, by omega, by omega, int_eq (by omega), by rw [HY.out (by assumption)]⟩
            case measure => simp [intOf]; omega
          · go_round
            case rel => exact ⟨j - 1, by omega, by omega, int_eq (by omega), by rw [HN.out (by assumption)]⟩
            case measure => simp [intOf]; omega
        · obtain rfl : j = 3 := by omega
          go_wp2
          go_ret
          exact ⟨by rw [HM.out]; rfl, rfl⟩

set_option maxHeartbeats 400000 in
theorem inverse_any (a : Int) (w : World) (ha : 1 ≤ a) (ha2 : a ≤ 15) :
    Calls Try.prog 118 #[.int .i64 a] w fun e w' => e = .returned (.int .i64 (invI a)) ∧ w = w' := by
  have hi := invI_bd ha ha2
  have hm := invI_mul ha ha2
  have hf := fun b h1 h2 => invI_first ha ha2 b h1 h2
  have HM := Lib.hid hm
  have HF := Lib.hid hf
  clear hm hf
  generalize invI a = v at *
  go_enter Try.func118, Try.ntmps118
  go_wp2
  go_loop [3] (fun i => ∃ (k : Nat), 1 ≤ k ∧ (k : Int) ≤ v ∧ i = .int .i64 k) (fun i => 16 - (intOf i).toNat)
  case atStart => exact ⟨1, by omega, by omega, rfl⟩
  case round =>
    obtain ⟨k, hk1, hk, rfl⟩ := hrel
    by_cases hlt : (k : Int) < v
    · have hne : (mulI a k != 1) = true := by simpa using HF.out k hlt hk1
      go_wp2_with (go_at_call 116; refine (product_any _ _ _ (by omega) (by omega) (by omega) (by omega)).mono ?_; rintro e w' ⟨rfl, rfl⟩)
      go_round
      case rel => exact ⟨k + 1, by omega, by omega, by go_num⟩
      case measure => simp [intOf]; omega
    · obtain rfl : v = (k : Int) := by omega
      have hne : (mulI a k != 1) = false := by simpa using HM.out
      go_wp2_with (go_at_call 116; refine (product_any _ _ _ (by omega) (by omega) (by omega) (by omega)).mono ?_; rintro e w' ⟨rfl, rfl⟩)
      go_ret
      exact ⟨rfl, rfl⟩

set_option maxHeartbeats 400000 in
theorem sinverse_any (a : Int) (w : World) (ha : 1 ≤ a) (ha2 : a ≤ 15) :
    Calls Try.prog 128 #[.int .i64 a] w fun e w' => e = .returned (.int .i64 (invI a)) ∧ w = w' := by
  have hi := invI_bd ha ha2
  have hm := invI_mul ha ha2
  have hf := fun b h1 h2 => invI_first ha ha2 b h1 h2
  have HM := Lib.hid hm
  have HF := Lib.hid hf
  clear hm hf
  generalize invI a = v at *
  go_enter Try.func128, Try.ntmps128
  go_wp2
  go_loop [3] (fun i => ∃ (k : Nat), 1 ≤ k ∧ (k : Int) ≤ v ∧ i = .int .i64 k) (fun i => 16 - (intOf i).toNat)
  case atStart => exact ⟨1, by omega, by omega, rfl⟩
  case round =>
    obtain ⟨k, hk1, hk, rfl⟩ := hrel
    by_cases hlt : (k : Int) < v
    · have hne : (mulI a k == 1) = false := by simpa using HF.out k hlt hk1
      go_wp2_with (go_at_call 127; refine (times_any _ _ _ (by omega) (by omega) (by omega) (by omega)).mono ?_; rintro e w' ⟨rfl, rfl⟩)
      go_round
      case rel => exact ⟨k + 1, by omega, by omega, by go_num⟩
      case measure => simp [intOf]; omega
    · obtain rfl : v = (k : Int) := by omega
      have hne : (mulI a k == 1) = true := by simpa using HM.out
      go_wp2_with (go_at_call 127; refine (times_any _ _ _ (by omega) (by omega) (by omega) (by omega)).mono ?_; rintro e w' ⟨rfl, rfl⟩)
      go_ret
      exact ⟨rfl, rfl⟩

end Go.Proofs.Ytlemielobmbadaa
