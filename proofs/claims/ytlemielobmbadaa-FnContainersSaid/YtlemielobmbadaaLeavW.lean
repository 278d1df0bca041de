/- Walks: interleaving. -/
import Derived.Test.YtlemielobmbadaaBa04
import Derived.Test.YtlemielobmbadaaBa08
import Derived.Test.YtlemielobmbadaaIntW
namespace Go.Proofs.Ytlemielobmbadaa
open Go.RowKit

set_option maxHeartbeats 800000 in
theorem l24Symbols_any (v : Value) (xs : List Int) (w : World) (h : Rd w v xs) :
    Calls Try.prog 72 #[v] w fun e w' => e = .returned (.bool (symL xs)) ∧ w = w' := by
  obtain ⟨a, cap, n, HX, rfl, _, hla, ha⟩ := h.opn
  have HN := Lib.hid (fun k => symL_take_false (xs := xs) (k := k))
  go_enter Try.func72, Try.ntmps72
  go_wp2
  go_loop [3] (fun i => ∃ k : Nat, k ≤ n ∧ i = .int .i64 k ∧ Hid (symL (xs.take k) = true)) (fun i => n - (intOf i).toNat)
  case atStart => exact ⟨0, by omega, rfl, rfl⟩
  case round =>
    obtain ⟨k, hk, rfl, HT⟩ := hrel
    by_cases hlt : k < n
    · obtain ⟨b, off, rfl, _, hc⟩ := ha (by omega)
      have hcell := hc k hlt
      clear hc
      cases he : inB (xs[k]?.getD 0) 0 15
      · go_wp2_with (go_at_call 71; refine (l1In_any _ _ _ _).mono ?_; rintro e w' ⟨rfl, rfl⟩)
        go_ret
        exact ⟨by rw [HN.out k (by rw [HX.out]; exact hlt) he]; rfl, rfl⟩
      · go_wp2_with (go_at_call 71; refine (l1In_any _ _ _ _).mono ?_; rintro e w' ⟨rfl, rfl⟩)
        go_round
        case rel => exact ⟨k + 1, by omega, by go_num, by rw [take_succ' _ _ (by rw [HX.out]; exact hlt), symL_snoc, HT.out, he]; rfl⟩
        case measure => simp [intOf]; omega
    · obtain rfl : k = n := by omega
      have hh := HT.out
      rw [← HX.out, List.take_length] at hh
      have HH := Lib.hid hh
      clear hh
      go_wp2
      go_ret
      exact ⟨by rw [HH.out]; rfl, rfl⟩

set_option maxHeartbeats 800000 in
theorem l24Turn_any (v : Value) (xs : List Int) (rows cols : Nat) (w : World) (h : Rd w v xs) (hl : rows * cols = xs.length) (hr : rows ≤ 1000) (hc0 : cols ≤ 1000) :
    Calls Try.prog 67 #[v, .int .i64 rows, .int .i64 cols] w fun e w' => ∃ v', e = .returned v' ∧ Own w' w.heap.size v' (turn xs rows cols) ∧ Below w.heap.size w w' := by
  obtain ⟨a, cap, n, HX, rfl, _, hla, ha⟩ := h.opn
  rw [HX.out] at hl
  have hmul : rows * cols ≤ 1000 * 1000 := Nat.mul_le_mul hr hc0
  have HL := Lib.hid hl
  clear hl
  go_enter Try.func67, Try.ntmps67
  go_wp2
  have h0 : (w.alloc (.cells #[] 3)).ownsRow w.heap.size 3 1 (.slice (some ⟨w.heap.size, 0, none⟩) 0 0) (0 * rows + 0) (ints (turnTo xs rows cols 0 0)) := by
    have := World.ownsRow_lit (base := w.heap.size) (e := 3) (size := 1) w #[] 0 (Nat.le_refl _) (by simp) rfl
    simpa [turnTo] using this
  have hb0 : Below w.heap.size w (w.alloc (.cells #[] 3)) := (Below.refl _ _).alloc (Nat.le_refl _) _
  go_loopw [7, 8] (fun o i wr => ∃ k : Nat, k ≤ cols ∧ i = .int .i64 k ∧ wr.ownsRow w.heap.size 3 1 o (k * rows + 0) (ints (turnTo xs rows cols k 0)) ∧ Below w.heap.size w wr) (fun _ i _ => cols - (intOf i).toNat)
  case atStart => exact ⟨0, by omega, rfl, h0, hb0⟩
  case round =>
    obtain ⟨k, hk, rfl, hown, hbel⟩ := hrel
    by_cases hlt : k < cols
    · go_wp2
      go_loopw [7, 9] (fun o i wr => ∃ j : Nat, j ≤ rows ∧ i = .int .i64 j ∧ wr.ownsRow w.heap.size 3 1 o (k * rows + j) (ints (turnTo xs rows cols k j)) ∧ Below w.heap.size w wr) (fun _ i _ => rows - (intOf i).toNat)
      case atStart => exact ⟨0, by omega, rfl, hown, hbel⟩
      case round =>
        obtain ⟨j, hj, rfl, hown, hbel⟩ := hrel
        by_cases hlt2 : j < rows
        · have hix := idx_lt (r := rows) (c := cols) hlt2 hlt
          rw [HL.out] at hix
          have hj2 : j * cols ≤ 1000 * 1000 := Nat.mul_le_mul (by omega) hc0
          have hk2 : k * rows ≤ 1000 * 1000 := Nat.mul_le_mul (by omega) hr
          have hj3 : (0 : Int) ≤ (j : Int) * (cols : Int) := Int.mul_nonneg (by omega) (by omega)
          have hj4 : (j : Int) * (cols : Int) ≤ 1000000 := by rw [← Int.natCast_mul]; omega
          obtain ⟨b, off, rfl, hbs, hc⟩ := ha (by omega)
          have hcell := hc _ hix
          rw [← hbel.cell (p := ⟨b, off + (j * cols + k), none⟩) hbs] at hcell
          have HS := Lib.hid (turnTo_step xs rows cols k j hlt2)
          clear hc
          have hsz := hbel.size
          go_wp2_with (at_builtin; refine wpList_push rfl (.tmp 21) (.tmp 30) 24 rfl Try.underlying24 Try.infoInt w.heap.size _ (k * rows + j) (turnTo xs rows cols k j) rfl hown rfl (by omega) hsz ?_; intro v' w1 hown1 hgrow1)
          have hb1 := below_push hbel hown hgrow1 (Nat.le_refl _) hsz
          rw [← HS.out] at hown1
          clear hown hgrow1 hcell hix hbel
          go_wp2
          go_roundw
          case rel => exact ⟨j + 1, by omega, by go_num, hown1, hb1⟩
          case measure => simp [intOf]; omega
        · obtain rfl : j = rows := by omega
          rw [turnTo_next] at hown
          have e : k * j + j = (k + 1) * j + 0 := by rw [Nat.add_mul]; omega
          rw [e] at hown
          clear e
          go_wp2
          go_roundw
          case rel => exact ⟨k + 1, by omega, by go_num, hown, hbel⟩
          case measure => simp [intOf]; omega
    · obtain rfl : k = cols := by omega
      go_wp2
      go_ret
      exact ⟨_, rfl, by rw [← turnTo_all]; exact own_of_row hown, hbel⟩

set_option maxHeartbeats 800000 in
theorem l24Table_any (v : Value) (xs : List Int) (rows : Int) (w : World) (h : Rd w v xs) :
    Calls Try.prog 66 #[v, .int .i64 rows] w fun e w' => e = .returned (.bool (tblOk xs rows)) ∧ w = w' := by
  obtain ⟨a, cap, n, HX, rfl, _, hla, _⟩ := h.opn
  have ht := fun (b1 b2 b3 b4 : Bool) h1 h2 h3 h4 => tblOk_of (xs := xs) (rows := rows) (b1 := b1) (b2 := b2) (b3 := b3) (b4 := b4) h1 h2 h3 h4
  rw [HX.out] at ht
  have HT := Lib.hid ht
  clear ht
  generalize tblOk xs rows = r at *
  by_cases h1 : (n : Int) ≤ 120
  case neg =>
    have h1d : decide ((n : Int) ≤ 120) = false := by simpa using h1
    have e := HT.out _ false _ _ rfl h1d rfl rfl
    simp only [Bool.false_and, Bool.and_false, Bool.true_and] at e
    have HE := Lib.hid e
    clear e
    go_enter Try.func66, Try.ntmps66
    go_wp2_with (first | (go_at_call 72; refine (l24Symbols_any _ xs _ h).mono ?_; rintro e w' ⟨rfl, rfl⟩) | (go_at_call 71; refine (l1In_any _ _ _ _).mono ?_; rintro e w' ⟨rfl, rfl⟩))
    go_ret
    exact ⟨by rw [HE.out]; rfl, rfl⟩
  by_cases h2 : symL xs = true
  case neg =>
    have h2 : symL xs = false := by simpa using h2
    have e := HT.out _ true false _ rfl (decide_eq_true h1) h2 rfl
    simp only [Bool.false_and, Bool.and_false, Bool.true_and] at e
    have HE := Lib.hid e
    clear e
    go_enter Try.func66, Try.ntmps66
    go_wp2_with (first | (go_at_call 72; refine (l24Symbols_any _ xs _ h).mono ?_; rintro e w' ⟨rfl, rfl⟩) | (go_at_call 71; refine (l1In_any _ _ _ _).mono ?_; rintro e w' ⟨rfl, rfl⟩))
    go_ret
    exact ⟨by rw [HE.out]; rfl, rfl⟩
  by_cases h3 : inB rows 1 8 = true
  case neg =>
    have h3 : inB rows 1 8 = false := by simpa using h3
    have e := HT.out false true true _ h3 (decide_eq_true h1) h2 rfl
    simp only [Bool.false_and, Bool.and_false, Bool.true_and] at e
    have HE := Lib.hid e
    clear e
    go_enter Try.func66, Try.ntmps66
    go_wp2_with (first | (go_at_call 72; refine (l24Symbols_any _ xs _ h).mono ?_; rintro e w' ⟨rfl, rfl⟩) | (go_at_call 71; refine (l1In_any _ _ _ _).mono ?_; rintro e w' ⟨rfl, rfl⟩))
    go_ret
    exact ⟨by rw [HE.out]; rfl, rfl⟩
  have hb := inB_true h3
  have hr0 : (1 : Int) ≤ rows := hb.1
  by_cases h4 : (n : Int) % rows = 0
  · have h5 : ((n : Int) % rows == 0) = true := by simpa using h4
    have e := HT.out true true true true h3 (decide_eq_true h1) h2 (decide_eq_true h4)
    have HE := Lib.hid e
    clear e h4
    go_enter Try.func66, Try.ntmps66
    go_wp2_with (first | (go_at_call 72; refine (l24Symbols_any _ xs _ h).mono ?_; rintro e w' ⟨rfl, rfl⟩) | (go_at_call 71; refine (l1In_any _ _ _ _).mono ?_; rintro e w' ⟨rfl, rfl⟩))
    go_ret
    exact ⟨by rw [HE.out]; rfl, rfl⟩
  · have h5 : ((n : Int) % rows == 0) = false := by simpa using h4
    have e := HT.out true true true false h3 (decide_eq_true h1) h2 (decide_eq_false h4)
    have HE := Lib.hid e
    clear e h4
    go_enter Try.func66, Try.ntmps66
    go_wp2_with (first | (go_at_call 72; refine (l24Symbols_any _ xs _ h).mono ?_; rintro e w' ⟨rfl, rfl⟩) | (go_at_call 71; refine (l1In_any _ _ _ _).mono ?_; rintro e w' ⟨rfl, rfl⟩))
    go_ret
    exact ⟨by rw [HE.out]; rfl, rfl⟩
end Go.Proofs.Ytlemielobmbadaa
