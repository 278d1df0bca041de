/- Walks: SyndromesOf, and its law. -/
import Derived.Test.YtlemielobmbadaaSynW
import Derived.Test.YtlemielobmbadaaLeavL
namespace Go.Proofs.Ytlemielobmbadaa
open Go.RowKit

theorem isCode_any (v : Value) (xs : List Int) (w : World) (h : Rd w v xs) :
    Calls Try.prog 75 #[v] w fun e w' => e = .returned (.bool (blkOk xs)) ∧ w = w' := by
  obtain ⟨a, cap, n, HX, rfl, _, hla, _⟩ := h.opn
  have HT := Lib.hid (show ∀ b1 b2 : Bool, decide (n = 15) = b1 → symL xs = b2 → blkOk xs = (b1 && b2) from fun b1 b2 h1 h2 => by rw [← h1, ← h2, ← HX.out]; rfl)
  generalize blkOk xs = r at *
  by_cases h1 : n = 15
  · subst h1
    cases h2 : symL xs
    all_goals
      have HE := Lib.hid (HT.out true _ (by simp) h2)
      go_enter Try.func75, Try.ntmps75
      go_wp2_with (go_at_call 69; refine (areSymbols_any _ xs _ h).mono ?_; rintro e w' ⟨rfl, rfl⟩)
      go_ret
      exact ⟨by rw [HE.out]; rfl, rfl⟩
  · have h3 : ((n : Int) == 15) = false := by rw [beq_eq_false_iff_ne]; omega
    have HE := Lib.hid (HT.out false _ (by simp [h1]) rfl)
    go_enter Try.func75, Try.ntmps75
    go_wp2
    go_ret
    exact ⟨by rw [HE.out]; rfl, rfl⟩

theorem l24Block_any (v : Value) (xs : List Int) (w : World) (h : Rd w v xs) :
    Calls Try.prog 81 #[v] w fun e w' => e = .returned (.bool (blkOk xs)) ∧ w = w' := by
  obtain ⟨a, cap, n, HX, rfl, _, hla, _⟩ := h.opn
  have HT := Lib.hid (show ∀ b1 b2 : Bool, decide (n = 15) = b1 → symL xs = b2 → blkOk xs = (b1 && b2) from fun b1 b2 h1 h2 => by rw [← h1, ← h2, ← HX.out]; rfl)
  generalize blkOk xs = r at *
  by_cases h1 : n = 15
  · subst h1
    cases h2 : symL xs
    all_goals
      have HE := Lib.hid (HT.out true _ (by simp) h2)
      go_enter Try.func81, Try.ntmps81
      go_wp2_with (go_at_call 72; refine (l24Symbols_any _ xs _ h).mono ?_; rintro e w' ⟨rfl, rfl⟩)
      go_ret
      exact ⟨by rw [HE.out]; rfl, rfl⟩
  · have h3 : ((n : Int) == 15) = false := by rw [beq_eq_false_iff_ne]; omega
    have HE := Lib.hid (HT.out false _ (by simp [h1]) rfl)
    go_enter Try.func81, Try.ntmps81
    go_wp2
    go_ret
    exact ⟨by rw [HE.out]; rfl, rfl⟩

theorem blkOk_parts {xs : List Int} (h : blkOk xs = true) : xs.length = 15 ∧ symL xs = true := by simpa [blkOk] using h

theorem implSyn_any (v : Value) (xs : List Int) (w : World) (h : Rd w v xs) :
    Calls Try.prog 23 #[v] w fun e w' => ∃ v', e = .returned (.tuple #[v', .bool (blkOk xs)]) ∧ Own w' w.heap.size v' (synR xs) ∧ Below w.heap.size w w' := by
  cases hb : blkOk xs
  · have hR : synR xs = [] := by simp [synR, hb]
    rw [hR]
    go_enter Try.func23, Try.ntmps23
    go_wp2_with (go_at_call 75; refine (isCode_any _ xs _ h).mono ?_; rintro e w' ⟨rfl, rfl⟩)
    go_ret2
    exact ⟨_, rfl, own_nil, Below.refl _ _⟩
  · have hR : synR xs = syn xs := by simp [synR, hb]
    rw [hR]
    have hp := blkOk_parts hb
    have HP := Lib.hid hp
    clear hp hR
    go_enter Try.func23, Try.ntmps23
    go_wp2_with (first | (go_at_call 75; refine (isCode_any _ xs _ h).mono ?_; rintro e w' ⟨rfl, rfl⟩) | (go_at_call 76; refine (iSyn_any _ xs _ h HP.out.2 (by rw [HP.out.1]; omega)).mono ?_; rintro e w1 ⟨rfl, hbel⟩))
    go_ret2
    have hsz := hbel.size
    exact ⟨_, rfl, .inr ⟨w1.heap.size, 0, 4, _, by simp [syn_len], hsz, ⟨_, heap_alloc_new w1 _⟩, by simp [syn_len], by unfold maxLen; omega, by simp, by simp [syn, List.range_succ]⟩, hbel.alloc hsz _⟩
end Go.Proofs.Ytlemielobmbadaa
