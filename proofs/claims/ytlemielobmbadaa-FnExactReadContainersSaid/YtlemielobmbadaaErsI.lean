/- Walks: is a list one of rising numbers? -/
import Derived.Test.YtlemielobmbadaaErsP
import Derived.Deep.QuietTactic
import Derived.BigQuiet
namespace Go.Proofs.Ytlemielobmbadaa
open Go.RowKit
set_option maxRecDepth 100000

set_option maxHeartbeats 1600000 in
set_option maxRecDepth 100000 in
theorem isSet_any (v : Value) (xs : List Int) (w : World) (h : Rd w v xs) :
    Calls Try.prog 77 #[v, .int .i64 15] w fun e w' => e = .returned (.bool (rising xs 15)) ∧ w = w' := by
  obtain ⟨a, cap, n, HX, rfl, _, hla, ha⟩ := h.opn
  have HN := Lib.hid (fun k => ris_false (xs := xs) (n := 15) (k := k))
  have HSN := Lib.hid (fun k => risTo_snoc xs 15 k)
  go_enter Try.func77, Try.ntmps77
  go_wp2
  go_loop [9] (fun i => ∃ k : Nat, k ≤ n ∧ i = .int .i64 k ∧ Hid (risTo xs 15 k = true)) (fun i => n - (intOf i).toNat)
  case atStart => exact ⟨0, by omega, rfl, rfl⟩
  case round =>
    obtain ⟨k, hk, rfl, HT⟩ := hrel
    by_cases hlt : k < n
    · obtain ⟨b, off, rfl, _, hc⟩ := ha (by omega)
      have hcell := hc k hlt
      rcases k with _ | k
      · clear hc
        rw [Nat.add_zero] at hcell
        cases he : inB (xs[0]?.getD 0) 0 14
        · have HF := Lib.hid (HN.out 0 (by rw [HX.out]; exact hlt) (by simp [risAt, he]))
          go_wp2_with (go_at_call 68; refine (within_any _ _ _ _).mono ?_; rintro e w' ⟨rfl, rfl⟩)
          go_ret
          exact ⟨by rw [HF.out]; rfl, rfl⟩
        · have HS := Lib.hid (show risTo xs 15 1 = true by rw [HSN.out]; simp [HT.out, risAt, he])
          go_wp2_with (go_at_call 68; refine (within_any _ _ _ _).mono ?_; rintro e w' ⟨rfl, rfl⟩)
          go_round
          case rel => exact ⟨1, by omega, by go_num, HS.out⟩
          case measure => simp [intOf]; omega
      · have hcell0 := hc k (by omega)
        clear hc
        cases he : inB (xs[k + 1]?.getD 0) 0 14
        · have HF := Lib.hid (HN.out (k + 1) (by rw [HX.out]; exact hlt) (by simp [risAt, he]))
          go_wp2_with (go_at_call 68; refine (within_any _ _ _ _).mono ?_; rintro e w' ⟨rfl, rfl⟩)
          go_ret
          exact ⟨by rw [HF.out]; rfl, rfl⟩
        · by_cases hlt2 : xs[k]?.getD 0 < xs[k + 1]?.getD 0
          · have HS := Lib.hid (show risTo xs 15 (k + 1 + 1) = true by rw [HSN.out]; simp [HT.out, risAt, he, hlt2])
            go_wp2_with (go_at_call 68; refine (within_any _ _ _ _).mono ?_; rintro e w' ⟨rfl, rfl⟩)
            go_round
            case rel => exact ⟨k + 1 + 1, by omega, by go_num, HS.out⟩
            case measure => simp [intOf]; omega
          · have HF := Lib.hid (HN.out (k + 1) (by rw [HX.out]; exact hlt) (by simp [risAt, he]; omega))
            go_wp2_with (go_at_call 68; refine (within_any _ _ _ _).mono ?_; rintro e w' ⟨rfl, rfl⟩)
            go_ret
            exact ⟨by rw [HF.out]; rfl, rfl⟩
    · obtain rfl : k = n := by omega
      have HH := Lib.hid (show rising xs 15 = true by unfold rising; rw [HX.out]; exact HT.out)
      go_wp2
      go_ret
      exact ⟨by rw [HH.out]; rfl, rfl⟩

set_option maxHeartbeats 800000 in
set_option maxRecDepth 100000 in
theorem clone_any (v : Value) (xs : List Int) (w : World) (h : Rd w v xs) (h0 : 0 < xs.length) (hl : xs.length ≤ 1000000) :
    Calls Try.prog 88 #[v] w fun e w' => ∃ v', e = .returned v' ∧ Own w' w.heap.size v' xs ∧ Below w.heap.size w w' := by
  have hrd := h.belowAll (((Below.refl _ _).alloc (Nat.le_refl _) _ : Below w.heap.size w (w.alloc (.cells #[] 3))))
  have hown0 : (w.alloc (.cells #[] 3)).ownsRow w.heap.size 3 1 (.slice (some ⟨w.heap.size, 0, none⟩) 0 0) 0 (ints []) :=
    World.ownsRow_lit (base := w.heap.size) (e := 3) (size := 1) w #[] 0 (Nat.le_refl _) (by simp) rfl
  obtain ⟨a, cap, n, HX, rfl, _, _, ha⟩ := h.opn
  obtain ⟨b, off, rfl, _, _⟩ := ha (by rw [← HX.out]; exact h0)
  have hnil : ∀ w : World, (binOp .eql 24 (.slice (some ⟨b, off, none⟩) n cap) (.slice none 0 0)).run Try.prog w = .ok (.bool false) w := fun _ => rfl
  go_enter Try.func88, Try.ntmps88
  go_wp2_with (at_builtin; refine wpList_cat rfl (.tmp 5) (.tmp 6) 24 rfl Try.underlying24 Try.infoInt w.heap.size (.slice (some ⟨w.heap.size, 0, none⟩) 0 0) 0 [] rfl hown0 _ xs rfl hrd h0 (by omega) (by simp) ?_; intro v' w1 hown1 hgrow1)
  go_ret
  exact ⟨_, rfl, own_of_row hown1, ((Below.refl _ _).alloc (Nat.le_refl _) _).grown hgrow1 (by simp) (fun k hk => by have e : w.heap.size = k := (by simpa [Value.ownBlock] using hk); exact Nat.le_of_eq e)⟩
end Go.Proofs.Ytlemielobmbadaa
