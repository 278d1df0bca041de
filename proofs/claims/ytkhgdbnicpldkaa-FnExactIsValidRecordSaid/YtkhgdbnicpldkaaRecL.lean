/- The law of IsValidRecord. -/
import Derived.Test.YtkhgdbnicpldkaaRecW
namespace Go.Proofs.Ytkhgdbnicpldkaa
open Go.RowKit

/-- How much is left of a bound. -/
def szRec (c r : ByteArray) (left : Int) : Int := if left - (c.size : Int) - (r.size : Int) < 0 then -1 else left - (c.size : Int) - (r.size : Int)
theorem szRec_any (c r : ByteArray) (left : Int) (w : World) (hc : c.size ≤ maxLen) (hr : r.size ≤ maxLen) (hl : 0 ≤ left) (hl2 : left ≤ 1048576) :
    Calls Try.prog 4 #[.agg #[.string c, .string r], .int .i64 left] w fun e w' => e = .returned (.int .i64 (szRec c r left)) ∧ Below w.heap.size w w' := by
  unfold maxLen at hc hr
  have hB := (Below.refl w.heap.size w).alloc (Nat.le_refl _) (.cells #[.string c, .string r] 23)
  by_cases h1 : left - (c.size : Int) < 0
  · have HS := Lib.hid (show szRec c r left = -1 from by unfold szRec; rw [if_pos (by omega)])
    go_enter Try.func4, Try.ntmps4
    go_wp2
    go_ret
    exact ⟨by rw [HS.out]; rfl, hB⟩
  · by_cases h2 : left - (c.size : Int) - (r.size : Int) < 0
    · have HS := Lib.hid (show szRec c r left = -1 from by unfold szRec; rw [if_pos h2])
      go_enter Try.func4, Try.ntmps4
      go_wp2
      go_ret
      exact ⟨by rw [HS.out]; rfl, hB⟩
    · have HS := Lib.hid (show szRec c r left = left - (c.size : Int) - (r.size : Int) from by unfold szRec; rw [if_neg h2])
      go_enter Try.func4, Try.ntmps4
      go_wp2
      go_ret
      exact ⟨by rw [HS.out]; rfl, hB⟩
theorem toRec_any (c r : ByteArray) (w : World) :
    Calls Try.prog 6 #[.agg #[.string c, .string r]] w fun e w' => e = .returned (.agg #[.string c, .string r]) ∧ Below w.heap.size w w' := by
  have hB := (Below.refl w.heap.size w).alloc (Nat.le_refl _) (.cells #[.string c, .string r] 23)
  go_enter Try.func6, Try.ntmps6
  go_wp2
  exact bodyPost_ret (v := .agg #[.string c, .string r]) (by simp [results, Try.results6, go_sem]) rfl ⟨rfl, (hB.alloc hB.size _).alloc (by simp; omega) _⟩

theorem FnExactIsValidRecord_walk (c r : ByteArray) (w : World) (hc : c.size ≤ maxLen) (hr : r.size ≤ maxLen) :
    Calls Try.prog 3 #[.agg #[.string c, .string r]] w fun e w' => e = .returned (.bool true) ∧ Below w.heap.size w w' := by
  have hB := (Below.refl w.heap.size w).alloc (Nat.le_refl _) (.cells #[.string c, .string r] 23)
  have hsz := hB.size
  by_cases h1 : szRec c r 1048576 < 0
  · have h1d : decide (szRec c r 1048576 < 0) = true := by simpa using h1
    have HZ := Lib.hid (szRec_any c r 1048576 (w.alloc (.cells #[.string c, .string r] 23)) hc hr (by omega) (by omega))
    generalize szRec c r 1048576 = z at *
    go_enter Try.func3, Try.ntmps3
    go_wp2_with (go_at_call 4; refine (HZ.out).mono ?_; rintro e w1 ⟨rfl, b1⟩)
    go_ret
    exact ⟨rfl, hB.trans (b1.mono hsz)⟩
  · have h1d : decide (szRec c r 1048576 < 0) = false := by simpa using h1
    have HZ := Lib.hid (szRec_any c r 1048576 (w.alloc (.cells #[.string c, .string r] 23)) hc hr (by omega) (by omega))
    have heq : (recOk c r != recOk c r) = false := by simp
    have HS := Lib.hid (fun w => specIsRec_any c r w hc hr)
    have HI := Lib.hid (fun w => implIsRec_any c r w hc hr)
    generalize szRec c r 1048576 = z at *
    generalize recOk c r = b at *
    have hcell : ∀ w1, Below (w.alloc (.cells #[.string c, .string r] 23)).heap.size (w.alloc (.cells #[.string c, .string r] 23)) w1 → w1.cell? ⟨w.heap.size, 0, none⟩ = some (.string c) ∧ w1.cell? ⟨w.heap.size, 1, none⟩ = some (.string r) := fun w1 hb => by
      rw [hb.cell (p := ⟨w.heap.size, 0, none⟩) (by simp), hb.cell (p := ⟨w.heap.size, 1, none⟩) (by simp), cell_of_row _ _ _ _ _ _ (heap_alloc_new w _), cell_of_row _ _ _ _ _ _ (heap_alloc_new w _)]
      exact ⟨rfl, rfl⟩
    have HC := Lib.hid hcell
    clear hcell
    go_enter Try.func3, Try.ntmps3
    go_wp2_with fail
    refine (HZ.out).mono ?_
    rintro e w1 ⟨rfl, b1⟩
    obtain ⟨c0, c1⟩ := HC.out w1 b1
    go_wp2_with fail
    refine (toRec_any c r _).mono ?_
    rintro e w2 ⟨rfl, b2⟩
    go_wp2_with fail
    refine (HS.out _).mono ?_
    rintro e w3 ⟨rfl, b3⟩
    have B3 := (b1.trans (b2.mono b1.size)).trans (b3.mono (b1.trans (b2.mono b1.size)).size)
    obtain ⟨d0, d1⟩ := HC.out w3 B3
    go_wp2_with fail
    refine (toRec_any c r _).mono ?_
    rintro e w4 ⟨rfl, b4⟩
    go_wp2_with fail
    refine (HI.out _).mono ?_
    rintro e w5 ⟨rfl, b5⟩
    have B5 := (B3.trans (b4.mono B3.size)).trans (b5.mono (B3.trans (b4.mono B3.size)).size)
    go_wp2
    go_ret
    exact ⟨rfl, hB.trans (B5.mono hsz)⟩
end Go.Proofs.Ytkhgdbnicpldkaa
