/- Walks: how much a record holds; a record taken over. -/
import Derived.Test.YtkhgdbnicpldkaaDoorRecW
namespace Go.Proofs.YtkhgdbnicpldkaaDoor
open Go.RowKit

/-- How much is left of a bound. -/
def szRec (c r : ByteArray) (left : Int) : Int := if left - (c.size : Int) - (r.size : Int) < 0 then -1 else left - (c.size : Int) - (r.size : Int)
theorem szRec_any (c r : ByteArray) (left : Int) (w : World) (hc : c.size ≤ maxLen) (hr : r.size ≤ maxLen) (hl : 0 ≤ left) (hl2 : left ≤ 1048576) :
    Calls Tryd.prog 13 #[.agg #[.string c, .string r], .int .i64 left] w fun e w' => e = .returned (.int .i64 (szRec c r left)) ∧ Below w.heap.size w w' := by
  unfold maxLen at hc hr
  have hB := (Below.refl w.heap.size w).alloc (Nat.le_refl _) (.cells #[.string c, .string r] 23)
  by_cases h1 : left - (c.size : Int) < 0
  · have HS := Lib.hid (show szRec c r left = -1 from by unfold szRec; rw [if_pos (by omega)])
    go_enter Tryd.func13, Tryd.ntmps13
    go_wp2
    go_ret
    exact ⟨by rw [HS.out]; rfl, hB⟩
  · by_cases h2 : left - (c.size : Int) - (r.size : Int) < 0
    · have HS := Lib.hid (show szRec c r left = -1 from by unfold szRec; rw [if_pos h2])
      go_enter Tryd.func13, Tryd.ntmps13
      go_wp2
      go_ret
      exact ⟨by rw [HS.out]; rfl, hB⟩
    · have HS := Lib.hid (show szRec c r left = left - (c.size : Int) - (r.size : Int) from by unfold szRec; rw [if_neg h2])
      go_enter Tryd.func13, Tryd.ntmps13
      go_wp2
      go_ret
      exact ⟨by rw [HS.out]; rfl, hB⟩
theorem toRec_any (c r : ByteArray) (w : World) :
    Calls Tryd.prog 15 #[.agg #[.string c, .string r]] w fun e w' => e = .returned (.agg #[.string c, .string r]) ∧ Below w.heap.size w w' := by
  have hB := (Below.refl w.heap.size w).alloc (Nat.le_refl _) (.cells #[.string c, .string r] 23)
  go_enter Tryd.func15, Tryd.ntmps15
  go_wp2
  exact bodyPost_ret (v := .agg #[.string c, .string r]) (by simp [results, Tryd.results15, go_sem]) rfl ⟨rfl, (hB.alloc hB.size _).alloc (by simp; omega) _⟩

end Go.Proofs.YtkhgdbnicpldkaaDoor
