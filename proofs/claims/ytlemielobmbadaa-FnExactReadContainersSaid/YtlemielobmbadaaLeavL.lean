/- The walks of the laws on interleaving. -/
import Derived.Test.YtlemielobmbadaaLeavD
namespace Go.Proofs.Ytlemielobmbadaa
open Go.RowKit

theorem turn_len (xs : List Int) (r c : Nat) : (turn xs r c).length = r * c := by simp [turn]
theorem interL_len (xs : List Int) (rows : Int) : (interL xs rows).length ≤ xs.length := by
  unfold interL
  split
  · rename_i h
    have := (tblOk_parts h).2.2.2
    rw [turn_len]; omega
  · simp
theorem deintL_len (xs : List Int) (rows : Int) : (deintL xs rows).length ≤ xs.length := by
  unfold deintL
  split
  · rename_i h
    have := (tblOk_parts h).2.2.2
    rw [turn_len, Nat.mul_comm]; omega
  · simp

end Go.Proofs.Ytlemielobmbadaa
