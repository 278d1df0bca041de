/- The walks of the laws on products and inverses of symbols. -/
import Derived.Test.YtphppdcdlhmmiaaSymW
import Derived.RowKit3
namespace Go.Proofs.Ytphppdcdlhmmiaa
open Go.RowKit

theorem FnExactMultiplySymbols_walk (a b : Int) (_ha : (Lit.int .i64 a).wf = true) (_hb : (Lit.int .i64 b).wf = true) (w : World) :
    Calls Try.prog 3 #[.int .i64 a, .int .i64 b] w fun e w' => e = .returned (.bool true) ∧ Grown w w' := by
  have h1 : (mulS a b != mulS a b) = false := by simp
  have h2 : (mulOk a b != mulOk a b) = false := by simp
  go_enter Try.func3, Try.ntmps3
  go_wp2_with (first | (go_at_call 16; refine (specMul_any _ _ _).mono ?_; rintro e w' ⟨rfl, rfl⟩) | (go_at_call 17; refine (implMul_any _ _ _).mono ?_; rintro e w' ⟨rfl, rfl⟩))
  go_ret
  exact ⟨rfl, Grown.refl _⟩

theorem FnExactInverseSymbol_walk (a : Int) (_ha : (Lit.int .i64 a).wf = true) (w : World) :
    Calls Try.prog 4 #[.int .i64 a] w fun e w' => e = .returned (.bool true) ∧ Grown w w' := by
  have h1 : (invS a != invS a) = false := by simp
  have h2 : (invOk a != invOk a) = false := by simp
  go_enter Try.func4, Try.ntmps4
  go_wp2_with (first | (go_at_call 18; refine (specInv_any _ _).mono ?_; rintro e w' ⟨rfl, rfl⟩) | (go_at_call 19; refine (implInv_any _ _).mono ?_; rintro e w' ⟨rfl, rfl⟩))
  go_ret
  exact ⟨rfl, Grown.refl _⟩
end Go.Proofs.Ytphppdcdlhmmiaa
