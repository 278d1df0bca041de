/- Plain Lean: tables of symbols read column by column. No program in sight. -/
import Derived.Test.YtlemielobmbadaaSymP
import Derived.Test.YtlemielobmbadaaInt
namespace Go.Proofs.Ytlemielobmbadaa
open Go.RowKit

/-- All numbers of a list are symbols. -/
def symL (xs : List Int) : Bool := xs.all fun x => inB x 0 15
theorem symL_nil : symL [] = true := rfl
theorem symL_snoc (xs : List Int) (x : Int) : symL (xs ++ [x]) = (symL xs && inB x 0 15) := by simp [symL]
theorem symL_take_false {xs : List Int} {k : Nat} (hk : k < xs.length) (h : inB (xs[k]?.getD 0) 0 15 = false) : symL xs = false := by
  simp only [symL, List.all_eq_false]
  refine ⟨xs[k], List.getElem_mem hk, ?_⟩
  simp [List.getElem?_eq_getElem hk] at h
  simp [h]
theorem symL_get {xs : List Int} (h : symL xs = true) (k : Nat) (hk : k < xs.length) : inB (xs[k]?.getD 0) 0 15 = true := by
  simp only [symL, List.all_eq_true] at h
  rw [List.getElem?_eq_getElem hk]
  exact h _ (List.getElem_mem hk)

def tblOk (xs : List Int) (rows : Int) : Bool := inB rows 1 8 && decide ((xs.length : Int) ≤ 120) && symL xs && decide ((xs.length : Int) % rows = 0)

theorem tblOk_of {xs : List Int} {rows : Int} {b1 b2 b3 b4 : Bool} (h1 : inB rows 1 8 = b1) (h2 : decide ((xs.length : Int) ≤ 120) = b2) (h3 : symL xs = b3) (h4 : decide ((xs.length : Int) % rows = 0) = b4) : tblOk xs rows = (b1 && b2 && b3 && b4) := by
  simp [tblOk, ← h1, ← h2, ← h3, ← h4]
theorem tblOk_parts {xs : List Int} {rows : Int} (h : tblOk xs rows = true) : (1 ≤ rows ∧ rows ≤ 8) ∧ xs.length ≤ 120 ∧ symL xs = true ∧ rows.toNat * (xs.length / rows.toNat) = xs.length := by
  simp only [tblOk, Bool.and_eq_true, decide_eq_true_eq] at h
  obtain ⟨⟨⟨h1, h2⟩, h3⟩, h4⟩ := h
  have hb := inB_true h1
  refine ⟨hb, by omega, h3, ?_⟩
  obtain ⟨r, rfl⟩ := Int.eq_ofNat_of_zero_le (show 0 ≤ rows by omega)
  simp only [Int.toNat_natCast]
  exact Nat.mul_div_cancel' (Nat.dvd_of_mod_eq_zero (by omega))


/-- The table with so many rows and columns, column by column. -/
def turn (xs : List Int) (rows cols : Nat) : List Int := (List.range (rows * cols)).map fun j => xs[j % rows * cols + j / rows]?.getD 0
/-- Behind k whole columns and i elements of the next. -/
def turnTo (xs : List Int) (rows cols k i : Nat) : List Int := (List.range (k * rows + i)).map fun j => xs[j % rows * cols + j / rows]?.getD 0
theorem turnTo_len (xs : List Int) (rows cols k i : Nat) : (turnTo xs rows cols k i).length = k * rows + i := by simp [turnTo]
theorem turnTo_step (xs : List Int) (rows cols k i : Nat) (hi : i < rows) : turnTo xs rows cols k (i + 1) = turnTo xs rows cols k i ++ [xs[i * cols + k]?.getD 0] := by
  unfold turnTo
  rw [← Nat.add_assoc, List.range_succ, List.map_append]
  congr 1
  simp only [List.map_cons, List.map_nil]
  rw [Nat.mul_comm k rows, Nat.mul_add_mod, Nat.mod_eq_of_lt hi, Nat.mul_add_div (by omega), Nat.div_eq_of_lt hi]
  rfl
theorem turnTo_next (xs : List Int) (rows cols k : Nat) : turnTo xs rows cols k rows = turnTo xs rows cols (k + 1) 0 := by
  unfold turnTo; congr 2; rw [Nat.add_mul]; omega
theorem turnTo_all (xs : List Int) (rows cols : Nat) : turnTo xs rows cols cols 0 = turn xs rows cols := by
  unfold turnTo turn; congr 2; rw [Nat.mul_comm]; rfl
theorem idx_lt {r c i k : Nat} (hi : i < r) (hk : k < c) : i * c + k < r * c := by
  have : (i + 1) * c ≤ r * c := Nat.mul_le_mul_right c hi
  rw [Nat.add_mul] at this; omega

def interL (xs : List Int) (rows : Int) : List Int := if tblOk xs rows then turn xs rows.toNat (xs.length / rows.toNat) else []
def deintL (xs : List Int) (rows : Int) : List Int := if tblOk xs rows then turn xs (xs.length / rows.toNat) rows.toNat else []

end Go.Proofs.Ytlemielobmbadaa
