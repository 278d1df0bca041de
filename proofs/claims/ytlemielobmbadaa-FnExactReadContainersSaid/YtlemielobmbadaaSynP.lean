/- Plain Lean: powers, sums of symbols, syndromes. No program in sight. -/
import Derived.Test.YtlemielobmbadaaLeavP
namespace Go.Proofs.Ytlemielobmbadaa
open Go.RowKit

def pwTo : Nat → Nat
  | 0 => 1
  | n + 1 => mul (pwTo n) 2
/-- A power of the symbol 2. -/
def powI (n : Int) : Int := (pwTo (n.toNat % 15) : Nat)
theorem pwTo_lt0 : ∀ n, n < 15 → pwTo n < 16 := by decide +kernel
theorem powI_bd (n : Int) : 0 ≤ powI n ∧ powI n ≤ 15 := by
  have := pwTo_lt0 (n.toNat % 15) (Nat.mod_lt _ (by omega))
  unfold powI; omega
theorem pw_step (k : Nat) (hk : k < 15) : mulI (pwTo k : Nat) 2 = (pwTo (k + 1) : Nat) := rfl

/-- The sum of two symbols. -/
def xr (x y : Int) : Int := bits BinOp.xor .i64 x y
theorem xr0 : ∀ a, a < 16 → ∀ b, b < 16 → xr (a : Nat) (b : Nat) = ((a ^^^ b : Nat) : Int) := by decide +kernel
theorem xr_nat {x y : Int} (hx : 0 ≤ x) (hx2 : x ≤ 15) (hy : 0 ≤ y) (hy2 : y ≤ 15) : xr x y = ((x.toNat ^^^ y.toNat : Nat) : Int) := by
  have := xr0 x.toNat (by omega) y.toNat (by omega)
  rwa [show ((x.toNat : Nat) : Int) = x from by omega, show ((y.toNat : Nat) : Int) = y from by omega] at this
theorem nxor_lt {x y : Nat} (hx : x < 16) (hy : y < 16) : x ^^^ y < 16 := Nat.xor_lt_two_pow (n := 4) hx hy
theorem xr_bd {x y : Int} (hx : 0 ≤ x) (hx2 : x ≤ 15) (hy : 0 ≤ y) (hy2 : y ≤ 15) : 0 ≤ xr x y ∧ xr x y ≤ 15 := by
  rw [xr_nat hx hx2 hy hy2]
  have := nxor_lt (x := x.toNat) (y := y.toNat) (by omega) (by omega)
  omega

/-- The sum for one syndrome behind i symbols. -/
def synTo (xs : List Int) (j : Nat) : Nat → Int
  | 0 => 0
  | i + 1 => xr (synTo xs j i) (mulI (xs[i]?.getD 0) (powI (((j : Int) + 1) * i)))
theorem symAt (xs : List Int) (h : symL xs = true) (i : Nat) : 0 ≤ xs[i]?.getD 0 ∧ xs[i]?.getD 0 ≤ 15 := by
  by_cases hi : i < xs.length
  · exact inB_true (symL_get h i hi)
  · simp [List.getElem?_eq_none (Nat.le_of_not_lt hi)]
theorem synTo_bd {xs : List Int} (h : symL xs = true) (j i : Nat) : 0 ≤ synTo xs j i ∧ synTo xs j i ≤ 15 := by
  induction i with
  | zero => simp [synTo]
  | succ i ih =>
    have hs := symAt xs h i
    have hp := powI_bd (((j : Int) + 1) * i)
    have hm := mulI_bd hs.1 hs.2 hp.1 hp.2
    exact xr_bd ih.1 ih.2 hm.1 hm.2
/-- The four syndromes. -/
def syn (xs : List Int) : List Int := (List.range 4).map fun j => synTo xs j xs.length
/-- Behind j whole syndromes and i symbols of the next. -/
def synAt (xs : List Int) (j i : Nat) : List Int := (List.range 4).map fun t => if t < j then synTo xs t xs.length else if t = j then synTo xs j i else 0
theorem synAt_len (xs : List Int) (j i : Nat) : (synAt xs j i).length = 4 := by simp [synAt]
theorem synAt_zero (xs : List Int) : synAt xs 0 0 = List.replicate 4 0 := by
  simp [synAt, List.range_succ, synTo, List.replicate]
theorem synAt_get (xs : List Int) (j i : Nat) (hj : j < 4) : (synAt xs j i)[j]?.getD 0 = synTo xs j i := by simp [synAt, hj]
theorem synAt_step (xs : List Int) (j i : Nat) (hj : j < 4) : (synAt xs j i).set j (xr (synTo xs j i) (mulI (xs[i]?.getD 0) (powI (((j : Int) + 1) * i)))) = synAt xs j (i + 1) := by
  apply List.ext_getElem
  · simp [synAt]
  · intro t h1 h2
    rw [List.getElem_set]
    simp only [synAt, List.getElem_map, List.getElem_range]
    by_cases e : j = t
    · subst e; simp [synTo]
    · rw [if_neg e]
      by_cases h3 : t < j
      · simp [h3]
      · simp [h3, Ne.symm e]
theorem synAt_next (xs : List Int) (j : Nat) (hj : j < 4) : synAt xs j xs.length = synAt xs (j + 1) 0 := by
  apply List.ext_getElem
  · simp [synAt]
  · intro t h1 h2
    simp only [synAt, List.getElem_map, List.getElem_range, synTo]
    by_cases h3 : t < j
    · rw [if_pos h3, if_pos (by omega)]
    · rw [if_neg h3]
      by_cases e : t = j
      · subst e; rw [if_pos rfl, if_pos (by omega)]
      · rw [if_neg e, if_neg (by omega)]; simp
theorem synAt_all (xs : List Int) : synAt xs 4 0 = syn xs := by
  unfold synAt syn
  apply List.map_congr_left
  intro t ht
  rw [if_pos (List.mem_range.1 ht)]
theorem syn_len (xs : List Int) : (syn xs).length = 4 := by simp [syn]

/-- A block of symbols. -/
def blkOk (xs : List Int) : Bool := decide (xs.length = 15) && symL xs
def synR (xs : List Int) : List Int := if blkOk xs then syn xs else []
theorem synR_len (xs : List Int) : (synR xs).length ≤ 4 := by
  unfold synR; split <;> simp [syn_len]

end Go.Proofs.Ytlemielobmbadaa
