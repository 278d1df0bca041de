/- Plain Lean: decoding of a stream. -/
import Derived.Test.YtlemielobmbadaaDecP
namespace Go.Proofs.Ytlemielobmbadaa
open Go.RowKit

/-- The data of the first k blocks, and how many symbols were corrected, if all of these are corrected. -/
def decTo (ys : List Int) : Nat → Option (List Int × Nat)
  | 0 => some ([], 0)
  | k + 1 => match decTo ys k, dec (sub ys (15 * k) 15) with
    | some (o, c), some ps => some (o ++ (fillR (sub ys (15 * k) 15) ps).drop 4, c + ps.length)
    | _, _ => none
theorem decTo_none {ys : List Int} {k : Nat} (h : decTo ys k = none) : ∀ d, decTo ys (k + d) = none
  | 0 => h
  | d + 1 => by
    show decTo ys (k + d + 1) = none
    rw [decTo, decTo_none h d]
theorem decTo_fail {ys : List Int} {k n : Nat} (hk : k < n) (h : dec (sub ys (15 * k) 15) = none) : decTo ys n = none := by
  have e : decTo ys (k + 1) = none := by rw [decTo, h]; split <;> simp_all
  have := decTo_none e (n - (k + 1))
  rwa [show k + 1 + (n - (k + 1)) = n by omega] at this
theorem decTo_step {ys o ps : List Int} {k c : Nat} (h : decTo ys k = some (o, c)) (hd : dec (sub ys (15 * k) 15) = some ps) :
    decTo ys (k + 1) = some (o ++ (fillR (sub ys (15 * k) 15) ps).drop 4, c + ps.length) := by rw [decTo, h, hd]
theorem decTo_len {ys : List Int} : ∀ k o c, 15 * k ≤ ys.length → decTo ys k = some (o, c) → o.length = 11 * k ∧ c ≤ 2 * k
  | 0, o, c, _, h => by simp [decTo] at h; obtain ⟨rfl, rfl⟩ := h; simp
  | k + 1, o, c, hl, h => by
    rw [decTo] at h
    cases h1 : decTo ys k with
    | none => rw [h1] at h; simp at h
    | some q =>
      obtain ⟨o', c'⟩ := q
      cases h2 : dec (sub ys (15 * k) 15) with
      | none => rw [h1, h2] at h; simp at h
      | some ps =>
        rw [h1, h2] at h
        simp only [Option.some.injEq, Prod.mk.injEq] at h
        obtain ⟨rfl, rfl⟩ := h
        obtain ⟨i1, i2⟩ := decTo_len k o' c' (by omega) h1
        have := (dec_some h2).2.2
        rw [List.length_append, i1, List.length_drop, fillR_len, sub_len (by omega)]
        omega
/-- The stream's symbols in the order of the blocks. -/
def dstAll (xs : List Int) : List Int := turn xs 15 (xs.length / 15)
def dstTo (xs : List Int) : Option (List Int × Nat) := if strOk 15 xs then decTo (dstAll xs) (xs.length / 15) else none
def dstR (xs : List Int) : List Int := match dstTo xs with | some q => q.1 | none => []
def dstN (xs : List Int) : Int := match dstTo xs with | some q => (q.2 : Int) | none => 0
theorem dstR_len (xs : List Int) : (dstR xs).length ≤ 88 := by
  unfold dstR
  split
  · rename_i q hq
    unfold dstTo at hq
    split at hq
    · rename_i h
      obtain ⟨n, hn, h1, h8, _, _, e⟩ := strOk_parts (by omega) h
      rw [e] at hq
      have := (decTo_len n q.1 q.2 (by rw [dstAll, turn_len, e]; omega) hq).1
      omega
    · simp at hq
  · simp
theorem turn_sym {xs : List Int} (h : symL xs = true) (r c : Nat) (hl : xs.length = r * c) : symL (turn xs r c) = true := by
  refine symL_of fun i => ?_
  unfold turn
  rw [List.getElem?_map]
  cases hi : (List.range (r * c))[i]? with
  | none => exact Sym.zero
  | some j => exact symD h _
theorem dst_deint {xs : List Int} {n : Nat} (hn : xs.length = 15 * n) (h1 : 1 ≤ n) (h8 : n ≤ 8) (hs : symL xs = true) : tblOk xs (n : Int) = true ∧ deintL xs (n : Int) = turn xs 15 n := by
  have ht : tblOk xs (n : Int) = true := by
    unfold tblOk
    rw [hs, hn]
    have e1 : inB (n : Int) 1 8 = true := by simp [inB]; omega
    have e2 : decide (((15 * n : Nat) : Int) ≤ 120) = true := by simp; omega
    have e3 : decide (((15 * n : Nat) : Int) % n = 0) = true := by simp
    rw [e1, e2, e3]; rfl
  refine ⟨ht, ?_⟩
  unfold deintL
  rw [if_pos ht, hn]
  simp only [Int.toNat_natCast]
  rw [Nat.mul_div_cancel _ (by omega)]
end Go.Proofs.Ytlemielobmbadaa
