/- Plain Lean: what FnStreams asks: a burst of two symbols for every block is corrected. -/
import Derived.Test.YtlemielobmbadaaCdp
import Derived.Test.YtlemielobmbadaaDstP
namespace Go.Proofs.Ytlemielobmbadaa
open Go.RowKit

theorem turn_get (xs : List Int) {r c j : Nat} (h : j < r * c) : (turn xs r c)[j]?.getD 0 = xs[j % r * c + j / r]?.getD 0 := by simp [turn, h]
theorem agree_of {x c us : List Int} (hx : x.length = 15) (hc : c.length = 15) (h : ∀ q : Nat, q < 15 → (q : Int) ∉ us → x[q]?.getD 0 = c[q]?.getD 0) : agree x c us := by
  refine ⟨by rw [hx, hc], fun q hq => ?_⟩
  by_cases hlt : q < 15
  · have := h q hlt hq
    rw [List.getElem?_eq_getElem (by omega), List.getElem?_eq_getElem (by omega)] at this ⊢
    simpa using this
  · rw [List.getElem?_eq_none (by omega), List.getElem?_eq_none (by omega)]
theorem encAll_get {xs : List Int} {n k i : Nat} (hl : 11 * n ≤ xs.length) (hk : k < n) (hi : i < 15) : (encAll xs n)[15 * k + i]?.getD 0 = (encL (sub xs (11 * k) 11))[i]?.getD 0 := by
  induction n with
  | zero => omega
  | succ n ih =>
    have hen := encAll_len (xs := xs) (k := n) (by omega)
    rw [encAll]
    by_cases h : k < n
    · rw [List.getElem?_append_left (by rw [hen]; omega)]; exact ih (by omega) h
    · obtain rfl : k = n := by omega
      rw [List.getElem?_append_right (by rw [hen]; omega), hen, Nat.add_sub_cancel_left]
theorem blk_get {B : List Int} {n k i : Nat} (hl : B.length = 15 * n) (hk : k < n) (hi : i < 15) : (sub (turn B 15 n) (15 * k) 15)[i]?.getD 0 = B[i * n + k]?.getD 0 := by
  rw [sub_get _ _ _ _ hi, turn_get _ (by omega)]
  congr 2
  rw [show (15 * k + i) % 15 = i by omega, show (15 * k + i) / 15 = k by omega]
theorem mul_lt' {n k i : Nat} (hk : k < n) (hi : i < 15) : i * n + k < 15 * n := by
  have : (i + 1) * n ≤ 15 * n := Nat.mul_le_mul_right _ (by omega)
  rw [Nat.add_mul] at this; omega
theorem str_get {xs : List Int} {n k i : Nat} (hl : 11 * n ≤ xs.length) (hk : k < n) (hi : i < 15) : (turn (encAll xs n) n 15)[i * n + k]?.getD 0 = (encL (sub xs (11 * k) 11))[i]?.getD 0 := by
  have hlt := mul_lt' hk hi
  rw [turn_get _ (by omega), ← encAll_get hl hk hi]
  have e1 : (i * n + k) % n = k := by rw [Nat.mul_comm, Nat.mul_add_mod, Nat.mod_eq_of_lt hk]
  have e2 : (i * n + k) / n = i := by rw [Nat.mul_comm, Nat.mul_add_div (by omega), Nat.div_eq_of_lt hk]; omega
  rw [e1, e2, Nat.mul_comm]
/-- The places of a block that a burst of two symbols for every block can touch. -/
theorem two_of {n a k : Nat} (hk : k < n) : ∃ i0 : Nat, ∀ i, a ≤ i * n + k → i * n + k < a + 2 * n → i = i0 ∨ i = i0 + 1 := by
  refine ⟨(a + (n - 1) - k) / n, fun i h1 h2 => ?_⟩
  have d := Nat.div_add_mod (a + (n - 1) - k) n
  have m := Nat.mod_lt (a + (n - 1) - k) (show 0 < n by omega)
  generalize (a + (n - 1) - k) / n = q at *
  rw [Nat.mul_comm] at d
  by_cases c1 : i < q
  · have : (i + 1) * n ≤ q * n := Nat.mul_le_mul_right _ (by omega)
    rw [Nat.add_mul] at this; omega
  · by_cases c2 : q + 1 < i
    · have : (q + 2) * n ≤ i * n := Nat.mul_le_mul_right _ (by omega)
      rw [Nat.add_mul] at this; omega
    · omega
theorem take_sub {xs : List Int} (k : Nat) : xs.take (11 * k) ++ sub xs (11 * k) 11 = xs.take (11 * (k + 1)) := by
  rw [show 11 * (k + 1) = 11 * k + 11 by omega, List.take_add]; rfl
theorem burst_to {xs B : List Int} {n a : Nat} (hn : xs.length = 11 * n) (hs : symL xs = true) (hl : B.length = 15 * n) (hbs : symL B = true)
    (hag : ∀ p, p < 15 * n → (p < a ∨ a + 2 * n ≤ p) → B[p]?.getD 0 = (turn (encAll xs n) n 15)[p]?.getD 0) :
    ∀ k, k ≤ n → ∃ c, c ≤ 2 * k ∧ decTo (turn B 15 n) k = some (xs.take (11 * k), c)
  | 0, _ => ⟨0, by omega, by simp [decTo]⟩
  | k + 1, hk => by
    obtain ⟨c, hc, h⟩ := burst_to hn hs hl hbs hag k (by omega)
    have hkn : k < n := by omega
    have hcw := enc_cw (data := sub xs (11 * k) 11) (sub_len (by omega)) (sub_sym hs _ _)
    have htl : (turn B 15 n).length = 15 * n := by rw [turn_len]
    have hxl : (sub (turn B 15 n) (15 * k) 15).length = 15 := sub_len (by omega)
    have hxs : symL (sub (turn B 15 n) (15 * k) 15) = true := sub_sym (turn_sym hbs 15 n hl) _ _
    obtain ⟨i0, hi0⟩ := two_of (n := n) (a := a) hkn
    obtain ⟨f1, f2, f3⟩ := qs2_few (i := min i0 14) (k := min (i0 + 1) 14) (by omega) (by omega)
    have hA : agree (sub (turn B 15 n) (15 * k) 15) (encL (sub xs (11 * k) 11)) (qs2 (min i0 14) (min (i0 + 1) 14)) := by
      refine agree_of hxl hcw.len fun q hq hnot => ?_
      rw [blk_get hl hkn hq, ← str_get (by omega) hkn hq]
      refine hag _ (mul_lt' hkn hq) ?_
      by_cases c1 : q * n + k < a
      · exact .inl c1
      · by_cases c2 : a + 2 * n ≤ q * n + k
        · exact .inr c2
        · exfalso
          rcases hi0 q (by omega) (by omega) with e | e
          · have : min i0 14 = q := by omega
            exact hnot (by rw [← this]; exact f2)
          · have : min (i0 + 1) 14 = q := by omega
            exact hnot (by rw [← this]; exact f3)
    obtain ⟨ps, p1, p2, p3⟩ := dec_cw hcw hxl hxs f1 hA
    refine ⟨c + ps.length, by omega, ?_⟩
    rw [decTo_step h p1, p2, enc_drop, take_sub]
theorem burst {xs B : List Int} {n a : Nat} (hn : xs.length = 11 * n) (h1 : 1 ≤ n) (h8 : n ≤ 8) (hs : symL xs = true) (hl : B.length = 15 * n) (hbs : symL B = true)
    (hag : ∀ p, p < 15 * n → (p < a ∨ a + 2 * n ≤ p) → B[p]?.getD 0 = (turn (encAll xs n) n 15)[p]?.getD 0) :
    ∃ c, c ≤ 2 * n ∧ dstTo B = some (xs, c) := by
  obtain ⟨c, hc, h⟩ := burst_to hn hs hl hbs hag n (Nat.le_refl _)
  refine ⟨c, hc, ?_⟩
  have e : B.length / 15 = n := by omega
  have ho : strOk 15 B = true := by
    unfold strOk
    rw [hbs, hl]
    have e1 : inB (((15 * n : Nat) : Int) / ((15 : Nat) : Int)) 1 8 = true := by simp [inB]; omega
    have e2 : decide (((15 * n : Nat) : Int) % ((15 : Nat) : Int) = 0) = true := by simp
    rw [e1, e2]; rfl
  unfold dstTo dstAll
  rw [if_pos ho, e, h, ← hn, List.take_length]
end Go.Proofs.Ytlemielobmbadaa
