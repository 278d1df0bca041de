/- Plain Lean: turning a table back; a list that is changed in one place after another. -/
import Derived.Test.YtlemielobmbadaaStmP
import Derived.Test.YtlemielobmbadaaErsW
namespace Go.Proofs.Ytlemielobmbadaa
open Go.RowKit

theorem turn_turn {xs : List Int} {r c : Nat} (hl : xs.length = r * c) : turn (turn xs r c) c r = xs := by
  refine List.ext_getElem? fun j => ?_
  by_cases hj : j < r * c
  · have hr : 0 < r := by rcases Nat.eq_zero_or_pos r with h | h; subst h; omega; exact h
    have hc : 0 < c := by rcases Nat.eq_zero_or_pos c with h | h; subst h; omega; exact h
    have hjc : j < c * r := by rw [Nat.mul_comm]; exact hj
    have hq : j / c < r := Nat.div_lt_of_lt_mul hjc
    have hm := Nat.mod_lt j hc
    have h1 := turn_get (turn xs r c) (r := c) (c := r) hjc
    have hlt : j % c * r + j / c < r * c := by
      have : (j % c + 1) * r ≤ c * r := Nat.mul_le_mul_right _ hm
      rw [Nat.add_mul, Nat.mul_comm c r] at this; omega
    rw [turn_get xs hlt] at h1
    have e1 : (j % c * r + j / c) % r = j / c := by rw [Nat.mul_comm, Nat.mul_add_mod, Nat.mod_eq_of_lt hq]
    have e2 : (j % c * r + j / c) / r = j % c := by rw [Nat.mul_comm, Nat.mul_add_div hr, Nat.div_eq_of_lt hq]; omega
    rw [e1, e2] at h1
    have e3 : j / c * c + j % c = j := by rw [Nat.mul_comm]; exact Nat.div_add_mod j c
    rw [e3] at h1
    have hL : j < (turn (turn xs r c) c r).length := by rw [turn_len]; exact hjc
    rw [List.getElem?_eq_getElem hL, List.getElem?_eq_getElem (by omega)] at h1 ⊢
    simpa using h1
  · rw [List.getElem?_eq_none (by rw [turn_len, Nat.mul_comm]; omega), List.getElem?_eq_none (by omega)]
theorem deint_inter {xs : List Int} {r : Int} (h : tblOk xs r = true) : tblOk (interL xs r) r = true ∧ deintL (interL xs r) r = xs := by
  obtain ⟨⟨h1, h2⟩, h3, h4, h5⟩ := tblOk_parts h
  have hi : interL xs r = turn xs r.toNat (xs.length / r.toNat) := by unfold interL; rw [if_pos h]
  have hlen : (interL xs r).length = xs.length := by rw [hi, turn_len]; exact h5
  have hsy : symL (interL xs r) = true := by rw [hi]; exact turn_sym h4 _ _ h5.symm
  have ho : tblOk (interL xs r) r = true := by
    have e := h
    unfold tblOk at e ⊢
    rw [hlen, hsy]
    rw [h4] at e
    exact e
  refine ⟨ho, ?_⟩
  unfold deintL
  rw [if_pos ho, hlen, hi]
  exact turn_turn h5.symm
theorem Own.openN {w : World} {base : Nat} {v : Value} {xs : List Int} {n : Nat} (h : Own w base v xs) (hl : xs.length = n) (hn : 0 < n) : ∃ b off cap, v = .slice (some ⟨b, off, none⟩) n cap ∧ base ≤ b ∧ b < w.heap.size ∧ n ≤ cap ∧ cap ≤ maxLen := by
  rcases h with ⟨_, e0⟩ | ⟨g, off, cap, cur, hv, hb, ⟨T, hg⟩, h1, h2, _⟩
  · rw [e0] at hl; simp at hl; omega
  · exact ⟨g, off, cap, by rw [hv, hl], hb, (Array.getElem?_eq_some_iff.1 hg).1, by omega, h2⟩
/-- d is S outside of the places a to i. -/
def Bst (S : List Int) (a i : Nat) (d : List Int) : Prop := d.length = S.length ∧ symL d = true ∧ ∀ p, (p < a ∨ i ≤ p) → d[p]?.getD 0 = S[p]?.getD 0
theorem Bst.start {S : List Int} (h : symL S = true) (a : Nat) : Bst S a a S := ⟨rfl, h, fun _ _ => rfl⟩
theorem Bst.step {S d : List Int} {a i : Nat} (h : Bst S a i d) (ha : a ≤ i) {x : Int} (hx : Sym x) : Bst S a (i + 1) (d.set i x) := by
  refine ⟨by rw [List.length_set]; exact h.1, symL_set h.2.1 i hx, fun p hp => ?_⟩
  rw [List.getElem?_set_ne (by omega)]
  exact h.2.2 p (by omega)
theorem Bst.done {xs d : List Int} {n a i : Nat} (hn : xs.length = 11 * n) (h1 : 1 ≤ n) (h8 : n ≤ 8) (hs : symL xs = true) (h : Bst (turn (encAll xs n) n 15) a i d) (hi : i ≤ a + 2 * n) :
    ∃ c, c ≤ 2 * n ∧ dstTo d = some (xs, c) := by
  have hl : (turn (encAll xs n) n 15).length = 15 * n := by rw [turn_len]; omega
  exact burst hn h1 h8 hs (by rw [h.1, hl]) h.2.1 (a := a) fun p hp hq => h.2.2 p (by omega)
theorem str_facts {xs : List Int} (h : strOk 11 xs = true) : ∃ n, xs.length = 11 * n ∧ 1 ≤ n ∧ n ≤ 8 ∧ symL xs = true ∧ streR xs = turn (encAll xs n) n 15 ∧ (streR xs).length = 15 * n ∧ symL (streR xs) = true := by
  obtain ⟨n, h1, h2, h3, h4, _, h6⟩ := strOk_parts (by omega) h
  have e : streR xs = turn (encAll xs n) n 15 := by unfold streR; rw [if_pos h, h6]
  have hl : (encAll xs n).length = n * 15 := by rw [encAll_len (by omega)]; omega
  refine ⟨n, h1, h2, h3, h4, e, by rw [e, turn_len]; omega, by rw [e]; exact turn_sym (encAll_sym h4 n) _ _ hl⟩
theorem dst_got {d xs : List Int} {c : Nat} (h : dstTo d = some (xs, c)) : dstN d = (c : Int) ∧ (dstTo d).isSome = true ∧ strOk 15 d = true ∧ dstR d = xs := by
  refine ⟨by unfold dstN; rw [h], by rw [h]; rfl, ?_, by unfold dstR; rw [h]⟩
  cases hs : strOk 15 d
  · have : dstTo d = none := by unfold dstTo; rw [hs]; rfl
    rw [this] at h; exact absurd h (by simp)
  · rfl
end Go.Proofs.Ytlemielobmbadaa
