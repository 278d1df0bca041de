/- Rows of flat cells: lists of structs that hold no slice, lists of strings. -/
import Derived.Test.YtphhenlokbodnaaRwt
import Derived.Test.YtphhenlokbodnaaDpP
namespace Go.Proofs.Ytphhenlokbodnaa
open Go.RowKit

theorem Ofr.lf (w : World) (lo : Nat) (x : Value) : Ofr w lo (.leaf x) x := ⟨[], .leaf x, List.nodup_nil, fun k hk => by cases hk⟩
section
variable {α : Type}
/-- The cells of a list whose elements have m cells each. -/
def fltC (enc : α → List Value) (zs : List α) : List Dt := zs.flatMap fun z => (enc z).map Dt.leaf
def flt (m : Nat) (enc : α → List Value) (zs : List α) : Dt := .rows m (fltC enc zs)
theorem fltC_len {enc : α → List Value} {m : Nat} (hm : ∀ z, (enc z).length = m) (zs : List α) : (fltC enc zs).length = zs.length * m := by
  induction zs with
  | nil => simp [fltC]
  | cons z zs ih =>
    simp only [fltC, List.flatMap_cons, List.length_append, List.length_map, hm, List.length_cons] at ih ⊢
    rw [ih, Nat.add_mul, Nat.one_mul, Nat.add_comm]
theorem fltC_at {enc : α → List Value} {m : Nat} (hm : ∀ z, (enc z).length = m) (zs : List α) (i r : Nat) (hr : r < m) : (fltC enc zs)[i * m + r]? = (zs[i]?).bind fun z => ((enc z)[r]?).map Dt.leaf := by
  induction zs generalizing i with
  | nil => simp [fltC]
  | cons z zs ih =>
    have hl : ((enc z).map Dt.leaf).length = m := by simp [hm]
    simp only [fltC, List.flatMap_cons] at ih ⊢
    rcases i with _ | i
    · rw [Nat.zero_mul, Nat.zero_add, List.getElem?_append_left (by omega)]
      simp
    · rw [List.getElem?_append_right (by rw [hl, Nat.add_mul]; omega), hl, show (i + 1) * m + r - m = i * m + r by rw [Nat.add_mul]; omega, ih i]
      simp
theorem fltC_cell {enc : α → List Value} {m : Nat} (hm : ∀ z, (enc z).length = m) (nil : α) (zs : List α) (i r : Nat) (u : Value) (hi : i < zs.length) (hu : (enc (zs[i]?.getD nil))[r]? = some u) : (fltC enc zs)[i * m + r]? = some (.leaf u) := by
  have hr : r < m := by rw [← hm (zs[i]?.getD nil)]; exact (List.getElem?_eq_some_iff.1 hu).1
  rw [fltC_at hm zs i r hr]
  rw [List.getElem?_eq_getElem hi] at hu ⊢
  simp only [Option.getD_some] at hu
  simp [hu]
/-- For a walk: the rows of a slice of flat structs. -/
theorem flt_opn {enc : α → List Value} {m : Nat} {w : World} {v : Value} {zs : List α} (hm : ∀ z, (enc z).length = m) (hm0 : 0 < m) (nil : α) (h : Rdt w (flt m enc zs) v) :
    ∃ a n cap, v = .slice a n cap ∧ Hid (zs.length = n) ∧ n ≤ cap ∧ n ≤ 9223372036854775807 ∧
    (0 < n → ∃ b off, a = some ⟨b, off, none⟩ ∧ b < w.heap.size ∧ ∀ i, i < n → ∀ r u, (enc (zs[i]?.getD nil))[r]? = some u → w.cell? ⟨b, off + i * m + r, none⟩ = some u) := by
  obtain ⟨a, n, cap, hv, HN, h1, h2, h3⟩ := h.opn
  have hn : zs.length = n := by
    have := HN.out
    rw [fltC_len hm] at this
    exact Nat.eq_of_mul_eq_mul_right hm0 this
  refine ⟨a, n, cap, hv, hn, h1, h2, fun h0 => ?_⟩
  obtain ⟨b, off, ea, hb, hc⟩ := h3 h0
  refine ⟨b, off, ea, hb, fun i hi r u hu => ?_⟩
  obtain ⟨u', k1, k2⟩ := hc (i * m + r) (.leaf u) (fltC_cell hm nil zs i r u (by omega) hu)
  rw [Nat.add_assoc, k1, k2.leaf_inv]
theorem flt_opnw {enc : α → List Value} {m : Nat} {w : World} {v : Value} {zs : List α} (hm : ∀ z, (enc z).length = m) (hm0 : 0 < m) (nil : α) (h : Rwt w (flt m enc zs) v) :
    ∃ a n cap, v = .slice a n cap ∧ Hid (zs.length = n) ∧ n ≤ 9223372036854775807 ∧
    (0 < n → ∃ b off, a = some ⟨b, off, none⟩ ∧ b < w.heap.size ∧ ∀ i, i < n → ∀ r u, (enc (zs[i]?.getD nil))[r]? = some u → w.cell? ⟨b, off + i * m + r, none⟩ = some u) := by
  obtain ⟨a, n, cap, hv, HN, h2, h3⟩ := h.opn
  have hn : zs.length = n := by
    have := HN.out
    rw [fltC_len hm] at this
    exact Nat.eq_of_mul_eq_mul_right hm0 this
  refine ⟨a, n, cap, hv, hn, h2, fun h0 => ?_⟩
  obtain ⟨b, off, ea, hb, hc⟩ := h3 h0
  refine ⟨b, off, ea, hb, fun i hi r u hu => ?_⟩
  obtain ⟨u', k1, k2⟩ := hc (i * m + r) (.leaf u) (fltC_cell hm nil zs i r u (by omega) hu)
  rw [Nat.add_assoc, k1, k2.leaf_inv]

/-- Cells stored one behind another. -/
def setRow (w : World) (g o : Nat) : List Value → World
  | [] => w
  | u :: us => setRow (w.setCell ⟨g, o, none⟩ u) g (o + 1) us
def setDs (ds : List Dt) (o : Nat) : List Value → List Dt
  | [] => ds
  | u :: us => setDs (ds.set o (.leaf u)) (o + 1) us
theorem setDs_len (us : List Value) : ∀ (ds : List Dt) (o : Nat), (setDs ds o us).length = ds.length := by
  induction us with
  | nil => intro ds o; rfl
  | cons u us ih => intro ds o; rw [setDs, ih, List.length_set]
theorem setDs_at (us : List Value) : ∀ (ds : List Dt) (o j : Nat), o + us.length ≤ ds.length → (setDs ds o us)[j]? = if o ≤ j ∧ j < o + us.length then (us[j - o]?).map Dt.leaf else ds[j]? := by
  induction us with
  | nil => intro ds o j h; rw [setDs, if_neg (by simp)]
  | cons u us ih =>
    intro ds o j h
    rw [List.length_cons] at h
    rw [setDs, ih _ _ _ (by rw [List.length_set]; omega), List.length_cons]
    by_cases e : o = j
    · subst e
      rw [if_neg (by omega), if_pos (by omega), List.getElem?_set_self (by omega), Nat.sub_self]
      rfl
    · rw [List.getElem?_set_ne e]
      by_cases e2 : o + 1 ≤ j ∧ j < o + 1 + us.length
      · rw [if_pos e2, if_pos (by omega), show j - o = (j - (o + 1)) + 1 by omega, List.getElem?_cons_succ]
      · rw [if_neg e2, if_neg (by omega)]
theorem setDs_flt {enc : α → List Value} {m : Nat} (hm : ∀ z, (enc z).length = m) (hm0 : 0 < m) (zs : List α) (z : α) {k : Nat} (hk : k < zs.length) : setDs (fltC enc zs) (k * m) (enc z) = fltC enc (zs.set k z) := by
  have hkm : k * m + m ≤ zs.length * m := by
    have := Nat.mul_le_mul_right m (show k + 1 ≤ zs.length by omega)
    rw [Nat.add_mul] at this; omega
  apply List.ext_getElem?
  intro j
  rw [setDs_at _ _ _ _ (by rw [hm, fltC_len hm]; exact hkm), hm]
  obtain ⟨i, r, hr, rfl⟩ : ∃ i r, r < m ∧ j = i * m + r := ⟨j / m, j % m, Nat.mod_lt _ hm0, by rw [Nat.mul_comm]; exact (Nat.div_add_mod j m).symm⟩
  rw [fltC_at hm _ i r hr, fltC_at hm _ i r hr]
  by_cases e : k = i
  · subst e
    rw [if_pos (by omega), List.getElem?_set_self hk, Nat.add_sub_cancel_left]
    rfl
  · rw [List.getElem?_set_ne e, if_neg]
    intro h
    rcases Nat.lt_or_gt_of_ne e with h2 | h2
    · have := Nat.mul_le_mul_right m (show k + 1 ≤ i by omega)
      rw [Nat.add_mul] at this; omega
    · have := Nat.mul_le_mul_right m (show i + 1 ≤ k by omega)
      rw [Nat.add_mul] at this; omega
theorem Ofr.putRow {base size : Nat} {v : Value} {g off n cap : Nat} (hv : v = .slice (some ⟨g, off, none⟩) n cap) (us : List Value) : ∀ (w : World) (ds : List Dt) (o : Nat), Ofr w base (.rows size ds) v → base ≤ w.heap.size → o + us.length ≤ ds.length →
    Ofr (setRow w g (off + o) us) base (.rows size (setDs ds o us)) v := by
  induction us with
  | nil => intro w ds o h _ _; exact h
  | cons u us ih =>
    intro w ds o h hb hl
    rw [List.length_cons] at hl
    obtain ⟨g', off', n', cap', e, -, -, -, -, h2⟩ := h.put hb (Below.refl _ _) (Ofr.lf w w.heap.size u) (j := o) (by omega)
    rw [hv] at e
    simp only [Value.slice.injEq, Option.some.injEq, Addr.mk.injEq, and_true] at e
    obtain ⟨⟨rfl, rfl⟩, rfl, rfl⟩ := e
    exact ih _ _ (o + 1) h2 (by simpa using hb) (by rw [List.length_set]; omega)
theorem Ofr.frozen {w : World} {base size g off n cap : Nat} {ds : List Dt} (h : Ofr w base (.rows size ds) (.slice (some ⟨g, off, none⟩) n cap)) (j : Nat) : w.frozen? ⟨g, j, none⟩ = false := by
  obtain ⟨fp, q, _⟩ := h
  cases q with
  | mk hl hu hf hn hc hgg hcs ht hd => exact frozen_of_row _ _ _ _ _ hgg
/-- An element stored over another. -/
theorem flt_put {enc : α → List Value} {m base : Nat} {w : World} {v : Value} {zs : List α} (hm : ∀ z, (enc z).length = m) (hm0 : 0 < m) (h : Ofr w base (flt m enc zs) v) (hb : base ≤ w.heap.size) {k : Nat} (hk : k < zs.length) (z : α) :
    ∃ g off cap, v = .slice (some ⟨g, off, none⟩) zs.length cap ∧ base ≤ g ∧ g < w.heap.size ∧ (∀ r, r < m → ∃ u0, w.cell? ⟨g, off + k * m + r, none⟩ = some u0) ∧ (∀ j, w.frozen? ⟨g, j, none⟩ = false) ∧
      Ofr (setRow w g (off + k * m) (enc z)) base (flt m enc (zs.set k z)) v := by
  have hkm : k * m + m ≤ zs.length * m := by
    have := Nat.mul_le_mul_right m (show k + 1 ≤ zs.length by omega)
    rw [Nat.add_mul] at this; omega
  have hl := fltC_len hm zs
  obtain ⟨g, off, n, cap, rfl, h1, h2, -, -, -⟩ := h.put hb (Below.refl _ _) (Ofr.lf w w.heap.size undef) (j := k * m) (by omega)
  have hn : zs.length = n := by
    obtain ⟨a, n', cap', e, HN, -, -, -⟩ := h.rd.opn
    simp only [Value.slice.injEq] at e
    obtain ⟨-, rfl, -⟩ := e
    have := HN.out
    rw [hl] at this
    exact Nat.eq_of_mul_eq_mul_right hm0 this
  subst hn
  refine ⟨g, off, cap, rfl, h1, h2, fun r hr => ?_, fun j => ?_, ?_⟩
  · obtain ⟨g', off', n', cap', e, -, -, ⟨u0, h3⟩, -, -⟩ := h.put hb (Below.refl _ _) (Ofr.lf w w.heap.size undef) (j := k * m + r) (by omega)
    simp only [Value.slice.injEq, Option.some.injEq, Addr.mk.injEq, and_true] at e
    obtain ⟨⟨rfl, rfl⟩, -, rfl⟩ := e
    rw [← Nat.add_assoc] at h3
    exact ⟨u0, h3⟩
  · exact h.frozen j
  · have := h.putRow rfl (enc z) w (fltC enc zs) (k * m) hb (by rw [hm]; omega)
    rw [setDs_flt hm hm0 zs z hk] at this
    exact this
/-- A row of leaves. -/
theorem Ofr.of_row {w : World} {base m n : Nat} {T : TypeId} {v : Value} {us : List Value} (h : w.ownsRow base T m v n us) : Ofr w base (.rows m (us.map Dt.leaf)) v := by
  refine Grw.ofr (T := T) (n := n) ⟨us, List.replicate us.length [], h, by simp, by simp, fun j d u f e1 e2 e3 => ?_, by simp, by simp, by simp⟩
  rw [List.getElem?_map, e2] at e1
  simp at e1
  subst e1
  have : f = [] := by
    have := List.mem_of_getElem? e3
    exact List.eq_of_mem_replicate this
  subst this
  exact .leaf _
theorem flt_of_row {enc : α → List Value} {w : World} {base m n : Nat} {T : TypeId} {v : Value} {zs : List α} (h : w.ownsRow base T m v n (zs.flatMap enc)) : Ofr w base (flt m enc zs) v := by
  have := Ofr.of_row h
  rw [List.map_flatMap] at this
  exact this
end
end Go.Proofs.Ytphhenlokbodnaa
