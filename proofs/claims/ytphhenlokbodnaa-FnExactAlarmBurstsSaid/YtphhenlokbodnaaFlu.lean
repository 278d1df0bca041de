/- Plain Lean: rows of flat cells, made, filled and marked. -/
import Derived.Test.YtphhenlokbodnaaFlt
import Derived.OwnWalk
namespace Go.Proofs.Ytphhenlokbodnaa
open Go.RowKit

theorem kept_o' {X Y : World} {b : Nat} {x : Obj} (h : X.heap[b]? = some x) (hb : Below X.heap.size X Y) : Y.heap[b]? = some x := by
  rw [hb.block b (Array.getElem?_eq_some_iff.1 h).1]; exact h
section
variable {α : Type}
theorem flatV_at {enc : α → List Value} {m : Nat} (hm : ∀ z, (enc z).length = m) : ∀ (zs : List α) (i r : Nat), r < m → (zs.flatMap enc)[i * m + r]? = (zs[i]?).bind fun z => (enc z)[r]?
  | [], i, r, _ => by simp
  | z :: zs, 0, r, h => by
    rw [List.flatMap_cons, List.getElem?_append_left (by rw [hm]; omega)]
    simp
  | z :: zs, i + 1, r, h => by
    rw [List.flatMap_cons, List.getElem?_append_right (by rw [hm, Nat.add_mul]; omega), hm, show (i + 1) * m + r - m = i * m + r by rw [Nat.add_mul]; omega, flatV_at hm zs i r h]
    simp
theorem madeCells_flat {enc : α → List Value} {m : Nat} (hm : ∀ z, (enc z).length = m) (hm0 : 0 < m) (nil : α) (zc : Array Value) (hz : zc.toList = enc nil) (n : Nat) : (madeCells zc (n * m)).toList = (List.replicate n nil).flatMap enc := by
  have hs : zc.size = m := by rw [← Array.length_toList, hz, hm]
  apply List.ext_getElem?
  intro j
  obtain ⟨i, r, hr, rfl⟩ : ∃ i r, r < m ∧ j = i * m + r := ⟨j / m, j % m, Nat.mod_lt _ hm0, by rw [Nat.mul_comm]; exact (Nat.div_add_mod j m).symm⟩
  rw [flatV_at hm _ i r hr]
  have hmod : (i * m + r) % m = r := by rw [Nat.mul_comm, Nat.mul_add_mod]; exact Nat.mod_eq_of_lt hr
  by_cases hi : i < n
  · have hlt : i * m + r < n * m := by
      have := Nat.mul_le_mul_right m (show i + 1 ≤ n by omega)
      rw [Nat.add_mul] at this; omega
    have hre : (List.replicate n nil)[i]? = some nil := by simp [hi]
    rw [hre, Option.bind_some, ← hz, Array.getElem?_toList, Array.getElem?_toList]
    unfold madeCells
    rw [Array.getElem?_map, Array.getElem?_range, if_pos hlt, Option.map_some, hs, hmod]
    simp [hs, hr]
  · have hge : n * m ≤ i * m + r := by
      have := Nat.mul_le_mul_right m (show n ≤ i by omega)
      omega
    have hre : (List.replicate n nil)[i]? = none := by simp; omega
    rw [hre, Option.bind_none, Array.getElem?_toList]
    unfold madeCells
    rw [Array.getElem?_map, Array.getElem?_range, if_neg (by omega)]
    rfl
theorem made_flat {enc : α → List Value} {m : Nat} {w : World} {base n : Nat} {T : TypeId} {v : Value} (hm : ∀ z, (enc z).length = m) (hm0 : 0 < m) (nil : α) {zc : Array Value} (hz : zc.toList = enc nil) (h : w.ownsRow base T m v n (madeCells zc (n * m)).toList) : Ofr w base (flt m enc (List.replicate n nil)) v := by
  rw [madeCells_flat hm hm0 nil zc hz] at h
  exact flt_of_row h
theorem setRow_below {B : Nat} {w : World} {g : Nat} (hB : B ≤ g) (us : List Value) : ∀ (w' : World) (o : Nat), Below B w w' → Below B w (setRow w' g o us) := by
  induction us with
  | nil => intro w' o h; exact h
  | cons u us ih => intro w' o h; exact ih _ _ (h.setCell (p := ⟨g, o, none⟩) hB _)
/-- The first k of n have been filled. -/
def fillG (nil : α) (zs : List α) (n k : Nat) : List α := zs.take k ++ List.replicate (n - k) nil
theorem fillG_zero (nil : α) (zs : List α) (n : Nat) : fillG nil zs n 0 = List.replicate n nil := by simp [fillG]
theorem fillG_all (nil : α) (zs : List α) (n : Nat) (h : zs.length = n) : fillG nil zs n n = zs := by simp [fillG, ← h]
theorem fillG_len (nil : α) (zs : List α) (n k : Nat) (h : zs.length = n) (hk : k ≤ n) : (fillG nil zs n k).length = n := by simp [fillG]; omega
theorem fillG_step (nil : α) (zs : List α) (n k : Nat) (h : zs.length = n) (hk : k < n) : (fillG nil zs n k).set k (zs[k]?.getD nil) = fillG nil zs n (k + 1) := by
  unfold fillG
  have hl : (zs.take k).length = k := by simp; omega
  rw [List.set_append_right _ _ (by omega), hl, Nat.sub_self]
  obtain ⟨m, hm⟩ : ∃ m, n - k = m + 1 := ⟨n - k - 1, by omega⟩
  rw [hm, List.replicate_succ, List.set_cons_zero, show n - (k + 1) = m by omega, List.take_add_one, List.append_assoc, List.getElem?_eq_getElem (show k < zs.length by omega)]
  rfl
/-- The first k have been marked. -/
def mkG (f : Nat → α) (zs : List α) (k : Nat) : List α := (List.range k).map f ++ zs.drop k
theorem mkG_zero (f : Nat → α) (zs : List α) : mkG f zs 0 = zs := by simp [mkG]
theorem mkG_all (f : Nat → α) (zs : List α) (n : Nat) (h : zs.length = n) : mkG f zs n = (List.range n).map f := by simp [mkG, ← h]
theorem mkG_len (f : Nat → α) (zs : List α) (k : Nat) (h : k ≤ zs.length) : (mkG f zs k).length = zs.length := by simp [mkG]; omega
theorem mkG_at (f : Nat → α) (zs : List α) (k : Nat) : (mkG f zs k)[k]? = zs[k]? := by
  rw [mkG, List.getElem?_append_right (by simp)]; simp
theorem mkG_step (f : Nat → α) (zs : List α) (k : Nat) (h : k < zs.length) : (mkG f zs k).set k (f k) = mkG f zs (k + 1) := by
  unfold mkG
  rw [List.set_append_right _ _ (by simp), List.length_map, List.length_range, Nat.sub_self, List.drop_eq_getElem_cons h, List.set_cons_zero, List.range_succ, List.map_append, List.append_assoc]
  rfl
theorem rangeMap_get (f : Nat → α) (nil : α) (n k : Nat) (h : k < n) : ((List.range n).map f)[k]?.getD nil = f k := by simp [h]
/-- Stores over the leaves of an own row. -/
theorem Odt.storeRow {size : Nat} {v : Value} {fp : List Nat} {g off n cap : Nat} (hv : v = .slice (some ⟨g, off, none⟩) n cap) (hn : fp.Nodup) (us : List Value) : ∀ (w : World) (ds : List Dt) (o : Nat), Odt w (.rows size ds) v fp → (∀ r, r < us.length → ∃ u, ds[o + r]? = some (.leaf u)) →
    Odt (setRow w g (off + o) us) (.rows size (setDs ds o us)) v fp ∧ Wr w (setRow w g (off + o) us) fp := by
  induction us with
  | nil => intro w ds o h _; exact ⟨h, Wr.refl _ _⟩
  | cons u us ih =>
    intro w ds o h hl
    obtain ⟨u0, hu0⟩ := hl 0 (by simp)
    obtain ⟨g', off', n', cap', e, -, -, -, h2, h3⟩ := h.store hn (j := o) hu0 u
    rw [hv] at e
    simp only [Value.slice.injEq, Option.some.injEq, Addr.mk.injEq, and_true] at e
    obtain ⟨⟨rfl, rfl⟩, rfl, rfl⟩ := e
    obtain ⟨k1, k2⟩ := ih _ _ (o + 1) h2 (fun r hr => by
      obtain ⟨u1, e1⟩ := hl (r + 1) (by simpa using hr)
      refine ⟨u1, ?_⟩
      rw [List.getElem?_set_ne (by omega), show o + 1 + r = o + (r + 1) by omega, e1])
    exact ⟨k1, h3.trans k2⟩
theorem flt_leaf {enc : α → List Value} {m : Nat} (hm : ∀ z, (enc z).length = m) (zs : List α) {k r : Nat} (hk : k < zs.length) (hr : r < m) : ∃ u, (fltC enc zs)[k * m + r]? = some (.leaf u) := by
  rw [fltC_at hm zs k r hr, List.getElem?_eq_getElem hk]
  have : r < (enc zs[k]).length := by rw [hm]; exact hr
  exact ⟨(enc zs[k])[r], by simp [List.getElem?_eq_getElem this]⟩
/-- Marks stored over an element of an own row. -/
theorem flt_mark {enc : α → List Value} {m : Nat} {w : World} {fp : List Nat} {a : Option Addr} {n cap k : Nat} {zs : List α} (hm : ∀ z, (enc z).length = m) (hm0 : 0 < m) (h : Odt w (flt m enc zs) (.slice a n cap) fp) (hn : fp.Nodup) (hk : k < zs.length) :
    ∃ g off, a = some ⟨g, off, none⟩ ∧ (∀ r, r < m → ∃ u0, w.cell? ⟨g, off + k * m + r, none⟩ = some u0) ∧ (∀ j, w.frozen? ⟨g, j, none⟩ = false) ∧
      ∀ z, Odt (setRow w g (off + k * m) (enc z)) (flt m enc (zs.set k z)) (.slice a n cap) fp ∧ Wr w (setRow w g (off + k * m) (enc z)) fp := by
  obtain ⟨u0, hu0⟩ := flt_leaf hm zs hk hm0
  obtain ⟨g, off, n', cap', e, -, -, hg, -, -⟩ := Odt.store (show Odt w (.rows m (fltC enc zs)) _ fp from h) hn hu0 undef
  simp only [Value.slice.injEq] at e
  obtain ⟨rfl, rfl, rfl⟩ := e
  refine ⟨g, off, rfl, fun r hr => ?_, fun j => ?_, fun z => ?_⟩
  · obtain ⟨u1, hu1⟩ := flt_leaf hm zs hk hr
    obtain ⟨g', off', n', cap', e, hc, -⟩ := Odt.store (show Odt w (.rows m (fltC enc zs)) _ fp from h) hn hu1 undef
    simp only [Value.slice.injEq, Option.some.injEq, Addr.mk.injEq, and_true] at e
    obtain ⟨⟨rfl, rfl⟩, rfl, rfl⟩ := e
    rw [← Nat.add_assoc] at hc
    exact ⟨u1, hc⟩
  · unfold flt at h
    generalize fltC enc zs = ds at h
    cases h with
    | mk hl hu hf hnc hc hgg hcs ht hd => exact frozen_of_row _ _ _ _ _ hgg
  · have := Odt.storeRow rfl hn (enc z) w (fltC enc zs) (k * m) h (fun r hr => flt_leaf hm zs hk (by rw [hm] at hr; exact hr))
    rw [setDs_flt hm hm0 zs z hk] at this
    exact this
end
end Go.Proofs.Ytphhenlokbodnaa
