/- Plain Lean: a list sorted and without doubles. -/
import Derived.Test.YtphhenlokbodnaaInt
import Derived.Lib.SlicesCompact
import Derived.Sort.OwnSortedInts
namespace Go.Proofs.Ytphhenlokbodnaa
open Go.RowKit Go.Sort Go.Lib

def srt (xs : List Int) : List Int := xs.mergeSort fun x y => decide (x ≤ y)
def cpt (xs : List Int) : List Int := Go.Lib.compact xs
/-- The set of a list's numbers, in ascending order. -/
def ust (xs : List Int) : List Int := cpt (srt xs)
theorem srt_len (xs : List Int) : (srt xs).length = xs.length := List.length_mergeSort _
theorem srt_mem {xs : List Int} {x : Int} : x ∈ srt xs ↔ x ∈ xs := List.mem_mergeSort
theorem srt_sorted (xs : List Int) : (srt xs).Pairwise (· ≤ ·) := by
  have := List.pairwise_mergeSort (le := fun x y : Int => decide (x ≤ y)) (fun a b c h1 h2 => by simp at h1 h2 ⊢; omega) (fun a b => by simp; omega) xs
  exact this.imp fun h => by simpa using h
theorem cpt_len (xs : List Int) : (cpt xs).length ≤ xs.length := by
  unfold cpt compact compactUpTo
  rw [List.length_map]
  exact Nat.le_trans (List.length_filter_le _ _) (by simp)
theorem getI {xs : List Int} {j : Nat} (h : j < xs.length) : (xs.toArray)[j]! = xs[j] := by simp [h]
theorem cpt_asc {xs : List Int} (h : xs.Pairwise (· ≤ ·)) : (cpt xs).Pairwise (· < ·) := by
  unfold cpt compact compactUpTo
  rw [List.pairwise_map]
  have hr : ((List.range xs.length).filter (keeps xs.toArray)).Pairwise (· < ·) := List.Pairwise.filter _ List.pairwise_lt_range
  refine hr.imp_of_mem (R := (· < ·)) fun {a b} ha hb hab => ?_
  rw [List.mem_filter, List.mem_range] at ha hb
  rw [getI ha.1, getI hb.1]
  have hk := hb.2
  unfold keeps at hk
  simp only [decide_eq_true_eq] at hk
  rcases hk with hk | hk
  · omega
  rw [getI hb.1, getI (show b - 1 < xs.length by omega)] at hk
  have hp := List.pairwise_iff_getElem.1 h
  have h1 : xs[a] ≤ xs[b - 1]'(by omega) := by
    by_cases e : a = b - 1
    · subst e; exact Int.le_refl _
    · exact hp a (b - 1) ha.1 (by omega) (by omega)
  have h2 : xs[b - 1]'(by omega) ≤ xs[b] := hp (b - 1) b (by omega) hb.1 (by omega)
  omega
theorem cpt_mem {xs : List Int} {x : Int} : x ∈ cpt xs ↔ x ∈ xs := by
  unfold cpt compact compactUpTo
  rw [List.mem_map]
  constructor
  · rintro ⟨j, hj, rfl⟩
    rw [List.mem_filter, List.mem_range] at hj
    rw [getI hj.1]
    exact List.getElem_mem hj.1
  · intro h
    obtain ⟨j, hj, rfl⟩ := List.mem_iff_getElem.1 h
    have : ∀ j, ∀ hj : j < xs.length, ∃ i, ∃ hi : i < xs.length, keeps xs.toArray i = true ∧ xs[i] = xs[j] := by
      intro j
      induction j with
      | zero => intro hj; exact ⟨0, hj, by simp [keeps], rfl⟩
      | succ j ih =>
        intro hj
        by_cases e : xs[j + 1] = xs[j]'(by omega)
        · obtain ⟨i, hi, h1, h2⟩ := ih (by omega)
          exact ⟨i, hi, h1, by rw [h2, e]⟩
        · refine ⟨j + 1, hj, ?_, rfl⟩
          unfold keeps
          rw [getI hj, getI (show j + 1 - 1 < xs.length by omega)]
          simp only [decide_eq_true_eq]
          exact .inr (by simpa using e)
    obtain ⟨i, hi, h1, h2⟩ := this j hj
    exact ⟨i, List.mem_filter.2 ⟨List.mem_range.2 hi, h1⟩, by rw [getI hi, h2]⟩
theorem ust_asc (xs : List Int) : (ust xs).Pairwise (· < ·) := cpt_asc (srt_sorted xs)
theorem ust_mem {xs : List Int} {x : Int} : x ∈ ust xs ↔ x ∈ xs := by unfold ust; rw [cpt_mem, srt_mem]
theorem ust_len (xs : List Int) : (ust xs).length ≤ xs.length := by unfold ust; exact Nat.le_trans (cpt_len _) (by rw [srt_len]; exact Nat.le_refl _)
/-- Two ascending lists with the same numbers. -/
theorem asc_ext : ∀ {xs ys : List Int}, xs.Pairwise (· < ·) → ys.Pairwise (· < ·) → (∀ x, x ∈ xs ↔ x ∈ ys) → xs = ys
  | [], [], _, _, _ => rfl
  | [], y :: ys, _, _, h => by have := (h y).2 (by simp); cases this
  | x :: xs, [], _, _, h => by have := (h x).1 (by simp); cases this
  | x :: xs, y :: ys, hx, hy, h => by
    obtain ⟨hx1, hx2⟩ := List.pairwise_cons.1 hx
    obtain ⟨hy1, hy2⟩ := List.pairwise_cons.1 hy
    have e : x = y := by
      have h1 := (h x).1 (by simp)
      have h2 := (h y).2 (by simp)
      rcases List.mem_cons.1 h1 with e | e
      · exact e
      · rcases List.mem_cons.1 h2 with e2 | e2
        · exact e2.symm
        · have := hy1 x e; have := hx1 y e2; omega
    subst e
    congr 1
    refine asc_ext hx2 hy2 fun z => ?_
    constructor
    · intro hz
      have hlt := hx1 z hz
      rcases List.mem_cons.1 ((h z).1 (List.mem_cons_of_mem _ hz)) with e | e
      · omega
      · exact e
    · intro hz
      have hlt := hy1 z hz
      rcases List.mem_cons.1 ((h z).2 (List.mem_cons_of_mem _ hz)) with e | e
      · omega
      · exact e
theorem ust_of {xs ys : List Int} (h : ys.Pairwise (· < ·)) (hm : ∀ x, x ∈ ys ↔ x ∈ xs) : ust xs = ys := asc_ext (ust_asc xs) h fun x => by rw [ust_mem, hm]

/-! ### The cells -/
theorem Own.holds {w : World} {base g off n cap : Nat} {xs : List Int} (h : Own w base (.slice (some ⟨g, off, none⟩) n cap) xs) : Holds (Value.int .i64) w g off xs.toArray := by
  rcases h with ⟨e, _⟩ | ⟨g', off', cap', cur, e, hb, ⟨T, hg⟩, h1, h2, h3, h4⟩
  · cases e
  · simp only [Value.slice.injEq, Option.some.injEq, Addr.mk.injEq, and_true] at e
    obtain ⟨⟨rfl, rfl⟩, rfl, rfl⟩ := e
    intro j hj
    have hj' : j < xs.length := by simpa using hj
    refine ⟨?_, frozen_of_row _ _ _ _ _ hg⟩
    rw [cell_of_row _ _ _ _ _ _ hg, ← Array.getElem?_toList]
    have e : ((cur.toList.drop off).take xs.length)[j]? = (ints xs)[j]? := by rw [h4]
    rw [List.getElem?_take, if_pos hj', List.getElem?_drop] at e
    rw [e]
    simp [hj']
theorem heap_putRow {w : World} {g off n : Nat} {os : Array Obj} {cur : Array Value} {e : TypeId} {fr : Nat × Nat} (d : Array Int) (hb : w.heap[g]? = some (.cells cur e fr)) :
    (grow (putRow (Value.int .i64) (Sort.ahead w n) g off d) os).heap[g]? = some (.cells (putCells (Value.int .i64) off d cur) e fr) := by
  have hg : g < w.heap.size := (Array.getElem?_eq_some_iff.1 hb).1
  rw [heap_grow_old _ _ (by simpa using hg)]
  simp [putRow, mapBlock, Sort.ahead, Array.getElem?_modify, hb, onCells]
theorem grownBy_putRow {w : World} {g off n : Nat} {os : Array Obj} (d : Array Int) : w.grownBy (grow (putRow (Value.int .i64) (Sort.ahead w n) g off d) os) (some g) := by
  refine ⟨rfl, rfl, rfl, by simp, fun k hk hne => ?_⟩
  rw [heap_grow_old _ _ (by simpa using hk)]
  have : g ≠ k := fun e => hne (by rw [e])
  simp [putRow, mapBlock, Sort.ahead, Array.getElem?_modify, this]
theorem drop_putCells (cur : Array Value) (ts : List Int) (off m : Nat) (h : off + ts.length ≤ cur.size) (hm : m ≤ ts.length) : ((putCells (Value.int .i64) off ts.toArray cur).toList.drop off).take m = ints (ts.take m) := by
  apply List.ext_getElem?
  intro j
  by_cases hj : j < m
  · rw [List.getElem?_take_of_lt hj, List.getElem?_drop, Array.getElem?_toList]
    simp [putCells, hj, show off + j < cur.size by omega, show j < ts.length by omega]
  · rw [List.getElem?_take_eq_none (by omega), List.getElem?_eq_none (by simp; omega)]
/-- Behind a store of as many numbers. -/
theorem Own.putRow {w : World} {base g off n cap q m : Nat} {xs ts : List Int} {os : Array Obj} (h : Own w base (.slice (some ⟨g, off, none⟩) n cap) xs) (hl : ts.length = xs.length) (hm : m ≤ ts.length) :
    Own (grow (Sort.putRow (Value.int .i64) (Sort.ahead w q) g off ts.toArray) os) base (.slice (some ⟨g, off, none⟩) m cap) (ts.take m) := by
  rcases h with ⟨e, _⟩ | ⟨g', off', cap', cur, e, hb, ⟨T, hg⟩, h1, h2, h3, h4⟩
  · cases e
  · simp only [Value.slice.injEq, Option.some.injEq, Addr.mk.injEq, and_true] at e
    obtain ⟨⟨rfl, rfl⟩, rfl, rfl⟩ := e
    have hml : (ts.take m).length = m := by rw [List.length_take]; omega
    refine .inr ⟨g, off, cap, _, by rw [hml], hb, ⟨T, heap_putRow _ hg⟩, by rw [hml]; omega, h2, by simp [putCells]; omega, ?_⟩
    rw [hml]
    exact drop_putCells cur ts off m (by omega) hm
end Go.Proofs.Ytphhenlokbodnaa
