/- Data with depth: what it means that a value reads as a tree of cells, and that it lies in blocks of the call's own. -/
import Derived.Test.YtphhenlokbodnaaInt
namespace Go.Proofs.Ytphhenlokbodnaa
open Go.RowKit

/-- A cell's own value, or a slice: its elements' size in cells, and its cells. -/
inductive Dt where
  | leaf (v : Value)
  | rows (size : Nat) (ds : List Dt)

/-- The value reads as the data. -/
inductive Rdt (w : World) : Dt → Value → Prop
  | leaf (u : Value) : Rdt w (.leaf u) u
  | nil (size : Nat) : Rdt w (.rows size []) (.slice none 0 0)
  | mk {size n b off cap : Nat} {ds : List Dt} {us : List Value} (hl : ds.length = n * size) (hu : us.length = ds.length) (hn : n ≤ cap) (hc : cap ≤ maxLen) (hb : b < w.heap.size)
      (hcell : ∀ (j : Nat) (u : Value), us[j]? = some u → w.cell? ⟨b, off + j, none⟩ = some u) (hd : ∀ (j : Nat) (d : Dt) (u : Value), ds[j]? = some d → us[j]? = some u → Rdt w d u) : Rdt w (.rows size ds) (.slice (some ⟨b, off, none⟩) n cap)

/-- The value reads as the data, and lies in blocks of the call's own: these. -/
inductive Odt (w : World) : Dt → Value → List Nat → Prop
  | leaf (u : Value) : Odt w (.leaf u) u []
  | nil (size : Nat) : Odt w (.rows size []) (.slice none 0 0) []
  | mk {size n g off cap : Nat} {ds : List Dt} {us : List Value} {fs : List (List Nat)} {cur : Array Value} {T : TypeId} (hl : ds.length = n * size) (hu : us.length = ds.length) (hf : fs.length = ds.length) (hn : n ≤ cap) (hc : cap ≤ maxLen)
      (hg : w.heap[g]? = some (.cells cur T (0, 0))) (hcs : off + cap * size ≤ cur.size) (ht : (cur.toList.drop off).take (n * size) = us)
      (hd : ∀ (j : Nat) (d : Dt) (u : Value) (f : List Nat), ds[j]? = some d → us[j]? = some u → fs[j]? = some f → Odt w d u f) : Odt w (.rows size ds) (.slice (some ⟨g, off, none⟩) n cap) (g :: fs.flatten)

theorem Rdt.leaf_inv {w : World} {u v : Value} (h : Rdt w (.leaf u) v) : v = u := by cases h; rfl
theorem Odt.leaf_inv {w : World} {u v : Value} {fp : List Nat} (h : Odt w (.leaf u) v fp) : v = u ∧ fp = [] := by cases h; exact ⟨rfl, rfl⟩
theorem Rdt.kept {w w' : World} {d : Dt} {v : Value} (h : Rdt w d v) (hs : w.heap.size ≤ w'.heap.size) (hk : ∀ p : Addr, p.block < w.heap.size → w'.cell? p = w.cell? p) : Rdt w' d v := by
  induction h with
  | leaf u => exact .leaf u
  | nil size => exact .nil size
  | mk hl hu hn hc hb hcell hd ih =>
    exact .mk hl hu hn hc (by omega) (fun j u hj => (hk _ hb).trans (hcell j u hj)) (fun j d u h1 h2 => ih j d u h1 h2)
theorem Rdt.behind {w w' : World} {d : Dt} {v : Value} (h : Rdt w d v) (hb : Below w.heap.size w w') : Rdt w' d v := h.kept hb.size (fun _ hp => hb.cell hp)
theorem Odt.kept {w w' : World} {d : Dt} {v : Value} {fp : List Nat} (h : Odt w d v fp) (hk : ∀ b ∈ fp, w'.heap[b]? = w.heap[b]?) : Odt w' d v fp := by
  induction h with
  | leaf u => exact .leaf u
  | nil size => exact .nil size
  | @mk size n g off cap ds us fs cur T hl hu hf hn hc hg hcs ht hd ih =>
    refine .mk hl hu hf hn hc (by rw [hk g (by simp)]; exact hg) hcs ht (fun j d u f h1 h2 h3 => ih j d u f h1 h2 h3 fun b hb => hk b ?_)
    exact List.mem_cons_of_mem _ (List.mem_flatten.2 ⟨f, List.mem_of_getElem? h3, hb⟩)
theorem Odt.lt {w : World} {d : Dt} {v : Value} {fp : List Nat} (h : Odt w d v fp) : ∀ b ∈ fp, b < w.heap.size := by
  induction h with
  | leaf u => intro b hb; cases hb
  | nil size => intro b hb; cases hb
  | @mk size n g off cap ds us fs cur T hl hu hf hn hc hg hcs ht hd ih =>
    intro b hb
    rcases List.mem_cons.1 hb with rfl | hb
    · exact (Array.getElem?_eq_some_iff.1 hg).1
    · obtain ⟨f, hf1, hf2⟩ := List.mem_flatten.1 hb
      obtain ⟨j, hj, e⟩ := List.mem_iff_getElem.1 hf1
      exact ih j (ds[j]'(by omega)) (us[j]'(by omega)) f (List.getElem?_eq_getElem _) (List.getElem?_eq_getElem _) (by rw [List.getElem?_eq_getElem hj, e]) b hf2
theorem Odt.behind {w w' : World} {d : Dt} {v : Value} {fp : List Nat} (h : Odt w d v fp) (hb : Below w.heap.size w w') : Odt w' d v fp := h.kept fun b hb' => hb.block b (h.lt b hb')
theorem row_cell {w : World} {g off m : Nat} {cur : Array Value} {T : TypeId} {us : List Value} (hg : w.heap[g]? = some (.cells cur T (0, 0))) (ht : (cur.toList.drop off).take m = us) {j : Nat} {u : Value} (hj : us[j]? = some u) (hm : us.length = m) : w.cell? ⟨g, off + j, none⟩ = some u := by
  rw [cell_of_row _ _ _ _ _ _ hg, ← Array.getElem?_toList]
  have hlt : j < m := by have := (List.getElem?_eq_some_iff.1 hj).1; omega
  have h2 : ((cur.toList.drop off).take m)[j]? = some u := by rw [ht]; exact hj
  rw [List.getElem?_take, if_pos hlt, List.getElem?_drop] at h2
  exact h2
theorem Odt.rd {w : World} {d : Dt} {v : Value} {fp : List Nat} (h : Odt w d v fp) : Rdt w d v := by
  induction h with
  | leaf u => exact .leaf u
  | nil size => exact .nil size
  | @mk size n g off cap ds us fs cur T hl hu hf hn hc hg hcs ht hd ih =>
    refine .mk (us := us) hl hu hn hc (Array.getElem?_eq_some_iff.1 hg).1 (fun j u hj => row_cell hg ht hj (by omega)) (fun j d u h1 h2 => ?_)
    have hj : j < fs.length := by have := (List.getElem?_eq_some_iff.1 h1).1; omega
    exact ih j d u _ h1 h2 (List.getElem?_eq_getElem hj)

/-- For a walk: the rows of a slice. -/
theorem Rdt.opn {w : World} {size : Nat} {ds : List Dt} {v : Value} (h : Rdt w (.rows size ds) v) : ∃ a n cap, v = .slice a n cap ∧ Hid (ds.length = n * size) ∧ n ≤ cap ∧ n ≤ 9223372036854775807 ∧
    (0 < n → ∃ b off, a = some ⟨b, off, none⟩ ∧ b < w.heap.size ∧ ∀ (j : Nat) (d : Dt), ds[j]? = some d → ∃ u, w.cell? ⟨b, off + j, none⟩ = some u ∧ Rdt w d u) := by
  cases h with
  | nil size => exact ⟨none, 0, 0, rfl, by simp [Hid], by omega, by omega, fun h => by omega⟩
  | @mk size n b off cap ds us hl hu hn hc hb hcell hd =>
    refine ⟨_, n, cap, rfl, hl, hn, by unfold maxLen at hc; omega, fun _ => ⟨b, off, rfl, hb, fun j d hj => ?_⟩⟩
    have hju : j < us.length := by have := (List.getElem?_eq_some_iff.1 hj).1; omega
    exact ⟨us[j], hcell j _ (List.getElem?_eq_getElem hju), hd j _ _ hj (List.getElem?_eq_getElem hju)⟩

/-- Only these blocks have been written, and memory has been made. -/
structure Wr (w w' : World) (fp : List Nat) : Prop where
  os : w'.os = w.os
  tape : w'.tape = w.tape
  output : w'.output = w.output
  size : w.heap.size ≤ w'.heap.size
  block : ∀ k, k < w.heap.size → k ∉ fp → w'.heap[k]? = w.heap[k]?
theorem Wr.refl (w : World) (fp : List Nat) : Wr w w fp := ⟨rfl, rfl, rfl, Nat.le_refl _, fun _ _ _ => rfl⟩
theorem Wr.trans {a b c : World} {fp : List Nat} (h : Wr a b fp) (k : Wr b c fp) : Wr a c fp :=
  ⟨k.os.trans h.os, k.tape.trans h.tape, k.output.trans h.output, Nat.le_trans h.size k.size, fun i hi hn => (k.block i (Nat.lt_of_lt_of_le hi h.size) hn).trans (h.block i hi hn)⟩
theorem Wr.mono {a b : World} {fp fq : List Nat} (h : Wr a b fp) (hm : ∀ k ∈ fp, k ∈ fq) : Wr a b fq := ⟨h.os, h.tape, h.output, h.size, fun k hk hn => h.block k hk fun e => hn (hm k e)⟩
theorem Wr.of_below {a b : World} {fp : List Nat} (h : Below a.heap.size a b) : Wr a b fp := ⟨h.os, h.tape, h.output, h.size, fun k hk _ => h.block k hk⟩
theorem Wr.of_grown {a b : World} {v : Value} {fp : List Nat} (h : a.grownBy b v.ownBlock) (hv : ∀ k, v.ownBlock = some k → k ∈ fp) : Wr a b fp := ⟨h.os, h.tape, h.output, h.size, fun k hk hn => h.block k hk fun e => hn (hv k e.symm)⟩
theorem Wr.of_set (a : World) {g j : Nat} {u : Value} {fp : List Nat} (hg : g ∈ fp) : Wr a (a.setCell ⟨g, j, none⟩ u) fp :=
  ⟨rfl, rfl, rfl, by simp, fun k _ hn => heap_setCell_other a ⟨g, j, none⟩ k u fun e => hn (by rw [show k = g from e]; exact hg)⟩
theorem Wr.below {a b u : World} {fp : List Nat} {B : Nat} (h : Wr a b fp) (hb : Below B u a) (hB : B ≤ a.heap.size) (hf : ∀ k ∈ fp, B ≤ k) : Below B u b :=
  ⟨h.os.trans hb.os, h.tape.trans hb.tape, h.output.trans hb.output, Nat.le_trans hb.size h.size, fun k hk => (h.block k (Nat.lt_of_lt_of_le hk hB) fun e => by have := hf k e; omega).trans (hb.block k hk)⟩
theorem Odt.apart {w w' : World} {d : Dt} {v : Value} {fp fq : List Nat} (h : Odt w d v fp) (hw : Wr w w' fq) (hd : ∀ k ∈ fp, k ∉ fq) : Odt w' d v fp := h.kept fun b hb => hw.block b (h.lt b hb) (hd b hb)

/-- An element's own memory has been turned. -/
theorem Odt.deep {w w' : World} {size : Nat} {ds : List Dt} {v : Value} {fp : List Nat} (h : Odt w (.rows size ds) v fp) (hn : fp.Nodup) {j : Nat} {d : Dt} (hj : ds[j]? = some d) :
    ∃ g off n cap u f, v = .slice (some ⟨g, off, none⟩) n cap ∧ w.cell? ⟨g, off + j, none⟩ = some u ∧ Odt w d u f ∧ (∀ k ∈ f, k ∈ fp) ∧ f.Nodup ∧ g ∉ f ∧
      ∀ (w' : World) (d' : Dt), Odt w' d' u f → Wr w w' f → Odt w' (.rows size (ds.set j d')) v fp := by
  cases h with
  | nil size => simp at hj
  | @mk size n g off cap ds us fs cur T hl hu hf hnc hc hg hcs ht hd =>
    have hjl : j < ds.length := (List.getElem?_eq_some_iff.1 hj).1
    have hju : us[j]? = some (us[j]'(by omega)) := List.getElem?_eq_getElem (by omega)
    have hjf : fs[j]? = some (fs[j]'(by omega)) := List.getElem?_eq_getElem (by omega)
    obtain ⟨hgn, hfn⟩ := List.nodup_cons.1 hn
    have hsub : ∀ k ∈ fs[j]'(by omega), k ∈ fs.flatten := fun k hk => List.mem_flatten.2 ⟨_, List.getElem_mem _, hk⟩
    obtain ⟨hf1, hf2⟩ := List.pairwise_flatten.1 (show List.Pairwise (· ≠ ·) fs.flatten from hfn)
    have hf2' := List.pairwise_iff_getElem.1 hf2
    refine ⟨g, off, n, cap, _, _, rfl, row_cell hg ht hju (by omega), hd j d _ _ hj hju hjf, fun k hk => List.mem_cons_of_mem _ (hsub k hk), hf1 _ (List.getElem_mem _), fun e => hgn (hsub g e), fun w' d' h' hw => ?_⟩
    refine .mk (by rw [List.length_set]; exact hl) (by rw [List.length_set]; exact hu) (by rw [List.length_set]; exact hf) hnc hc (by rw [hw.block g (Array.getElem?_eq_some_iff.1 hg).1 (fun e => hgn (hsub g e))]; exact hg) hcs ht (fun i d2 u2 f2 h1 h2 h3 => ?_)
    by_cases e : j = i
    · subst e
      rw [List.getElem?_set_self hjl] at h1
      rw [hju] at h2
      rw [hjf] at h3
      cases h1; cases h2; cases h3
      exact h'
    · rw [List.getElem?_set_ne e] at h1
      refine (hd i d2 u2 f2 h1 h2 h3).apart hw fun k hk hk2 => ?_
      have hil : i < fs.length := (List.getElem?_eq_some_iff.1 h3).1
      have e3 : fs[i] = f2 := (List.getElem?_eq_some_iff.1 h3).2
      rw [← e3] at hk
      rcases Nat.lt_or_gt_of_ne e with hlt | hgt
      · exact hf2' j i (by omega) hil hlt k hk2 k hk rfl
      · exact hf2' i j hil (by omega) hgt k hk k hk2 rfl

/-- A store into an element's own cell. -/
theorem Odt.store {w : World} {size : Nat} {ds : List Dt} {v : Value} {fp : List Nat} (h : Odt w (.rows size ds) v fp) (hn : fp.Nodup) {j : Nat} {u : Value} (hj : ds[j]? = some (.leaf u)) (u' : Value) :
    ∃ g off n cap, v = .slice (some ⟨g, off, none⟩) n cap ∧ w.cell? ⟨g, off + j, none⟩ = some u ∧ w.frozen? ⟨g, off + j, none⟩ = false ∧ g ∈ fp ∧
      Odt (w.setCell ⟨g, off + j, none⟩ u') (.rows size (ds.set j (.leaf u'))) v fp ∧ Wr w (w.setCell ⟨g, off + j, none⟩ u') fp := by
  cases h with
  | nil size => simp at hj
  | @mk size n g off cap ds us fs cur T hl hu hf hnc hc hg hcs ht hd =>
    have hjl : j < ds.length := (List.getElem?_eq_some_iff.1 hj).1
    have hju : us[j]? = some (us[j]'(by omega)) := List.getElem?_eq_getElem (by omega)
    have hjf : fs[j]? = some (fs[j]'(by omega)) := List.getElem?_eq_getElem (by omega)
    obtain ⟨hgn, hfn⟩ := List.nodup_cons.1 hn
    have hlf := hd j _ _ _ hj hju hjf
    obtain ⟨hu2, hfe⟩ := hlf.leaf_inv
    refine ⟨g, off, n, cap, rfl, by rw [row_cell hg ht hju (by omega), hu2], frozen_of_row _ _ _ _ _ hg, by simp, ?_, Wr.of_set w (by simp)⟩
    have hg' := heap_setCell_same w g (off + j) cur T u' hg
    refine .mk (us := us.set j u') (by rw [List.length_set]; exact hl) (by rw [List.length_set, List.length_set]; exact hu) (by rw [List.length_set]; exact hf) hnc hc hg' (by simpa using hcs) ?_ (fun i d2 u2 f2 h1 h2 h3 => ?_)
    · rw [Array.toList_setIfInBounds, List.drop_set, if_neg (by omega), Nat.add_sub_cancel_left, List.take_set, ht]
    · by_cases e : j = i
      · subst e
        rw [List.getElem?_set_self hjl] at h1
        rw [List.getElem?_set_self (by omega)] at h2
        rw [hjf, hfe] at h3
        cases h1; cases h2; cases h3
        exact .leaf u'
      · rw [List.getElem?_set_ne e] at h1 h2
        refine (hd i d2 u2 f2 h1 h2 h3).apart (Wr.of_set w (fp := [g]) (by simp)) fun k hk hk2 => ?_
        have : k = g := by simpa using hk2
        subst this
        exact hgn (List.mem_flatten.2 ⟨f2, List.mem_of_getElem? h3, hk⟩)

/-- A slice of integers. -/
def inD (xs : List Int) : Dt := .rows 1 (xs.map fun x => .leaf (.int .i64 x))
theorem Rdt.toRd {w : World} {xs : List Int} {v : Value} (h : Rdt w (inD xs) v) : Rd w v xs := by
  unfold inD at h
  generalize hD : (xs.map fun x => Dt.leaf (.int .i64 x)) = ds at h
  cases h with
  | nil size => exact .inl ⟨rfl, by simpa using hD⟩
  | @mk size n b off cap ds us hl hu hn hc hb hcell hd =>
    have hlen : xs.length = n := by rw [← hD] at hl; simpa using hl
    subst hlen
    refine .inr ⟨b, off, cap, rfl, hn, hc, hb, fun j hj => ?_⟩
    have hju : j < us.length := by omega
    have h1 := hd j (.leaf (.int .i64 xs[j])) us[j] (by rw [← hD]; simp [hj]) (List.getElem?_eq_getElem hju)
    have h2 : us[j] = .int .i64 xs[j] := h1.leaf_inv
    rw [hcell j _ (List.getElem?_eq_getElem hju), h2, List.getElem?_eq_getElem hj]; rfl
theorem Own.tree {w : World} {base : Nat} {v : Value} {xs : List Int} (h : Own w base v xs) : ∃ fp, Odt w (inD xs) v fp ∧ fp.Nodup ∧ (∀ k ∈ fp, v.ownBlock = some k) := by
  rcases h with ⟨rfl, rfl⟩ | ⟨g, off, cap, cur, rfl, hb, ⟨T, hg⟩, h1, h2, h3, h4⟩
  · exact ⟨[], .nil 1, List.nodup_nil, fun k hk => by cases hk⟩
  · refine ⟨[g], ?_, by simp, fun k hk => by simp at hk; subst hk; rfl⟩
    have hfl : (List.replicate xs.length ([] : List Nat)).flatten = [] := by simp
    have := Odt.mk (w := w) (size := 1) (n := xs.length) (g := g) (off := off) (cap := cap) (ds := xs.map fun x => Dt.leaf (.int .i64 x)) (us := ints xs) (fs := List.replicate xs.length []) (by simp) (by simp) (by simp) h1 h2 hg (by omega) (by rw [Nat.mul_one]; exact h4)
      (fun j d u f e1 e2 e3 => by
        have hj : j < xs.length := by have := (List.getElem?_eq_some_iff.1 e1).1; simpa using this
        simp [hj] at e1 e2 e3
        subst e1; subst e2; subst e3
        exact .leaf _)
    rw [hfl] at this
    exact this
theorem Odt.toOwn {w : World} {base : Nat} {v : Value} {xs : List Int} {fp : List Nat} (h : Odt w (inD xs) v fp) (hb : ∀ k ∈ fp, base ≤ k) : Own w base v xs ∧ ∀ k, v.ownBlock = some k → k ∈ fp := by
  unfold inD at h
  generalize hD : (xs.map fun x => Dt.leaf (.int .i64 x)) = ds at h
  cases h with
  | nil size => exact ⟨.inl ⟨rfl, by simpa using hD⟩, fun k hk => by simp [Value.ownBlock] at hk⟩
  | @mk size n g off cap ds us fs cur T hl hu hf hn hc hg hcs ht hd =>
    have hlen : xs.length = n := by rw [← hD] at hl; simpa using hl
    subst hlen
    have hus : us = ints xs := by
      apply List.ext_getElem?
      intro j
      by_cases hj : j < xs.length
      · have hju : j < us.length := by omega
        have hjf : j < fs.length := by omega
        have h1 := hd j (.leaf (.int .i64 xs[j])) us[j] fs[j] (by rw [← hD]; simp [hj]) (List.getElem?_eq_getElem hju) (List.getElem?_eq_getElem hjf)
        have h2 : us[j] = .int .i64 xs[j] := h1.leaf_inv.1
        rw [List.getElem?_eq_getElem hju, h2]; simp [hj]
      · rw [List.getElem?_eq_none (by omega), List.getElem?_eq_none (by simp; omega)]
    refine ⟨.inr ⟨g, off, cap, cur, rfl, hb g (by simp), ⟨T, hg⟩, hn, hc, by omega, by rw [Nat.mul_one] at ht; rw [ht, hus]⟩, fun k hk => by simp [Value.ownBlock] at hk; subst hk; simp⟩
end Go.Proofs.Ytphhenlokbodnaa
