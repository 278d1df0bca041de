/- Joined: XTre XDpP XRwt XFlt XNamF XFib XCmp. -/
import Derived.Test.YtmkkdenhjfjmgaaGreatBf01
import Derived.Deep.AppendLies
import Derived.Deep.Slices
import Derived.Lib.SmallJoins
namespace Go.Proofs.YtmkkdenhjfjmgaaGreat
open Go.RowKit

/-- A cell's own value, or a slice: its elements' size in cells, and its cells. -/
inductive Dt where
  | leaf (v : Value)
  | rows (size : Nat) (ds : List Dt)

/-- The value reads as the data. -/
inductive Rdt (w : World) : Dt → Value → Prop
  | leaf (u : Value) : Rdt w (.leaf u) u
  | nil (size : Nat) : Rdt w (.rows size []) (.slice none 0 0)
  | mk {size n b off cap : Nat} {ds : List Dt} {us : List Value} (hl : ds.length = n * size) (hu : us.length = ds.length) (hn : n ≤ cap) (hc : cap ≤ maxLen) (hb : b < w.heap.size)
      (hcell : ∀ (j : Nat) (u : Value), us[j]? = some u → w.cell? ⟨b, off + j, none⟩ = some u) (hd : ∀ (j : Nat) (d : Dt) (u : Value), ds[j]? = some d → us[j]? = some u → Rdt w d u) : Rdt w (.rows size ds) (.slice (some ⟨b, off, none⟩) n cap)

/-- The value reads as the data, and lies in blocks of the call's own: these. -/
inductive Odt (w : World) : Dt → Value → List Nat → Prop
  | leaf (u : Value) : Odt w (.leaf u) u []
  | nil (size : Nat) : Odt w (.rows size []) (.slice none 0 0) []
  | mk {size n g off cap : Nat} {ds : List Dt} {us : List Value} {fs : List (List Nat)} {cur : Array Value} {T : TypeId} (hl : ds.length = n * size) (hu : us.length = ds.length) (hf : fs.length = ds.length) (hn : n ≤ cap) (hc : cap ≤ maxLen)
      (hg : w.heap[g]? = some (.cells cur T (0, 0))) (hcs : off + cap * size ≤ cur.size) (ht : (cur.toList.drop off).take (n * size) = us)
      (hd : ∀ (j : Nat) (d : Dt) (u : Value) (f : List Nat), ds[j]? = some d → us[j]? = some u → fs[j]? = some f → Odt w d u f) : Odt w (.rows size ds) (.slice (some ⟨g, off, none⟩) n cap) (g :: fs.flatten)

theorem Rdt.leaf_inv {w : World} {u v : Value} (h : Rdt w (.leaf u) v) : v = u := by cases h; rfl
theorem Odt.leaf_inv {w : World} {u v : Value} {fp : List Nat} (h : Odt w (.leaf u) v fp) : v = u ∧ fp = [] := by cases h; exact ⟨rfl, rfl⟩
theorem Rdt.kept {w w' : World} {d : Dt} {v : Value} (h : Rdt w d v) (hs : w.heap.size ≤ w'.heap.size) (hk : ∀ p : Addr, p.block < w.heap.size → w'.cell? p = w.cell? p) : Rdt w' d v := by
  induction h with
  | leaf u => exact .leaf u
  | nil size => exact .nil size
  | mk hl hu hn hc hb hcell hd ih =>
    exact .mk hl hu hn hc (by omega) (fun j u hj => (hk _ hb).trans (hcell j u hj)) (fun j d u h1 h2 => ih j d u h1 h2)
theorem Rdt.behind {w w' : World} {d : Dt} {v : Value} (h : Rdt w d v) (hb : Below w.heap.size w w') : Rdt w' d v := h.kept hb.size (fun _ hp => hb.cell hp)
theorem Odt.kept {w w' : World} {d : Dt} {v : Value} {fp : List Nat} (h : Odt w d v fp) (hk : ∀ b ∈ fp, w'.heap[b]? = w.heap[b]?) : Odt w' d v fp := by
  induction h with
  | leaf u => exact .leaf u
  | nil size => exact .nil size
  | @mk size n g off cap ds us fs cur T hl hu hf hn hc hg hcs ht hd ih =>
    refine .mk hl hu hf hn hc (by rw [hk g (by simp)]; exact hg) hcs ht (fun j d u f h1 h2 h3 => ih j d u f h1 h2 h3 fun b hb => hk b ?_)
    exact List.mem_cons_of_mem _ (List.mem_flatten.2 ⟨f, List.mem_of_getElem? h3, hb⟩)
theorem Odt.lt {w : World} {d : Dt} {v : Value} {fp : List Nat} (h : Odt w d v fp) : ∀ b ∈ fp, b < w.heap.size := by
  induction h with
  | leaf u => intro b hb; cases hb
  | nil size => intro b hb; cases hb
  | @mk size n g off cap ds us fs cur T hl hu hf hn hc hg hcs ht hd ih =>
    intro b hb
    rcases List.mem_cons.1 hb with rfl | hb
    · exact (Array.getElem?_eq_some_iff.1 hg).1
    · obtain ⟨f, hf1, hf2⟩ := List.mem_flatten.1 hb
      obtain ⟨j, hj, e⟩ := List.mem_iff_getElem.1 hf1
      exact ih j (ds[j]'(by omega)) (us[j]'(by omega)) f (List.getElem?_eq_getElem _) (List.getElem?_eq_getElem _) (by rw [List.getElem?_eq_getElem hj, e]) b hf2
theorem Odt.behind {w w' : World} {d : Dt} {v : Value} {fp : List Nat} (h : Odt w d v fp) (hb : Below w.heap.size w w') : Odt w' d v fp := h.kept fun b hb' => hb.block b (h.lt b hb')
theorem row_cell {w : World} {g off m : Nat} {cur : Array Value} {T : TypeId} {us : List Value} (hg : w.heap[g]? = some (.cells cur T (0, 0))) (ht : (cur.toList.drop off).take m = us) {j : Nat} {u : Value} (hj : us[j]? = some u) (hm : us.length = m) : w.cell? ⟨g, off + j, none⟩ = some u := by
  rw [cell_of_row _ _ _ _ _ _ hg, ← Array.getElem?_toList]
  have hlt : j < m := by have := (List.getElem?_eq_some_iff.1 hj).1; omega
  have h2 : ((cur.toList.drop off).take m)[j]? = some u := by rw [ht]; exact hj
  rw [List.getElem?_take, if_pos hlt, List.getElem?_drop] at h2
  exact h2
theorem Odt.rd {w : World} {d : Dt} {v : Value} {fp : List Nat} (h : Odt w d v fp) : Rdt w d v := by
  induction h with
  | leaf u => exact .leaf u
  | nil size => exact .nil size
  | @mk size n g off cap ds us fs cur T hl hu hf hn hc hg hcs ht hd ih =>
    refine .mk (us := us) hl hu hn hc (Array.getElem?_eq_some_iff.1 hg).1 (fun j u hj => row_cell hg ht hj (by omega)) (fun j d u h1 h2 => ?_)
    have hj : j < fs.length := by have := (List.getElem?_eq_some_iff.1 h1).1; omega
    exact ih j d u _ h1 h2 (List.getElem?_eq_getElem hj)

/-- For a walk: the rows of a slice. -/
theorem Rdt.opn {w : World} {size : Nat} {ds : List Dt} {v : Value} (h : Rdt w (.rows size ds) v) : ∃ a n cap, v = .slice a n cap ∧ Hid (ds.length = n * size) ∧ n ≤ cap ∧ n ≤ 9223372036854775807 ∧
    (0 < n → ∃ b off, a = some ⟨b, off, none⟩ ∧ b < w.heap.size ∧ ∀ (j : Nat) (d : Dt), ds[j]? = some d → ∃ u, w.cell? ⟨b, off + j, none⟩ = some u ∧ Rdt w d u) := by
  cases h with
  | nil size => exact ⟨none, 0, 0, rfl, by simp [Hid], by omega, by omega, fun h => by omega⟩
  | @mk size n b off cap ds us hl hu hn hc hb hcell hd =>
    refine ⟨_, n, cap, rfl, hl, hn, by unfold maxLen at hc; omega, fun _ => ⟨b, off, rfl, hb, fun j d hj => ?_⟩⟩
    have hju : j < us.length := by have := (List.getElem?_eq_some_iff.1 hj).1; omega
    exact ⟨us[j], hcell j _ (List.getElem?_eq_getElem hju), hd j _ _ hj (List.getElem?_eq_getElem hju)⟩

/-- Only these blocks have been written, and memory has been made. -/
structure Wr (w w' : World) (fp : List Nat) : Prop where
  os : w'.os = w.os
  tape : w'.tape = w.tape
  output : w'.output = w.output
  size : w.heap.size ≤ w'.heap.size
  block : ∀ k, k < w.heap.size → k ∉ fp → w'.heap[k]? = w.heap[k]?
theorem Wr.refl (w : World) (fp : List Nat) : Wr w w fp := ⟨rfl, rfl, rfl, Nat.le_refl _, fun _ _ _ => rfl⟩
theorem Wr.trans {a b c : World} {fp : List Nat} (h : Wr a b fp) (k : Wr b c fp) : Wr a c fp :=
  ⟨k.os.trans h.os, k.tape.trans h.tape, k.output.trans h.output, Nat.le_trans h.size k.size, fun i hi hn => (k.block i (Nat.lt_of_lt_of_le hi h.size) hn).trans (h.block i hi hn)⟩
theorem Wr.mono {a b : World} {fp fq : List Nat} (h : Wr a b fp) (hm : ∀ k ∈ fp, k ∈ fq) : Wr a b fq := ⟨h.os, h.tape, h.output, h.size, fun k hk hn => h.block k hk fun e => hn (hm k e)⟩
theorem Wr.of_below {a b : World} {fp : List Nat} (h : Below a.heap.size a b) : Wr a b fp := ⟨h.os, h.tape, h.output, h.size, fun k hk _ => h.block k hk⟩
theorem Wr.of_grown {a b : World} {v : Value} {fp : List Nat} (h : a.grownBy b v.ownBlock) (hv : ∀ k, v.ownBlock = some k → k ∈ fp) : Wr a b fp := ⟨h.os, h.tape, h.output, h.size, fun k hk hn => h.block k hk fun e => hn (hv k e.symm)⟩
theorem Wr.of_set (a : World) {g j : Nat} {u : Value} {fp : List Nat} (hg : g ∈ fp) : Wr a (a.setCell ⟨g, j, none⟩ u) fp :=
  ⟨rfl, rfl, rfl, by simp, fun k _ hn => heap_setCell_other a ⟨g, j, none⟩ k u fun e => hn (by rw [show k = g from e]; exact hg)⟩
theorem Wr.below {a b u : World} {fp : List Nat} {B : Nat} (h : Wr a b fp) (hb : Below B u a) (hB : B ≤ a.heap.size) (hf : ∀ k ∈ fp, B ≤ k) : Below B u b :=
  ⟨h.os.trans hb.os, h.tape.trans hb.tape, h.output.trans hb.output, Nat.le_trans hb.size h.size, fun k hk => (h.block k (Nat.lt_of_lt_of_le hk hB) fun e => by have := hf k e; omega).trans (hb.block k hk)⟩
theorem Odt.apart {w w' : World} {d : Dt} {v : Value} {fp fq : List Nat} (h : Odt w d v fp) (hw : Wr w w' fq) (hd : ∀ k ∈ fp, k ∉ fq) : Odt w' d v fp := h.kept fun b hb => hw.block b (h.lt b hb) (hd b hb)

/-- An element's own memory has been turned. -/
theorem Odt.deep {w w' : World} {size : Nat} {ds : List Dt} {v : Value} {fp : List Nat} (h : Odt w (.rows size ds) v fp) (hn : fp.Nodup) {j : Nat} {d : Dt} (hj : ds[j]? = some d) :
    ∃ g off n cap u f, v = .slice (some ⟨g, off, none⟩) n cap ∧ w.cell? ⟨g, off + j, none⟩ = some u ∧ Odt w d u f ∧ (∀ k ∈ f, k ∈ fp) ∧ f.Nodup ∧ g ∉ f ∧
      ∀ (w' : World) (d' : Dt), Odt w' d' u f → Wr w w' f → Odt w' (.rows size (ds.set j d')) v fp := by
  cases h with
  | nil size => simp at hj
  | @mk size n g off cap ds us fs cur T hl hu hf hnc hc hg hcs ht hd =>
    have hjl : j < ds.length := (List.getElem?_eq_some_iff.1 hj).1
    have hju : us[j]? = some (us[j]'(by omega)) := List.getElem?_eq_getElem (by omega)
    have hjf : fs[j]? = some (fs[j]'(by omega)) := List.getElem?_eq_getElem (by omega)
    obtain ⟨hgn, hfn⟩ := List.nodup_cons.1 hn
    have hsub : ∀ k ∈ fs[j]'(by omega), k ∈ fs.flatten := fun k hk => List.mem_flatten.2 ⟨_, List.getElem_mem _, hk⟩
    obtain ⟨hf1, hf2⟩ := List.pairwise_flatten.1 (show List.Pairwise (· ≠ ·) fs.flatten from hfn)
    have hf2' := List.pairwise_iff_getElem.1 hf2
    refine ⟨g, off, n, cap, _, _, rfl, row_cell hg ht hju (by omega), hd j d _ _ hj hju hjf, fun k hk => List.mem_cons_of_mem _ (hsub k hk), hf1 _ (List.getElem_mem _), fun e => hgn (hsub g e), fun w' d' h' hw => ?_⟩
    refine .mk (by rw [List.length_set]; exact hl) (by rw [List.length_set]; exact hu) (by rw [List.length_set]; exact hf) hnc hc (by rw [hw.block g (Array.getElem?_eq_some_iff.1 hg).1 (fun e => hgn (hsub g e))]; exact hg) hcs ht (fun i d2 u2 f2 h1 h2 h3 => ?_)
    by_cases e : j = i
    · subst e
      rw [List.getElem?_set_self hjl] at h1
      rw [hju] at h2
      rw [hjf] at h3
      cases h1; cases h2; cases h3
      exact h'
    · rw [List.getElem?_set_ne e] at h1
      refine (hd i d2 u2 f2 h1 h2 h3).apart hw fun k hk hk2 => ?_
      have hil : i < fs.length := (List.getElem?_eq_some_iff.1 h3).1
      have e3 : fs[i] = f2 := (List.getElem?_eq_some_iff.1 h3).2
      rw [← e3] at hk
      rcases Nat.lt_or_gt_of_ne e with hlt | hgt
      · exact hf2' j i (by omega) hil hlt k hk2 k hk rfl
      · exact hf2' i j hil (by omega) hgt k hk k hk2 rfl

/-- A store into an element's own cell. -/
theorem Odt.store {w : World} {size : Nat} {ds : List Dt} {v : Value} {fp : List Nat} (h : Odt w (.rows size ds) v fp) (hn : fp.Nodup) {j : Nat} {u : Value} (hj : ds[j]? = some (.leaf u)) (u' : Value) :
    ∃ g off n cap, v = .slice (some ⟨g, off, none⟩) n cap ∧ w.cell? ⟨g, off + j, none⟩ = some u ∧ w.frozen? ⟨g, off + j, none⟩ = false ∧ g ∈ fp ∧
      Odt (w.setCell ⟨g, off + j, none⟩ u') (.rows size (ds.set j (.leaf u'))) v fp ∧ Wr w (w.setCell ⟨g, off + j, none⟩ u') fp := by
  cases h with
  | nil size => simp at hj
  | @mk size n g off cap ds us fs cur T hl hu hf hnc hc hg hcs ht hd =>
    have hjl : j < ds.length := (List.getElem?_eq_some_iff.1 hj).1
    have hju : us[j]? = some (us[j]'(by omega)) := List.getElem?_eq_getElem (by omega)
    have hjf : fs[j]? = some (fs[j]'(by omega)) := List.getElem?_eq_getElem (by omega)
    obtain ⟨hgn, hfn⟩ := List.nodup_cons.1 hn
    have hlf := hd j _ _ _ hj hju hjf
    obtain ⟨hu2, hfe⟩ := hlf.leaf_inv
    refine ⟨g, off, n, cap, rfl, by rw [row_cell hg ht hju (by omega), hu2], frozen_of_row _ _ _ _ _ hg, by simp, ?_, Wr.of_set w (by simp)⟩
    have hg' := heap_setCell_same w g (off + j) cur T u' hg
    refine .mk (us := us.set j u') (by rw [List.length_set]; exact hl) (by rw [List.length_set, List.length_set]; exact hu) (by rw [List.length_set]; exact hf) hnc hc hg' (by simpa using hcs) ?_ (fun i d2 u2 f2 h1 h2 h3 => ?_)
    · rw [Array.toList_setIfInBounds, List.drop_set, if_neg (by omega), Nat.add_sub_cancel_left, List.take_set, ht]
    · by_cases e : j = i
      · subst e
        rw [List.getElem?_set_self hjl] at h1
        rw [List.getElem?_set_self (by omega)] at h2
        rw [hjf, hfe] at h3
        cases h1; cases h2; cases h3
        exact .leaf u'
      · rw [List.getElem?_set_ne e] at h1 h2
        refine (hd i d2 u2 f2 h1 h2 h3).apart (Wr.of_set w (fp := [g]) (by simp)) fun k hk hk2 => ?_
        have : k = g := by simpa using hk2
        subst this
        exact hgn (List.mem_flatten.2 ⟨f2, List.mem_of_getElem? h3, hk⟩)

/-- A slice of integers. -/
def inD (xs : List Int) : Dt := .rows 1 (xs.map fun x => .leaf (.int .i64 x))
theorem Rdt.toRd {w : World} {xs : List Int} {v : Value} (h : Rdt w (inD xs) v) : Rd w v xs := by
  unfold inD at h
  generalize hD : (xs.map fun x => Dt.leaf (.int .i64 x)) = ds at h
  cases h with
  | nil size => exact .inl ⟨rfl, by simpa using hD⟩
  | @mk size n b off cap ds us hl hu hn hc hb hcell hd =>
    have hlen : xs.length = n := by rw [← hD] at hl; simpa using hl
    subst hlen
    refine .inr ⟨b, off, cap, rfl, hn, hc, hb, fun j hj => ?_⟩
    have hju : j < us.length := by omega
    have h1 := hd j (.leaf (.int .i64 xs[j])) us[j] (by rw [← hD]; simp [hj]) (List.getElem?_eq_getElem hju)
    have h2 : us[j] = .int .i64 xs[j] := h1.leaf_inv
    rw [hcell j _ (List.getElem?_eq_getElem hju), h2, List.getElem?_eq_getElem hj]; rfl
theorem Own.tree {w : World} {base : Nat} {v : Value} {xs : List Int} (h : Own w base v xs) : ∃ fp, Odt w (inD xs) v fp ∧ fp.Nodup ∧ (∀ k ∈ fp, v.ownBlock = some k) := by
  rcases h with ⟨rfl, rfl⟩ | ⟨g, off, cap, cur, rfl, hb, ⟨T, hg⟩, h1, h2, h3, h4⟩
  · exact ⟨[], .nil 1, List.nodup_nil, fun k hk => by cases hk⟩
  · refine ⟨[g], ?_, by simp, fun k hk => by simp at hk; subst hk; rfl⟩
    have hfl : (List.replicate xs.length ([] : List Nat)).flatten = [] := by simp
    have := Odt.mk (w := w) (size := 1) (n := xs.length) (g := g) (off := off) (cap := cap) (ds := xs.map fun x => Dt.leaf (.int .i64 x)) (us := ints xs) (fs := List.replicate xs.length []) (by simp) (by simp) (by simp) h1 h2 hg (by omega) (by rw [Nat.mul_one]; exact h4)
      (fun j d u f e1 e2 e3 => by
        have hj : j < xs.length := by have := (List.getElem?_eq_some_iff.1 e1).1; simpa using this
        simp [hj] at e1 e2 e3
        subst e1; subst e2; subst e3
        exact .leaf _)
    rw [hfl] at this
    exact this
theorem Odt.toOwn {w : World} {base : Nat} {v : Value} {xs : List Int} {fp : List Nat} (h : Odt w (inD xs) v fp) (hb : ∀ k ∈ fp, base ≤ k) : Own w base v xs ∧ ∀ k, v.ownBlock = some k → k ∈ fp := by
  unfold inD at h
  generalize hD : (xs.map fun x => Dt.leaf (.int .i64 x)) = ds at h
  cases h with
  | nil size => exact ⟨.inl ⟨rfl, by simpa using hD⟩, fun k hk => by simp [Value.ownBlock] at hk⟩
  | @mk size n g off cap ds us fs cur T hl hu hf hn hc hg hcs ht hd =>
    have hlen : xs.length = n := by rw [← hD] at hl; simpa using hl
    subst hlen
    have hus : us = ints xs := by
      apply List.ext_getElem?
      intro j
      by_cases hj : j < xs.length
      · have hju : j < us.length := by omega
        have hjf : j < fs.length := by omega
        have h1 := hd j (.leaf (.int .i64 xs[j])) us[j] fs[j] (by rw [← hD]; simp [hj]) (List.getElem?_eq_getElem hju) (List.getElem?_eq_getElem hjf)
        have h2 : us[j] = .int .i64 xs[j] := h1.leaf_inv.1
        rw [List.getElem?_eq_getElem hju, h2]; simp [hj]
      · rw [List.getElem?_eq_none (by omega), List.getElem?_eq_none (by simp; omega)]
    refine ⟨.inr ⟨g, off, cap, cur, rfl, hb g (by simp), ⟨T, hg⟩, hn, hc, by omega, by rw [Nat.mul_one] at ht; rw [ht, hus]⟩, fun k hk => by simp [Value.ownBlock] at hk; subst hk; simp⟩
end Go.Proofs.YtmkkdenhjfjmgaaGreat
namespace Go.Proofs.YtmkkdenhjfjmgaaGreat
open Go.RowKit

def Ofr (w : World) (base : Nat) (d : Dt) (v : Value) : Prop := ∃ fp, Odt w d v fp ∧ fp.Nodup ∧ ∀ k ∈ fp, base ≤ k
theorem Ofr.rd {w : World} {base : Nat} {d : Dt} {v : Value} (h : Ofr w base d v) : Rdt w d v := by obtain ⟨fp, h, _⟩ := h; exact h.rd
theorem Ofr.mono {w : World} {b b' : Nat} {d : Dt} {v : Value} (h : Ofr w b d v) (hb : b' ≤ b) : Ofr w b' d v := by
  obtain ⟨fp, h1, h2, h3⟩ := h; exact ⟨fp, h1, h2, fun k hk => Nat.le_trans hb (h3 k hk)⟩
theorem Ofr.below {w w' : World} {base : Nat} {d : Dt} {v : Value} (h : Ofr w base d v) (hb : Below w.heap.size w w') : Ofr w' base d v := by
  obtain ⟨fp, h1, h2, h3⟩ := h; exact ⟨fp, h1.behind hb, h2, h3⟩
theorem Own.ofr {w : World} {base : Nat} {v : Value} {xs : List Int} (h : Own w base v xs) : Ofr w base (inD xs) v := by
  obtain ⟨fp, h1, h2, h3⟩ := h.tree
  exact ⟨fp, h1, h2, fun k hk => (h.lt k (h3 k hk)).1⟩
theorem Ofr.own {w : World} {base : Nat} {v : Value} {xs : List Int} (h : Ofr w base (inD xs) v) : Own w base v xs := by
  obtain ⟨fp, h1, _, h3⟩ := h; exact (h1.toOwn h3).1
theorem Ofr.nil (w : World) (base size : Nat) : Ofr w base (.rows size []) (.slice none 0 0) := ⟨[], .nil size, List.nodup_nil, fun k hk => by cases hk⟩

theorem nodup_flatten {fs : List (List Nat)} : fs.flatten.Nodup ↔ (∀ f ∈ fs, f.Nodup) ∧ List.Pairwise (fun a b => ∀ x ∈ a, ∀ y ∈ b, x ≠ y) fs := by
  unfold List.Nodup; exact List.pairwise_flatten
theorem mem_flat_get {fs : List (List Nat)} {k : Nat} (h : k ∈ fs.flatten) : ∃ j, ∃ hj : j < fs.length, k ∈ fs[j] := by
  obtain ⟨f, h1, h2⟩ := List.mem_flatten.1 h
  obtain ⟨j, hj, e⟩ := List.mem_iff_getElem.1 h1
  exact ⟨j, hj, by rw [e]; exact h2⟩
/-- New memory in the place of one element's. -/
theorem flat_put {fs : List (List Nat)} {f : List Nat} {lo j : Nat} (hn : fs.flatten.Nodup) (hlt : ∀ k ∈ fs.flatten, k < lo) (hf : f.Nodup) (hge : ∀ k ∈ f, lo ≤ k) :
    (fs.set j f).flatten.Nodup ∧ ∀ k ∈ (fs.set j f).flatten, k ∈ fs.flatten ∨ k ∈ f := by
  have hmem : ∀ k ∈ (fs.set j f).flatten, k ∈ fs.flatten ∨ k ∈ f := fun k hk => by
    obtain ⟨i, hi, h2⟩ := mem_flat_get hk
    rw [List.length_set] at hi
    by_cases e : j = i
    · subst e; rw [List.getElem_set_self] at h2; exact .inr h2
    · rw [List.getElem_set_ne e] at h2; exact .inl (List.mem_flatten.2 ⟨_, List.getElem_mem hi, h2⟩)
  refine ⟨?_, hmem⟩
  obtain ⟨h1, h2⟩ := nodup_flatten.1 hn
  rw [List.pairwise_iff_getElem] at h2
  have hlt' : ∀ i (hi : i < fs.length), ∀ k ∈ fs[i], k < lo := fun i hi k hk => hlt k (List.mem_flatten.2 ⟨_, List.getElem_mem hi, hk⟩)
  refine nodup_flatten.2 ⟨fun g hg => ?_, ?_⟩
  · obtain ⟨i, hi, rfl⟩ := List.mem_iff_getElem.1 hg
    rw [List.length_set] at hi
    by_cases e : j = i
    · subst e; rw [List.getElem_set_self]; exact hf
    · rw [List.getElem_set_ne e]; exact h1 _ (List.getElem_mem hi)
  · rw [List.pairwise_iff_getElem]
    intro a b ha hb hab x hx y hy
    rw [List.length_set] at ha hb
    by_cases ea : j = a
    · subst ea
      rw [List.getElem_set_self] at hx
      rw [List.getElem_set_ne (by omega)] at hy
      have := hge x hx; have := hlt' b hb y hy; omega
    · rw [List.getElem_set_ne ea] at hx
      by_cases eb : j = b
      · subst eb
        rw [List.getElem_set_self] at hy
        have := hge y hy; have := hlt' a ha x hx; omega
      · rw [List.getElem_set_ne eb] at hy
        exact h2 a b ha hb hab x hx y hy
/-- A store of new data into a cell. -/
theorem Ofr.put {wr w1 : World} {base size j : Nat} {ds : List Dt} {d : Dt} {v u : Value} (h : Ofr wr base (.rows size ds) v) (hbb : base ≤ wr.heap.size) (hb : Below wr.heap.size wr w1) (hu : Ofr w1 wr.heap.size d u) (hj : j < ds.length) :
    ∃ g off n cap, v = .slice (some ⟨g, off, none⟩) n cap ∧ base ≤ g ∧ g < wr.heap.size ∧ (∃ u0, w1.cell? ⟨g, off + j, none⟩ = some u0) ∧ w1.frozen? ⟨g, off + j, none⟩ = false ∧
      Ofr (w1.setCell ⟨g, off + j, none⟩ u) base (.rows size (ds.set j d)) v := by
  obtain ⟨fp, h1, h2, h3⟩ := h
  obtain ⟨f, k1, k2, k3⟩ := hu
  have hlt := h1.lt
  have h1' := h1.behind hb
  clear h1
  cases h1' with
  | nil size => simp at hj
  | @mk size n g off cap ds us fs cur T hl hus hf hn hc hg hcs ht hd =>
    obtain ⟨hgn, hfn⟩ := List.nodup_cons.1 h2
    have hg1 : g < wr.heap.size := hlt g (by simp)
    obtain ⟨q1, q2⟩ := flat_put (j := j) hfn (fun k hk => hlt k (List.mem_cons_of_mem _ hk)) k2 k3
    have hgq : g ∉ (fs.set j f).flatten := fun e => by
      rcases q2 g e with e | e
      · exact hgn e
      · have := k3 g e; omega
    have hju : j < us.length := by omega
    refine ⟨g, off, n, cap, rfl, h3 g (by simp), hg1, ⟨_, row_cell hg ht (List.getElem?_eq_getElem hju) (by omega)⟩, frozen_of_row _ _ _ _ _ hg, g :: (fs.set j f).flatten, ?_, List.nodup_cons.2 ⟨hgq, q1⟩, fun k hk => ?_⟩
    · have hg' := heap_setCell_same w1 g (off + j) cur T u hg
      refine .mk (us := us.set j u) (by rw [List.length_set]; exact hl) (by rw [List.length_set, List.length_set]; exact hus) (by rw [List.length_set, List.length_set]; exact hf) hn hc hg' (by simpa using hcs) ?_ (fun i d2 u2 f2 e1 e2 e3 => ?_)
      · rw [Array.toList_setIfInBounds, List.drop_set, if_neg (by omega), Nat.add_sub_cancel_left, List.take_set, ht]
      · have hset : ∀ k, k ≠ g → (w1.setCell ⟨g, off + j, none⟩ u).heap[k]? = w1.heap[k]? := fun k hk => heap_setCell_other w1 ⟨g, off + j, none⟩ k u hk
        by_cases e : j = i
        · subst e
          rw [List.getElem?_set_self hj] at e1
          rw [List.getElem?_set_self hju] at e2
          rw [List.getElem?_set_self (by omega)] at e3
          cases e1; cases e2; cases e3
          exact k1.kept fun k hk => hset k (by have := k3 k hk; omega)
        · rw [List.getElem?_set_ne e] at e1 e2 e3
          exact (hd i d2 u2 f2 e1 e2 e3).kept fun k hk => hset k (fun e => hgn (by rw [← e]; exact List.mem_flatten.2 ⟨f2, List.mem_of_getElem? e3, hk⟩))
    · rcases List.mem_cons.1 hk with rfl | hk
      · exact h3 k (by simp)
      · rcases q2 k hk with e | e
        · exact h3 k (List.mem_cons_of_mem _ e)
        · have := k3 k e; omega

/-- A row under way: what has been appended so far. -/
def Grw (w : World) (base : Nat) (T : TypeId) (size : Nat) (v : Value) (n : Nat) (ds : List Dt) : Prop :=
  ∃ (us : List Value) (fs : List (List Nat)), w.ownsRow base T size v n us ∧ us.length = ds.length ∧ fs.length = ds.length ∧ (∀ (j : Nat) (d : Dt) (u : Value) (f : List Nat), ds[j]? = some d → us[j]? = some u → fs[j]? = some f → Odt w d u f) ∧ fs.flatten.Nodup ∧ (∀ k ∈ fs.flatten, base ≤ k) ∧ ∀ g, v.ownBlock = some g → g ∉ fs.flatten
theorem Grw.flt {w : World} {ds : List Dt} {us : List Value} {fs : List (List Nat)} (h1 : us.length = ds.length) (h2 : fs.length = ds.length) (h : ∀ (j : Nat) (d : Dt) (u : Value) (f : List Nat), ds[j]? = some d → us[j]? = some u → fs[j]? = some f → Odt w d u f) : ∀ k ∈ fs.flatten, k < w.heap.size := fun k hk => by
  obtain ⟨j, hj, hk⟩ := mem_flat_get hk
  exact (h j _ _ _ (List.getElem?_eq_getElem (by omega)) (List.getElem?_eq_getElem (by omega)) (List.getElem?_eq_getElem hj)).lt k hk
theorem Grw.start {w : World} {base size : Nat} (T : TypeId) (hb : base ≤ w.heap.size) : Grw (w.alloc (.cells #[] T)) base T size (.slice (some ⟨w.heap.size, 0, none⟩) 0 0) 0 [] :=
  ⟨[], [], World.ownsRow_made w #[] 0 hb (Nat.zero_le _) (by simp), rfl, rfl, (fun j d u f h => by simp at h), List.nodup_nil, (fun k hk => by simp at hk), (fun g _ hk => by simp at hk)⟩
theorem Grw.own {w : World} {base size n : Nat} {T : TypeId} {v : Value} {ds : List Dt} (h : Grw w base T size v n ds) : ∀ k, v.ownBlock = some k → base ≤ k ∧ k < w.heap.size := by
  obtain ⟨us, fs, h, _⟩ := h; exact h.lt
theorem Grw.form {w : World} {base size n : Nat} {T : TypeId} {v : Value} {ds : List Dt} (h : Grw w base T size v n ds) : ds.length = n * size ∧ ∃ a cap, v = .slice a n cap := by
  obtain ⟨us, fs, h, h1, _⟩ := h
  refine ⟨by rw [← h1]; exact h.1, ?_⟩
  rcases h.2 with ⟨rfl, rfl⟩ | ⟨g, cap, cur, rfl, _⟩
  · exact ⟨none, 0, rfl⟩
  · exact ⟨_, cap, rfl⟩
theorem Grw.below {w w' : World} {base size n : Nat} {T : TypeId} {v : Value} {ds : List Dt} (h : Grw w base T size v n ds) (hb : Below w.heap.size w w') : Grw w' base T size v n ds := by
  obtain ⟨us, fs, h1, h2, h3, h4, h5, h6, h7⟩ := h
  refine ⟨us, fs, ⟨h1.1, ?_⟩, h2, h3, fun j d u f e1 e2 e3 => (h4 j d u f e1 e2 e3).behind hb, h5, h6, h7⟩
  rcases h1.2 with h | ⟨g, cap, cur, rfl, q1, q2, q3⟩
  · exact .inl h
  · exact .inr ⟨g, cap, cur, rfl, q1, by rw [hb.block g (Array.getElem?_eq_some_iff.1 q2).1]; exact q2, q3⟩
theorem Grw.ofr {w : World} {base size n : Nat} {T : TypeId} {v : Value} {ds : List Dt} (h : Grw w base T size v n ds) : Ofr w base (.rows size ds) v := by
  obtain ⟨us, fs, h1, h2, h3, h4, h5, h6, h7⟩ := h
  rcases h1.2 with ⟨rfl, rfl⟩ | ⟨g, cap, cur, rfl, q1, q2, q3, q4, q5, q6⟩
  · have : ds = [] := List.eq_nil_of_length_eq_zero (by have := h1.1; omega)
    subst this
    exact Ofr.nil _ _ _
  · have hgn : g ∉ fs.flatten := h7 g rfl
    refine ⟨g :: fs.flatten, .mk (us := us) (by rw [← h2]; exact h1.1) h2 h3 q3 q4 q2 (by omega) (by rw [List.drop_zero]; exact q6) h4, List.nodup_cons.2 ⟨hgn, h5⟩, fun k hk => ?_⟩
    rcases List.mem_cons.1 hk with rfl | hk
    · exact q1
    · exact h6 k hk
/-- The cells of a new element. -/
def Newd (w : World) (lo : Nat) (news : List Value) (ds : List Dt) : Prop := ∃ fs : List (List Nat), news.length = ds.length ∧ fs.length = ds.length ∧ (∀ (j : Nat) (d : Dt) (u : Value) (f : List Nat), ds[j]? = some d → news[j]? = some u → fs[j]? = some f → Odt w d u f) ∧ fs.flatten.Nodup ∧ ∀ k ∈ fs.flatten, lo ≤ k
theorem Newd.one {w : World} {lo : Nat} {d : Dt} {u : Value} (h : Ofr w lo d u) : Newd w lo [u] [d] := by
  obtain ⟨fp, h1, h2, h3⟩ := h
  refine ⟨[fp], rfl, rfl, fun j d' u' f' e1 e2 e3 => ?_, by simpa using h2, by simpa using h3⟩
  match j with
  | 0 => simp at e1 e2 e3; subst e1; subst e2; subst e3; exact h1
  | j + 1 => simp at e1
theorem Newd.leaf {w : World} {lo : Nat} {us : List Value} {ds : List Dt} (h : Newd w lo us ds) (x : Value) : Newd w lo (x :: us) (.leaf x :: ds) := by
  obtain ⟨fs, h1, h2, h3, h4, h5⟩ := h
  refine ⟨[] :: fs, by simp [h1], by simp [h2], fun j d' u' f' e1 e2 e3 => ?_, by simpa using h4, by simpa using h5⟩
  match j with
  | 0 => simp at e1 e2 e3; subst e1; subst e2; subst e3; exact .leaf x
  | j + 1 => simp at e1 e2 e3; exact h3 j d' u' f' e1 e2 e3
theorem Newd.nil (w : World) (lo : Nat) : Newd w lo [] [] := ⟨[], rfl, rfl, fun j d u f e => by simp at e, List.nodup_nil, fun k hk => by cases hk⟩
theorem Grw.pushed {w w2 w3 : World} {base size n g cap : Nat} {T : TypeId} {v : Value} {ds ds' : List Dt} {news us : List Value} {fs : List (List Nat)}
    (h2 : us.length = ds.length) (h3 : fs.length = ds.length) (h4 : ∀ (j : Nat) (d : Dt) (u : Value) (f : List Nat), ds[j]? = some d → us[j]? = some u → fs[j]? = some f → Odt w d u f) (h5 : fs.flatten.Nodup) (h6 : ∀ k ∈ fs.flatten, base ≤ k) (h7 : ∀ g, v.ownBlock = some g → g ∉ fs.flatten) (hv : ∀ g, v.ownBlock = some g → g < w.heap.size) (hbb : base ≤ w.heap.size)
    (hb : Below w.heap.size w w2) (hN : Newd w2 w.heap.size news ds') (hr : w3.ownsRow base T size (.slice (some ⟨g, 0, none⟩) (n + 1) cap) (n + 1) (us ++ news)) (hg : w2.grownBy w3 v.ownBlock) (hgg : v.ownBlock = some g ∨ w2.heap.size ≤ g) :
    Grw w3 base T size (.slice (some ⟨g, 0, none⟩) (n + 1) cap) (n + 1) (ds ++ ds') := by
  obtain ⟨fs', k1, k2, k3, k4, k5⟩ := hN
  have hlt : ∀ k ∈ fs.flatten, k < w.heap.size := Grw.flt h2 h3 h4
  have hlt' : ∀ k ∈ fs'.flatten, k < w2.heap.size := Grw.flt k1 k2 k3
  have hkold : ∀ k ∈ fs.flatten, w3.heap[k]? = w.heap[k]? := fun k hk => by
    rw [hg.block k (Nat.lt_of_lt_of_le (hlt k hk) hb.size) (fun e => h7 k e.symm hk), hb.block k (hlt k hk)]
  have hknew : ∀ k ∈ fs'.flatten, w3.heap[k]? = w2.heap[k]? := fun k hk => hg.block k (hlt' k hk) (fun e => by have := hv k e.symm; have := k5 k hk; omega)
  refine ⟨us ++ news, fs ++ fs', hr, by simp [h2, k1], by simp [h3, k2], fun j d u f e1 e2 e3 => ?_, ?_, fun k hk => ?_, fun k hk hm => ?_⟩
  · by_cases hj : j < ds.length
    · rw [List.getElem?_append_left (by omega)] at e1 e2 e3
      exact (h4 j d u f e1 e2 e3).kept fun k hk => hkold k (List.mem_flatten.2 ⟨f, List.mem_of_getElem? e3, hk⟩)
    · rw [List.getElem?_append_right (by omega)] at e1 e2 e3
      rw [h2] at e2; rw [h3] at e3
      exact (k3 _ d u f e1 e2 e3).kept fun k hk => hknew k (List.mem_flatten.2 ⟨f, List.mem_of_getElem? e3, hk⟩)
  · rw [List.flatten_append, List.nodup_append]
    exact ⟨h5, k4, fun a ha b hb e => by have := hlt a ha; have := k5 b hb; omega⟩
  · rw [List.flatten_append, List.mem_append] at hk
    rcases hk with hk | hk
    · exact h6 k hk
    · have := k5 k hk; omega
  · have : g = k := by simpa [Value.ownBlock] using hk
    subst this
    rw [List.flatten_append, List.mem_append] at hm
    rcases hgg with e | e
    · rcases hm with hm | hm
      · exact h7 g e hm
      · have := hv g e; have := k5 g hm; omega
    · rcases hm with hm | hm
      · have := hlt g hm; have := hb.size; omega
      · have := hlt' g hm; omega
theorem wpList_grow {P : Program} {ops : Array Oper} {rest : List Oper} {o : Oper} {a : Act} {Q : Exit → Act → World → Prop} {w w2 : World} (hgd : o.guard = none) (s x : Operand) (t e : TypeId)
    (ho : o.op = .call { callee := .builtin .append, args := #[s, x], argTypes := #[t, t] }) (ht : P.underlying t = some (.slice e)) (z : Value) (size bytes : Nat)
    (hinfo : (P.info? e).map (fun i => (i.zero, i.size, i.bytes)) = some (some z, size, bytes)) (hzs : z.cells.size = size) (hsz : 0 < size) (hby : bytes ≤ 1000)
    (base n : Nat) (v : Value) (ds ds' : List Dt) (hs : a.eval s = v) (hG : Grw w base e size v n ds) (hbb : base ≤ w.heap.size) (hb : Below w.heap.size w w2)
    (news : List Value) (hN : Newd w2 w.heap.size news ds') (hnl : news.length = size) (h1 : ∀ u ∈ news, u.oneCell' = true) (hx : a.eval x = .slice (some ⟨w2.heap.size, 0, none⟩) 1 1) (hn : n ≤ 1000000)
    (h : ∀ v' w3, Grw w3 base e size v' (n + 1) (ds ++ ds') → w2.grownBy w3 v.ownBlock → (∀ g, v'.ownBlock = some g → v.ownBlock = some g ∨ w2.heap.size ≤ g) → wpList P ops Q rest (a.put o.dst v') w3) :
    wpList P ops Q (o :: rest) a (w2.alloc (.cells news.toArray e)) := by
  obtain ⟨i0, hi, hz0, hz1, hz2⟩ := info_parts hinfo
  obtain ⟨us, fs, r1, r2, r3, r4, r5, r6, r7⟩ := hG
  have hr2 : (w2.alloc (.cells news.toArray e)).ownsRow base e size v n us := by
    have hq : w2.ownsRow base e size v n us := by
      refine ⟨r1.1, ?_⟩
      rcases r1.2 with h | ⟨g, cap, cur, rfl, q1, q2, q3⟩
      · exact .inl h
      · exact .inr ⟨g, cap, cur, rfl, q1, by rw [hb.block g (Array.getElem?_eq_some_iff.1 q2).1]; exact q2, q3⟩
    exact hq.alloc _
  have hblk := heap_alloc_new w2 (.cells news.toArray e)
  refine wpList_append_lies _ hgd s x t ho base e i0 z size bytes ht hi hz0 hz1 hz2 hzs hsz v n us hs hr2 ⟨w2.heap.size, 0, none⟩ 1 1 news hx (by omega) (fun j u hu => World.news_of_block hblk j u (by simpa using hu)) h1 (by omega) (by unfold maxLen; omega) ?_ (Nat.le_trans (Nat.le_trans hbb hb.size) (by simp)) _ rfl ?_
  · have : (n + 1) * bytes ≤ 1000001 * 1000 := Nat.mul_le_mul (by omega) hby
    omega
  · intro g cap w3 g1 g2 g3 _
    have hgr : w2.grownBy w3 v.ownBlock := ⟨g2.os, g2.tape, g2.output, Nat.le_trans (by simp) g2.size, fun k hk hne => by
      rw [g2.block k (by simp; omega) hne]; exact heap_alloc_old w2 _ hk⟩
    have hlie : v.ownBlock = some g ∨ w2.heap.size ≤ g := by
      rcases g3 with e | e
      · exact .inl e
      · exact .inr (by rw [e]; simp)
    refine h _ w3 (Grw.pushed r2 r3 r4 r5 r6 r7 (fun g hg => (r1.lt g hg).2) hbb hb hN g1 hgr hlie) hgr (fun g' hg' => ?_)
    have : g = g' := by simpa [Value.ownBlock] using hg'
    rw [← this]; exact hlie
end Go.Proofs.YtmkkdenhjfjmgaaGreat
namespace Go.Proofs.YtmkkdenhjfjmgaaGreat
open Go.RowKit

inductive Rwt (w : World) : Dt → Value → Prop
  | leaf (u : Value) : Rwt w (.leaf u) u
  | emp (size : Nat) (a : Option Addr) (cap : Nat) : Rwt w (.rows size []) (.slice a 0 cap)
  | mk {size n b off cap : Nat} {ds : List Dt} {us : List Value} (hl : ds.length = n * size) (hu : us.length = ds.length) (hn : n ≤ cap) (hc : cap ≤ maxLen) (hb : b < w.heap.size)
      (hcell : ∀ (j : Nat) (u : Value), us[j]? = some u → w.cell? ⟨b, off + j, none⟩ = some u) (hd : ∀ (j : Nat) (d : Dt) (u : Value), ds[j]? = some d → us[j]? = some u → Rwt w d u) : Rwt w (.rows size ds) (.slice (some ⟨b, off, none⟩) n cap)
theorem Rwt.leaf_inv {w : World} {u v : Value} (h : Rwt w (.leaf u) v) : v = u := by cases h; rfl
theorem Rwt.kept {w w' : World} {d : Dt} {v : Value} (h : Rwt w d v) (hs : w.heap.size ≤ w'.heap.size) (hk : ∀ p : Addr, p.block < w.heap.size → w'.cell? p = w.cell? p) : Rwt w' d v := by
  induction h with
  | leaf u => exact .leaf u
  | emp size a cap => exact .emp size a cap
  | mk hl hu hn hc hb hcell hd ih => exact .mk hl hu hn hc (by omega) (fun j u hj => (hk _ hb).trans (hcell j u hj)) (fun j d u h1 h2 => ih j d u h1 h2)
theorem Rwt.behind {w w' : World} {d : Dt} {v : Value} (h : Rwt w d v) (hb : Below w.heap.size w w') : Rwt w' d v := h.kept hb.size (fun _ hp => hb.cell hp)
theorem Rwt.opn {w : World} {size : Nat} {ds : List Dt} {v : Value} (h : Rwt w (.rows size ds) v) : ∃ a n cap, v = .slice a n cap ∧ Hid (ds.length = n * size) ∧ n ≤ 9223372036854775807 ∧
    (0 < n → ∃ b off, a = some ⟨b, off, none⟩ ∧ b < w.heap.size ∧ ∀ (j : Nat) (d : Dt), ds[j]? = some d → ∃ u, w.cell? ⟨b, off + j, none⟩ = some u ∧ Rwt w d u) := by
  cases h with
  | emp size a cap => exact ⟨a, 0, cap, rfl, by simp [Hid], by omega, fun h => by omega⟩
  | @mk size n b off cap ds us hl hu hn hc hb hcell hd =>
    refine ⟨_, n, cap, rfl, hl, by unfold maxLen at hc; omega, fun _ => ⟨b, off, rfl, hb, fun j d hj => ?_⟩⟩
    have hju : j < us.length := by have := (List.getElem?_eq_some_iff.1 hj).1; omega
    exact ⟨us[j], hcell j _ (List.getElem?_eq_getElem hju), hd j _ _ hj (List.getElem?_eq_getElem hju)⟩
/-- A slice of integers, read: what a walk asks. -/
def Rw (w : World) (v : Value) (xs : List Int) : Prop := ∃ a cap n, Hid (xs.length = n) ∧ v = .slice a n cap ∧ n ≤ 9223372036854775807 ∧
    (0 < n → ∃ b off, a = some ⟨b, off, none⟩ ∧ b < w.heap.size ∧ ∀ j, j < n → w.cell? ⟨b, off + j, none⟩ = some (.int .i64 ((xs[j]?.getD 0))))
theorem Rwt.ints {w : World} {xs : List Int} {v : Value} (h : Rwt w (inD xs) v) : Rw w v xs := by
  obtain ⟨a, n, cap, hv, hl, hn, hc⟩ := Rwt.opn (show Rwt w (.rows 1 (xs.map fun x => .leaf (.int .i64 x))) v from h)
  have hx : xs.length = n := by have := hl.out; simpa using this
  refine ⟨a, cap, n, hx, hv, hn, fun h0 => ?_⟩
  obtain ⟨b, off, ea, hb, hcc⟩ := hc h0
  refine ⟨b, off, ea, hb, fun j hj => ?_⟩
  have hjx : j < xs.length := by omega
  obtain ⟨u, k1, k2⟩ := hcc j (.leaf (.int .i64 xs[j])) (by simp [hjx])
  rw [k1, k2.leaf_inv, List.getElem?_eq_getElem hjx]; rfl
theorem Rw.behind {w w' : World} {v : Value} {xs : List Int} (h : Rw w v xs) (hb : Below w.heap.size w w') : Rw w' v xs := by
  obtain ⟨a, cap, n, h1, h2, h3, h4⟩ := h
  refine ⟨a, cap, n, h1, h2, h3, fun h0 => ?_⟩
  obtain ⟨b, off, ea, hbb, hc⟩ := h4 h0
  exact ⟨b, off, ea, Nat.lt_of_lt_of_le hbb hb.size, fun j hj => (hb.cell (p := ⟨b, off + j, none⟩) hbb).trans (hc j hj)⟩

section
variable {H : Type} {enc : TypeId × Value → H} {P : Program} {w : World}
theorem flat_at {α : Type} {F : α → List Dt} {k : Nat} (hF : ∀ a, (F a).length = k) : ∀ (xs : List α) (i r : Nat), r < k → (xs.flatMap F)[i * k + r]? = (xs[i]?).bind fun a => (F a)[r]?
  | [], i, r, _ => by simp
  | a :: xs, 0, r, h => by
    rw [List.flatMap_cons, List.getElem?_append_left (by rw [hF]; omega)]
    simp
  | a :: xs, i + 1, r, h => by
    rw [List.flatMap_cons, List.getElem?_append_right (by rw [hF, Nat.add_mul]; omega), hF, show (i + 1) * k + r - k = i * k + r by rw [Nat.add_mul]; omega, flat_at hF xs i r h]
    simp
theorem flat_length {α : Type} {F : α → List Dt} {k : Nat} (hF : ∀ a, (F a).length = k) (xs : List α) : (xs.flatMap F).length = xs.length * k := by
  induction xs with
  | nil => simp
  | cons a xs ih => rw [List.flatMap_cons, List.length_append, ih, hF, List.length_cons, Nat.add_mul]; omega
end
section
variable {H : Type} {enc : TypeId × Value → H} {P : Program} {w : World}
end
end Go.Proofs.YtmkkdenhjfjmgaaGreat
namespace Go.Proofs.YtmkkdenhjfjmgaaGreat
open Go.RowKit

theorem Ofr.lf (w : World) (lo : Nat) (x : Value) : Ofr w lo (.leaf x) x := ⟨[], .leaf x, List.nodup_nil, fun k hk => by cases hk⟩
section
variable {α : Type}
/-- The cells of a list whose elements have m cells each. -/
def fltC (enc : α → List Value) (zs : List α) : List Dt := zs.flatMap fun z => (enc z).map Dt.leaf
def flt (m : Nat) (enc : α → List Value) (zs : List α) : Dt := .rows m (fltC enc zs)
theorem fltC_len {enc : α → List Value} {m : Nat} (hm : ∀ z, (enc z).length = m) (zs : List α) : (fltC enc zs).length = zs.length * m := by
  induction zs with
  | nil => simp [fltC]
  | cons z zs ih =>
    simp only [fltC, List.flatMap_cons, List.length_append, List.length_map, hm, List.length_cons] at ih ⊢
    rw [ih, Nat.add_mul, Nat.one_mul, Nat.add_comm]
theorem fltC_at {enc : α → List Value} {m : Nat} (hm : ∀ z, (enc z).length = m) (zs : List α) (i r : Nat) (hr : r < m) : (fltC enc zs)[i * m + r]? = (zs[i]?).bind fun z => ((enc z)[r]?).map Dt.leaf := by
  induction zs generalizing i with
  | nil => simp [fltC]
  | cons z zs ih =>
    have hl : ((enc z).map Dt.leaf).length = m := by simp [hm]
    simp only [fltC, List.flatMap_cons] at ih ⊢
    rcases i with _ | i
    · rw [Nat.zero_mul, Nat.zero_add, List.getElem?_append_left (by omega)]
      simp
    · rw [List.getElem?_append_right (by rw [hl, Nat.add_mul]; omega), hl, show (i + 1) * m + r - m = i * m + r by rw [Nat.add_mul]; omega, ih i]
      simp
theorem fltC_cell {enc : α → List Value} {m : Nat} (hm : ∀ z, (enc z).length = m) (nil : α) (zs : List α) (i r : Nat) (u : Value) (hi : i < zs.length) (hu : (enc (zs[i]?.getD nil))[r]? = some u) : (fltC enc zs)[i * m + r]? = some (.leaf u) := by
  have hr : r < m := by rw [← hm (zs[i]?.getD nil)]; exact (List.getElem?_eq_some_iff.1 hu).1
  rw [fltC_at hm zs i r hr]
  rw [List.getElem?_eq_getElem hi] at hu ⊢
  simp only [Option.getD_some] at hu
  simp [hu]
/-- For a walk: the rows of a slice of flat structs. -/
theorem flt_opn {enc : α → List Value} {m : Nat} {w : World} {v : Value} {zs : List α} (hm : ∀ z, (enc z).length = m) (hm0 : 0 < m) (nil : α) (h : Rdt w (flt m enc zs) v) :
    ∃ a n cap, v = .slice a n cap ∧ Hid (zs.length = n) ∧ n ≤ cap ∧ n ≤ 9223372036854775807 ∧
    (0 < n → ∃ b off, a = some ⟨b, off, none⟩ ∧ b < w.heap.size ∧ ∀ i, i < n → ∀ r u, (enc (zs[i]?.getD nil))[r]? = some u → w.cell? ⟨b, off + i * m + r, none⟩ = some u) := by
  obtain ⟨a, n, cap, hv, HN, h1, h2, h3⟩ := h.opn
  have hn : zs.length = n := by
    have := HN.out
    rw [fltC_len hm] at this
    exact Nat.eq_of_mul_eq_mul_right hm0 this
  refine ⟨a, n, cap, hv, hn, h1, h2, fun h0 => ?_⟩
  obtain ⟨b, off, ea, hb, hc⟩ := h3 h0
  refine ⟨b, off, ea, hb, fun i hi r u hu => ?_⟩
  obtain ⟨u', k1, k2⟩ := hc (i * m + r) (.leaf u) (fltC_cell hm nil zs i r u (by omega) hu)
  rw [Nat.add_assoc, k1, k2.leaf_inv]
/-- Cells stored one behind another. -/
def setRow (w : World) (g o : Nat) : List Value → World
  | [] => w
  | u :: us => setRow (w.setCell ⟨g, o, none⟩ u) g (o + 1) us
def setDs (ds : List Dt) (o : Nat) : List Value → List Dt
  | [] => ds
  | u :: us => setDs (ds.set o (.leaf u)) (o + 1) us
theorem Ofr.putRow {base size : Nat} {v : Value} {g off n cap : Nat} (hv : v = .slice (some ⟨g, off, none⟩) n cap) (us : List Value) : ∀ (w : World) (ds : List Dt) (o : Nat), Ofr w base (.rows size ds) v → base ≤ w.heap.size → o + us.length ≤ ds.length →
    Ofr (setRow w g (off + o) us) base (.rows size (setDs ds o us)) v := by
  induction us with
  | nil => intro w ds o h _ _; exact h
  | cons u us ih =>
    intro w ds o h hb hl
    rw [List.length_cons] at hl
    obtain ⟨g', off', n', cap', e, -, -, -, -, h2⟩ := h.put hb (Below.refl _ _) (Ofr.lf w w.heap.size u) (j := o) (by omega)
    rw [hv] at e
    simp only [Value.slice.injEq, Option.some.injEq, Addr.mk.injEq, and_true] at e
    obtain ⟨⟨rfl, rfl⟩, rfl, rfl⟩ := e
    exact ih _ _ (o + 1) h2 (by simpa using hb) (by rw [List.length_set]; omega)
theorem Ofr.frozen {w : World} {base size g off n cap : Nat} {ds : List Dt} (h : Ofr w base (.rows size ds) (.slice (some ⟨g, off, none⟩) n cap)) (j : Nat) : w.frozen? ⟨g, j, none⟩ = false := by
  obtain ⟨fp, q, _⟩ := h
  cases q with
  | mk hl hu hf hn hc hgg hcs ht hd => exact frozen_of_row _ _ _ _ _ hgg
/-- A row of leaves. -/
theorem Ofr.of_row {w : World} {base m n : Nat} {T : TypeId} {v : Value} {us : List Value} (h : w.ownsRow base T m v n us) : Ofr w base (.rows m (us.map Dt.leaf)) v := by
  refine Grw.ofr (T := T) (n := n) ⟨us, List.replicate us.length [], h, by simp, by simp, fun j d u f e1 e2 e3 => ?_, by simp, by simp, by simp⟩
  rw [List.getElem?_map, e2] at e1
  simp at e1
  subst e1
  have : f = [] := by
    have := List.mem_of_getElem? e3
    exact List.eq_of_mem_replicate this
  subst this
  exact .leaf _
theorem flt_of_row {enc : α → List Value} {w : World} {base m n : Nat} {T : TypeId} {v : Value} {zs : List α} (h : w.ownsRow base T m v n (zs.flatMap enc)) : Ofr w base (flt m enc zs) v := by
  have := Ofr.of_row h
  rw [List.map_flatMap] at this
  exact this
end
end Go.Proofs.YtmkkdenhjfjmgaaGreat
namespace Go.Proofs.YtmkkdenhjfjmgaaGreat
open Go.RowKit
set_option maxRecDepth 100000

def nilS : ByteArray := ⟨#[]⟩
def strE (s : ByteArray) : List Value := [.string s]
/-- The first place of a name, or -1. -/
def plc (ns : List ByteArray) (x : ByteArray) : Int := match ns.findIdx? (fun s => s.toList == x.toList) with | some i => (i : Int) | none => -1
theorem plc_none {ns : List ByteArray} {x : ByteArray} (h : ns.any (fun s => s.toList == x.toList) = false) : plc ns x = -1 := by
  unfold plc
  rw [List.findIdx?_eq_none_iff.2 fun s hs => by
    have := (List.any_eq_false.1 h) s hs
    simpa using this]
theorem plc_some {ns : List ByteArray} {x : ByteArray} {k : Nat} (hk : k < ns.length) (h : (ns.take k).any (fun s => s.toList == x.toList) = false) (e : ((ns[k]?.getD nilS).toList == x.toList) = true) : plc ns x = (k : Int) := by
  rw [List.getElem?_eq_getElem hk] at e
  unfold plc
  rw [List.findIdx?_eq_some_iff_getElem.2 ⟨hk, by simpa using e, fun j hj => by
    have := (List.any_eq_false.1 h) (ns[j]'(by omega)) (List.mem_take_iff_getElem.2 ⟨j, by omega, rfl⟩)
    simpa using this⟩]
theorem any_more {ns : List ByteArray} {x : ByteArray} {k : Nat} (hk : k < ns.length) (h : (ns.take k).any (fun s => s.toList == x.toList) = false) (e : ((ns[k]?.getD nilS).toList == x.toList) = false) : (ns.take (k + 1)).any (fun s => s.toList == x.toList) = false := by
  rw [List.getElem?_eq_getElem hk] at e
  rw [List.take_add_one, List.any_append, h, List.getElem?_eq_getElem hk]
  simpa using e
set_option maxHeartbeats 1600000 in
theorem l2Find_any (v : Value) (ns : List ByteArray) (x : ByteArray) (w : World) (h : Rdt w (flt 1 strE ns) v) :
    Calls Tryz.prog 184 #[v, .string x] w fun e w' => e = .returned (.int .i64 (plc ns x)) ∧ w = w' := by
  obtain ⟨a, n, cap, rfl, HN, _, hnl, ha⟩ := flt_opn (m := 1) (enc := strE) (fun _ => rfl) (by omega) nilS h
  have HA := Lib.hid ha
  have HP := Lib.hid (fun k (hk : k < ns.length) => @plc_some ns x k hk)
  have HM := Lib.hid (fun k (hk : k < ns.length) => @any_more ns x k hk)
  have HO := Lib.hid (@plc_none ns x)
  clear ha h
  generalize plc ns x = r at *
  go_enter Tryz.func184, Tryz.ntmps184
  go_wp2
  go_loop [5] (fun i => ∃ k : Nat, k ≤ n ∧ i = .int .i64 k ∧ Hid ((ns.take k).any (fun s => s.toList == x.toList) = false)) (fun i => n - (intOf i).toNat)
  case atStart => exact ⟨0, Nat.zero_le _, rfl, by simp [Hid]⟩
  case round =>
    obtain ⟨k, hk, rfl, HT⟩ := hrel
    by_cases hlt : k < n
    · have hltI : (k : Int) < (n : Int) := by omega
      have hkx : k < ns.length := by rw [HN.out]; exact hlt
      obtain ⟨b, off, rfl, hbs, hcs⟩ := HA.out (by omega)
      have hc0 := hcs k hlt 0 _ rfl
      rw [Nat.mul_one, Nat.add_zero] at hc0
      have HP1 := Lib.hid (HP.out k hkx HT.out)
      have HM1 := Lib.hid (HM.out k hkx HT.out)
      clear hcs hkx
      generalize ns[k]?.getD nilS = s at *
      by_cases he : (s.toList == x.toList) = true
      · have HE := Lib.hid (HP1.out he)
        go_wp2
        go_ret
        exact ⟨by rw [HE.out]; rfl, rfl⟩
      · have he : (s.toList == x.toList) = false := by simpa using he
        have HE := Lib.hid (HM1.out he)
        go_wp2
        go_round
        case rel => exact ⟨k + 1, by omega, by go_num, HE.out⟩
        case measure => simp [intOf]; omega
    · obtain rfl : k = n := by omega
      have hall := HT.out
      rw [← HN.out, List.take_length] at hall
      have HE := Lib.hid (HO.out hall)
      clear hall
      go_wp2
      go_ret
      exact ⟨by rw [HE.out]; rfl, rfl⟩
set_option maxHeartbeats 1600000 in
theorem indexS_any (v : Value) (ns : List ByteArray) (x : ByteArray) (w : World) (h : Rdt w (flt 1 strE ns) v) :
    Calls Tryz.prog 204 #[v, .string x] w fun e w' => e = .returned (.int .i64 (plc ns x)) ∧ w = w' := by
  obtain ⟨a, n, cap, rfl, HN, _, hnl, ha⟩ := flt_opn (m := 1) (enc := strE) (fun _ => rfl) (by omega) nilS h
  have HA := Lib.hid ha
  have HP := Lib.hid (fun k (hk : k < ns.length) => @plc_some ns x k hk)
  have HM := Lib.hid (fun k (hk : k < ns.length) => @any_more ns x k hk)
  have HO := Lib.hid (@plc_none ns x)
  clear ha h
  generalize plc ns x = r at *
  go_enter Tryz.func204, Tryz.ntmps204
  go_wp2
  go_loop [5, 8] (fun _ i => ∃ k : Nat, k ≤ n ∧ i = .int .i64 k ∧ Hid ((ns.take k).any (fun s => s.toList == x.toList) = false)) (fun _ i => n - (intOf i).toNat)
  case atStart => exact ⟨0, Nat.zero_le _, rfl, by simp [Hid]⟩
  case round =>
    obtain ⟨k, hk, rfl, HT⟩ := hrel
    by_cases hlt : k < n
    · have hltI : (k : Int) < (n : Int) := by omega
      have hkx : k < ns.length := by rw [HN.out]; exact hlt
      obtain ⟨b, off, rfl, hbs, hcs⟩ := HA.out (by omega)
      have hc0 := hcs k hlt 0 _ rfl
      rw [Nat.mul_one, Nat.add_zero] at hc0
      have HP1 := Lib.hid (HP.out k hkx HT.out)
      have HM1 := Lib.hid (HM.out k hkx HT.out)
      clear hcs hkx
      generalize ns[k]?.getD nilS = s at *
      by_cases he : (s.toList == x.toList) = true
      · have HE := Lib.hid (HP1.out he)
        have he2 : (x.toList == s.toList) = true := by rw [← he]; exact BEq.comm
        go_wp2
        go_ret
        exact ⟨by rw [HE.out]; rfl, rfl⟩
      · have he : (s.toList == x.toList) = false := by simpa using he
        have HE := Lib.hid (HM1.out he)
        have he2 : (x.toList == s.toList) = false := by rw [← he]; exact BEq.comm
        go_wp2
        go_round
        case rel => exact ⟨k + 1, by omega, by go_num, HE.out⟩
        case measure => simp [intOf]; omega
    · obtain rfl : k = n := by omega
      have hall := HT.out
      rw [← HN.out, List.take_length] at hall
      have HE := Lib.hid (HO.out hall)
      clear hall
      go_wp2
      go_ret
      exact ⟨by rw [HE.out]; rfl, rfl⟩
theorem containsS_any (v : Value) (ns : List ByteArray) (x : ByteArray) (w : World) (h : Rdt w (flt 1 strE ns) v) :
    Calls Tryz.prog 176 #[v, .string x] w fun e w' => e = .returned (.bool (decide (0 ≤ plc ns x))) ∧ w = w' := by
  have HI := Lib.hid (indexS_any v ns x w h)
  generalize plc ns x = r at *
  obtain ⟨a, n, cap, rfl, -, -, -, -⟩ := flt_opn (m := 1) (enc := strE) (fun _ => rfl) (by omega) nilS h
  clear h
  go_enter Tryz.func176, Tryz.ntmps176
  go_wp2_with (go_at_call 204; refine (HI.out).mono ?_; rintro e w' ⟨rfl, rfl⟩)
  go_ret
  exact ⟨rfl, rfl⟩
end Go.Proofs.YtmkkdenhjfjmgaaGreat
namespace Go.Proofs.YtmkkdenhjfjmgaaGreat
open Go.RowKit
set_option maxRecDepth 100000

structure Fib where
  a : Int
  b : Int
  l : Int
  r : Int
def nilB : Fib := ⟨0, 0, 0, 0⟩
def fibE (f : Fib) : List Value := [.int .i64 f.a, .int .i64 f.b, .int .i64 f.l, .int .i64 f.r]
def fibV (f : Fib) : Value := .agg #[.int .i64 f.a, .int .i64 f.b, .int .i64 f.l, .int .i64 f.r]
def fibOk (f : Fib) (m : Nat) : Bool := inB f.a 0 ((m : Int) - 1) && inB f.b (f.a + 1) ((m : Int) - 1) && inB f.l 1 5000 && inB f.r 0 9
set_option maxHeartbeats 1600000 in
theorem l2Fiber_any (f : Fib) (m : Nat) (w : World) (hm : m ≤ 1000) :
    Calls Tryz.prog 185 #[fibV f, .int .i64 (m : Int)] w fun e w' => e = .returned (.bool (fibOk f m)) ∧ Below w.heap.size w w' := by
  obtain ⟨a, b, l, r⟩ := f
  have HB := Lib.hid ((Below.refl w.heap.size w).alloc (Nat.le_refl _) (.cells #[.int .i64 a, .int .i64 b, .int .i64 l, .int .i64 r] 148))
  have HF := Lib.hid (show fibOk ⟨a, b, l, r⟩ m = (inB a 0 ((m : Int) - 1) && inB b (a + 1) ((m : Int) - 1) && inB l 1 5000 && inB r 0 9) from rfl)
  generalize fibOk ⟨a, b, l, r⟩ m = q at *
  unfold fibV
  cases h1 : inB a 0 ((m : Int) - 1)
  · rw [h1] at HF
    go_enter Tryz.func185, Tryz.ntmps185
    go_wp2_with (go_at_call 86; refine (l1In_any _ _ _ _).mono ?_; rintro e w' ⟨rfl, rfl⟩)
    go_ret
    exact ⟨by rw [HF.out]; rfl, HB.out⟩
  rw [h1] at HF
  have hb1 := inB_true h1
  cases h2 : inB b (a + 1) ((m : Int) - 1)
  · rw [h2] at HF
    go_enter Tryz.func185, Tryz.ntmps185
    go_wp2_with (go_at_call 86; refine (l1In_any _ _ _ _).mono ?_; rintro e w' ⟨rfl, rfl⟩)
    go_ret
    exact ⟨by rw [HF.out]; rfl, HB.out⟩
  rw [h2] at HF
  cases h3 : inB l 1 5000
  · rw [h3] at HF
    go_enter Tryz.func185, Tryz.ntmps185
    go_wp2_with (go_at_call 86; refine (l1In_any _ _ _ _).mono ?_; rintro e w' ⟨rfl, rfl⟩)
    go_ret
    exact ⟨by rw [HF.out]; rfl, HB.out⟩
  rw [h3] at HF
  go_enter Tryz.func185, Tryz.ntmps185
  go_wp2_with (go_at_call 86; refine (l1In_any _ _ _ _).mono ?_; rintro e w' ⟨rfl, rfl⟩)
  go_ret
  exact ⟨by rw [HF.out]; rfl, HB.out⟩
/-- The order of fibers: behind. -/
def fibGt (f g : Fib) : Bool := if f.a ≠ g.a then decide (g.a < f.a) else if f.b ≠ g.b then decide (g.b < f.b) else if f.l ≠ g.l then decide (g.l < f.l) else decide (g.r < f.r)
def smallF (f : Fib) : Prop := (-100000 ≤ f.a ∧ f.a ≤ 100000) ∧ (-100000 ≤ f.b ∧ f.b ≤ 100000) ∧ (-100000 ≤ f.l ∧ f.l ≤ 100000) ∧ (-100000 ≤ f.r ∧ f.r ≤ 100000)
/-- The order of fibers, as the reference has it. -/
def befF (f g : Fib) : Int := if f.a ≠ g.a then f.a - g.a else if f.b ≠ g.b then f.b - g.b else if f.l ≠ g.l then f.l - g.l else f.r - g.r
theorem befF_gt (f g : Fib) : decide (0 < befF f g) = fibGt f g := by
  unfold befF fibGt
  by_cases e1 : f.a ≠ g.a
  · rw [if_pos e1, if_pos e1]; congr 1; simp only [eq_iff_iff]; omega
  · rw [if_neg e1, if_neg e1]
    by_cases e2 : f.b ≠ g.b
    · rw [if_pos e2, if_pos e2]; congr 1; simp only [eq_iff_iff]; omega
    · rw [if_neg e2, if_neg e2]
      by_cases e3 : f.l ≠ g.l
      · rw [if_pos e3, if_pos e3]; congr 1; simp only [eq_iff_iff]; omega
      · rw [if_neg e3, if_neg e3]; congr 1; simp only [eq_iff_iff]; omega
set_option maxHeartbeats 1600000 in
theorem l2Before_any (f g : Fib) (w : World) (hf : smallF f) (hg : smallF g) :
    Calls Tryz.prog 186 #[fibV f, fibV g] w fun e w' => e = .returned (.int .i64 (befF f g)) ∧ Below w.heap.size w w' := by
  obtain ⟨a, b, l, r⟩ := f
  obtain ⟨a', b', l', r'⟩ := g
  obtain ⟨a1, b1, l1, r1⟩ := hf
  obtain ⟨a2, b2, l2, r2⟩ := hg
  simp only at a1 b1 l1 r1 a2 b2 l2 r2
  have hal := (Below.refl w.heap.size w).alloc (Nat.le_refl _) (.cells #[.int .i64 a, .int .i64 b, .int .i64 l, .int .i64 r] 148)
  have HB := Lib.hid (hal.alloc hal.size (.cells #[.int .i64 a', .int .i64 b', .int .i64 l', .int .i64 r'] 148))
  have HD := Lib.hid (show ∀ d : Int, (if a ≠ a' then d = a - a' else if b ≠ b' then d = b - b' else if l ≠ l' then d = l - l' else d = r - r') → befF ⟨a, b, l, r⟩ ⟨a', b', l', r'⟩ = d from by
    intro d h
    unfold befF
    simp only
    split at h
    · rename_i e
      rw [if_pos e]; exact h.symm
    · rename_i e
      rw [if_neg e]
      split at h
      · rename_i e2
        rw [if_pos e2]; exact h.symm
      · rename_i e2
        rw [if_neg e2]
        split at h
        · rename_i e3
          rw [if_pos e3]; exact h.symm
        · rename_i e3
          rw [if_neg e3]; exact h.symm)
  generalize befF ⟨a, b, l, r⟩ ⟨a', b', l', r'⟩ = q at *
  unfold fibV
  clear hal
  by_cases e1 : a = a'
  case neg =>
    have e1b : (a != a') = true := by rw [bne_iff_ne]; exact e1
    have HX := Lib.hid (HD.out (a - a') (by rw [if_pos e1]))
    clear e1
    go_enter Tryz.func186, Tryz.ntmps186
    go_wp2
    go_ret
    exact ⟨by rw [HX.out]; rfl, HB.out⟩
  have e1b : (a != a') = false := by simp [e1]
  by_cases e2 : b = b'
  case neg =>
    have e2b : (b != b') = true := by rw [bne_iff_ne]; exact e2
    have HX := Lib.hid (HD.out (b - b') (by rw [if_neg (by simpa using e1), if_pos e2]))
    clear e1 e2
    go_enter Tryz.func186, Tryz.ntmps186
    go_wp2
    go_ret
    exact ⟨by rw [HX.out]; rfl, HB.out⟩
  have e2b : (b != b') = false := by simp [e2]
  by_cases e3 : l = l'
  case neg =>
    have e3b : (l != l') = true := by rw [bne_iff_ne]; exact e3
    have HX := Lib.hid (HD.out (l - l') (by rw [if_neg (by simpa using e1), if_neg (by simpa using e2), if_pos e3]))
    clear e1 e2 e3
    go_enter Tryz.func186, Tryz.ntmps186
    go_wp2
    go_ret
    exact ⟨by rw [HX.out]; rfl, HB.out⟩
  have e3b : (l != l') = false := by simp [e3]
  have HX := Lib.hid (HD.out (r - r') (by rw [if_neg (by simpa using e1), if_neg (by simpa using e2), if_neg (by simpa using e3)]))
  clear e1 e2 e3
  go_enter Tryz.func186, Tryz.ntmps186
  go_wp2
  go_ret
  exact ⟨by rw [HX.out]; rfl, HB.out⟩
end Go.Proofs.YtmkkdenhjfjmgaaGreat
namespace Go.Proofs.YtmkkdenhjfjmgaaGreat
open Go.RowKit
set_option maxRecDepth 100000

def cmpI (a b : Int) : Int := if a < b then -1 else if b < a then 1 else 0
theorem notNaN_any (a : Int) (w : World) : Calls Tryz.prog 203 #[.int .i64 a] w fun e w' => e = .returned (.bool false) ∧ w = w' := by
  have h : (a != a) = false := by simp
  go_enter Tryz.func203, Tryz.ntmps203
  go_wp2
  go_ret
  exact ⟨rfl, rfl⟩
theorem compare_any (a b : Int) (w : World) : Calls Tryz.prog 206 #[.int .i64 a, .int .i64 b] w fun e w' => e = .returned (.int .i64 (cmpI a b)) ∧ w = w' := by
  by_cases h1 : a < b
  · have h1d : decide (a < b) = true := decide_eq_true h1
    have HR := Lib.hid (show cmpI a b = -1 by unfold cmpI; rw [if_pos h1])
    go_enter Tryz.func206, Tryz.ntmps206
    go_wp2_with (go_at_call 203; refine (notNaN_any _ _).mono ?_; rintro e w' ⟨rfl, rfl⟩)
    go_ret
    exact ⟨by rw [HR.out]; rfl, rfl⟩
  have h1d : decide (a < b) = false := decide_eq_false h1
  by_cases h2 : b < a
  · have h2d : decide (b < a) = true := decide_eq_true h2
    have HR := Lib.hid (show cmpI a b = 1 by unfold cmpI; rw [if_neg h1, if_pos h2])
    go_enter Tryz.func206, Tryz.ntmps206
    go_wp2_with (go_at_call 203; refine (notNaN_any _ _).mono ?_; rintro e w' ⟨rfl, rfl⟩)
    go_ret
    exact ⟨by rw [HR.out]; rfl, rfl⟩
  · have h2d : decide (b < a) = false := decide_eq_false h2
    have HR := Lib.hid (show cmpI a b = 0 by unfold cmpI; rw [if_neg h1, if_neg h2])
    go_enter Tryz.func206, Tryz.ntmps206
    go_wp2_with (go_at_call 203; refine (notNaN_any _ _).mono ?_; rintro e w' ⟨rfl, rfl⟩)
    go_ret
    exact ⟨by rw [HR.out]; rfl, rfl⟩
/-- The first that is not 0. -/
def orI : List Int → Int
  | [] => 0
  | x :: xs => if x = 0 then orI xs else x
theorem orI_none : ∀ {xs : List Int}, xs.all (fun x => x == 0) = true → orI xs = 0
  | [], _ => rfl
  | x :: xs, h => by
    simp only [List.all_cons, Bool.and_eq_true, beq_iff_eq] at h
    rw [orI, if_pos h.1]; exact orI_none h.2
theorem orI_some : ∀ {xs : List Int} {k : Nat}, k < xs.length → (xs.take k).all (fun x => x == 0) = true → xs[k]?.getD 0 ≠ 0 → orI xs = xs[k]?.getD 0
  | [], k, hk, _, _ => by simp at hk
  | x :: xs, 0, _, _, e => by
    have e : x ≠ 0 := by simpa using e
    rw [orI, if_neg e]; simp
  | x :: xs, k + 1, hk, h, e => by
    simp only [List.take_succ_cons, List.all_cons, Bool.and_eq_true, beq_iff_eq] at h
    rw [orI, if_pos h.1, List.getElem?_cons_succ]
    exact orI_some (by simpa using hk) h.2 (by simpa using e)
theorem all0_more {xs : List Int} {k : Nat} (hk : k < xs.length) (h : (xs.take k).all (fun x => x == 0) = true) (e : xs[k]?.getD 0 = 0) : (xs.take (k + 1)).all (fun x => x == 0) = true := by
  rw [List.getElem?_eq_getElem hk] at e
  rw [List.take_add_one, List.all_append, h, List.getElem?_eq_getElem hk]
  simpa using e
set_option maxHeartbeats 1600000 in
theorem or_any (v : Value) (xs : List Int) (w : World) (h : Rd w v xs) :
    Calls Tryz.prog 205 #[v] w fun e w' => e = .returned (.int .i64 (orI xs)) ∧ w = w' := by
  obtain ⟨a, cap, n, HN, rfl, _, hnl, ha⟩ := h.opn
  have HA := Lib.hid ha
  have HO := Lib.hid (@orI_none xs)
  have HS := Lib.hid (fun k (hk : k < xs.length) => @orI_some xs k hk)
  have HM := Lib.hid (fun k (hk : k < xs.length) => @all0_more xs k hk)
  clear ha h
  generalize orI xs = r at *
  go_enter Tryz.func205, Tryz.ntmps205
  go_wp2
  go_loop [5, 8] (fun _ i => ∃ k : Nat, k ≤ n ∧ i = .int .i64 k ∧ Hid ((xs.take k).all (fun x => x == 0) = true)) (fun _ i => n - (intOf i).toNat)
  case atStart => exact ⟨0, Nat.zero_le _, rfl, by simp [Hid]⟩
  case round =>
    obtain ⟨k, hk, rfl, HT⟩ := hrel
    by_cases hlt : k < n
    · have hltI : (k : Int) < (n : Int) := by omega
      have hkx : k < xs.length := by rw [HN.out]; exact hlt
      obtain ⟨b, off, rfl, hbs, hcs⟩ := HA.out (by omega)
      have hc0 := hcs k hlt
      have HS1 := Lib.hid (HS.out k hkx HT.out)
      have HM1 := Lib.hid (HM.out k hkx HT.out)
      clear hcs hkx
      generalize xs[k]?.getD 0 = x at *
      by_cases he : x = 0
      · have HE := Lib.hid (HM1.out he)
        have heb : (x != 0) = false := by simp [he]
        clear he
        go_wp2
        go_round
        case rel => exact ⟨k + 1, by omega, by go_num, HE.out⟩
        case measure => simp [intOf]; omega
      · have HE := Lib.hid (HS1.out he)
        have heb : (x != 0) = true := by rw [bne_iff_ne]; exact he
        clear he
        go_wp2
        go_ret
        exact ⟨by rw [HE.out]; rfl, rfl⟩
    · obtain rfl : k = n := by omega
      have hall := HT.out
      rw [← HN.out, List.take_length] at hall
      have HE := Lib.hid (HO.out hall)
      clear hall
      go_wp2
      go_ret
      exact ⟨by rw [HE.out]; rfl, rfl⟩
end Go.Proofs.YtmkkdenhjfjmgaaGreat
