/- Data with depth, of the call's own: made, filled, appended to. -/
import Derived.Test.YtphhenlokbodnaaTre
import Derived.Test.YtphhenlokbodnaaIntW
import Derived.Deep.AppendLies
namespace Go.Proofs.Ytphhenlokbodnaa
open Go.RowKit

def Ofr (w : World) (base : Nat) (d : Dt) (v : Value) : Prop := ∃ fp, Odt w d v fp ∧ fp.Nodup ∧ ∀ k ∈ fp, base ≤ k
theorem Ofr.rd {w : World} {base : Nat} {d : Dt} {v : Value} (h : Ofr w base d v) : Rdt w d v := by obtain ⟨fp, h, _⟩ := h; exact h.rd
theorem Ofr.mono {w : World} {b b' : Nat} {d : Dt} {v : Value} (h : Ofr w b d v) (hb : b' ≤ b) : Ofr w b' d v := by
  obtain ⟨fp, h1, h2, h3⟩ := h; exact ⟨fp, h1, h2, fun k hk => Nat.le_trans hb (h3 k hk)⟩
theorem Ofr.below {w w' : World} {base : Nat} {d : Dt} {v : Value} (h : Ofr w base d v) (hb : Below w.heap.size w w') : Ofr w' base d v := by
  obtain ⟨fp, h1, h2, h3⟩ := h; exact ⟨fp, h1.behind hb, h2, h3⟩
theorem Own.ofr {w : World} {base : Nat} {v : Value} {xs : List Int} (h : Own w base v xs) : Ofr w base (inD xs) v := by
  obtain ⟨fp, h1, h2, h3⟩ := h.tree
  exact ⟨fp, h1, h2, fun k hk => (h.lt k (h3 k hk)).1⟩
theorem Ofr.own {w : World} {base : Nat} {v : Value} {xs : List Int} (h : Ofr w base (inD xs) v) : Own w base v xs := by
  obtain ⟨fp, h1, _, h3⟩ := h; exact (h1.toOwn h3).1
theorem Ofr.nil (w : World) (base size : Nat) : Ofr w base (.rows size []) (.slice none 0 0) := ⟨[], .nil size, List.nodup_nil, fun k hk => by cases hk⟩

theorem nodup_flatten {fs : List (List Nat)} : fs.flatten.Nodup ↔ (∀ f ∈ fs, f.Nodup) ∧ List.Pairwise (fun a b => ∀ x ∈ a, ∀ y ∈ b, x ≠ y) fs := by
  unfold List.Nodup; exact List.pairwise_flatten
theorem mem_flat_get {fs : List (List Nat)} {k : Nat} (h : k ∈ fs.flatten) : ∃ j, ∃ hj : j < fs.length, k ∈ fs[j] := by
  obtain ⟨f, h1, h2⟩ := List.mem_flatten.1 h
  obtain ⟨j, hj, e⟩ := List.mem_iff_getElem.1 h1
  exact ⟨j, hj, by rw [e]; exact h2⟩
/-- New memory in the place of one element's. -/
theorem flat_put {fs : List (List Nat)} {f : List Nat} {lo j : Nat} (hn : fs.flatten.Nodup) (hlt : ∀ k ∈ fs.flatten, k < lo) (hf : f.Nodup) (hge : ∀ k ∈ f, lo ≤ k) :
    (fs.set j f).flatten.Nodup ∧ ∀ k ∈ (fs.set j f).flatten, k ∈ fs.flatten ∨ k ∈ f := by
  have hmem : ∀ k ∈ (fs.set j f).flatten, k ∈ fs.flatten ∨ k ∈ f := fun k hk => by
    obtain ⟨i, hi, h2⟩ := mem_flat_get hk
    rw [List.length_set] at hi
    by_cases e : j = i
    · subst e; rw [List.getElem_set_self] at h2; exact .inr h2
    · rw [List.getElem_set_ne e] at h2; exact .inl (List.mem_flatten.2 ⟨_, List.getElem_mem hi, h2⟩)
  refine ⟨?_, hmem⟩
  obtain ⟨h1, h2⟩ := nodup_flatten.1 hn
  rw [List.pairwise_iff_getElem] at h2
  have hlt' : ∀ i (hi : i < fs.length), ∀ k ∈ fs[i], k < lo := fun i hi k hk => hlt k (List.mem_flatten.2 ⟨_, List.getElem_mem hi, hk⟩)
  refine nodup_flatten.2 ⟨fun g hg => ?_, ?_⟩
  · obtain ⟨i, hi, rfl⟩ := List.mem_iff_getElem.1 hg
    rw [List.length_set] at hi
    by_cases e : j = i
    · subst e; rw [List.getElem_set_self]; exact hf
    · rw [List.getElem_set_ne e]; exact h1 _ (List.getElem_mem hi)
  · rw [List.pairwise_iff_getElem]
    intro a b ha hb hab x hx y hy
    rw [List.length_set] at ha hb
    by_cases ea : j = a
    · subst ea
      rw [List.getElem_set_self] at hx
      rw [List.getElem_set_ne (by omega)] at hy
      have := hge x hx; have := hlt' b hb y hy; omega
    · rw [List.getElem_set_ne ea] at hx
      by_cases eb : j = b
      · subst eb
        rw [List.getElem_set_self] at hy
        have := hge y hy; have := hlt' a ha x hx; omega
      · rw [List.getElem_set_ne eb] at hy
        exact h2 a b ha hb hab x hx y hy
/-- A store of new data into a cell. -/
theorem Ofr.put {wr w1 : World} {base size j : Nat} {ds : List Dt} {d : Dt} {v u : Value} (h : Ofr wr base (.rows size ds) v) (hbb : base ≤ wr.heap.size) (hb : Below wr.heap.size wr w1) (hu : Ofr w1 wr.heap.size d u) (hj : j < ds.length) :
    ∃ g off n cap, v = .slice (some ⟨g, off, none⟩) n cap ∧ base ≤ g ∧ g < wr.heap.size ∧ (∃ u0, w1.cell? ⟨g, off + j, none⟩ = some u0) ∧ w1.frozen? ⟨g, off + j, none⟩ = false ∧
      Ofr (w1.setCell ⟨g, off + j, none⟩ u) base (.rows size (ds.set j d)) v := by
  obtain ⟨fp, h1, h2, h3⟩ := h
  obtain ⟨f, k1, k2, k3⟩ := hu
  have hlt := h1.lt
  have h1' := h1.behind hb
  clear h1
  cases h1' with
  | nil size => simp at hj
  | @mk size n g off cap ds us fs cur T hl hus hf hn hc hg hcs ht hd =>
    obtain ⟨hgn, hfn⟩ := List.nodup_cons.1 h2
    have hg1 : g < wr.heap.size := hlt g (by simp)
    obtain ⟨q1, q2⟩ := flat_put (j := j) hfn (fun k hk => hlt k (List.mem_cons_of_mem _ hk)) k2 k3
    have hgq : g ∉ (fs.set j f).flatten := fun e => by
      rcases q2 g e with e | e
      · exact hgn e
      · have := k3 g e; omega
    have hju : j < us.length := by omega
    refine ⟨g, off, n, cap, rfl, h3 g (by simp), hg1, ⟨_, row_cell hg ht (List.getElem?_eq_getElem hju) (by omega)⟩, frozen_of_row _ _ _ _ _ hg, g :: (fs.set j f).flatten, ?_, List.nodup_cons.2 ⟨hgq, q1⟩, fun k hk => ?_⟩
    · have hg' := heap_setCell_same w1 g (off + j) cur T u hg
      refine .mk (us := us.set j u) (by rw [List.length_set]; exact hl) (by rw [List.length_set, List.length_set]; exact hus) (by rw [List.length_set, List.length_set]; exact hf) hn hc hg' (by simpa using hcs) ?_ (fun i d2 u2 f2 e1 e2 e3 => ?_)
      · rw [Array.toList_setIfInBounds, List.drop_set, if_neg (by omega), Nat.add_sub_cancel_left, List.take_set, ht]
      · have hset : ∀ k, k ≠ g → (w1.setCell ⟨g, off + j, none⟩ u).heap[k]? = w1.heap[k]? := fun k hk => heap_setCell_other w1 ⟨g, off + j, none⟩ k u hk
        by_cases e : j = i
        · subst e
          rw [List.getElem?_set_self hj] at e1
          rw [List.getElem?_set_self hju] at e2
          rw [List.getElem?_set_self (by omega)] at e3
          cases e1; cases e2; cases e3
          exact k1.kept fun k hk => hset k (by have := k3 k hk; omega)
        · rw [List.getElem?_set_ne e] at e1 e2 e3
          exact (hd i d2 u2 f2 e1 e2 e3).kept fun k hk => hset k (fun e => hgn (by rw [← e]; exact List.mem_flatten.2 ⟨f2, List.mem_of_getElem? e3, hk⟩))
    · rcases List.mem_cons.1 hk with rfl | hk
      · exact h3 k (by simp)
      · rcases q2 k hk with e | e
        · exact h3 k (List.mem_cons_of_mem _ e)
        · have := k3 k e; omega

/-- A row under way: what has been appended so far. -/
def Grw (w : World) (base : Nat) (T : TypeId) (size : Nat) (v : Value) (n : Nat) (ds : List Dt) : Prop :=
  ∃ (us : List Value) (fs : List (List Nat)), w.ownsRow base T size v n us ∧ us.length = ds.length ∧ fs.length = ds.length ∧ (∀ (j : Nat) (d : Dt) (u : Value) (f : List Nat), ds[j]? = some d → us[j]? = some u → fs[j]? = some f → Odt w d u f) ∧ fs.flatten.Nodup ∧ (∀ k ∈ fs.flatten, base ≤ k) ∧ ∀ g, v.ownBlock = some g → g ∉ fs.flatten
theorem Grw.flt {w : World} {ds : List Dt} {us : List Value} {fs : List (List Nat)} (h1 : us.length = ds.length) (h2 : fs.length = ds.length) (h : ∀ (j : Nat) (d : Dt) (u : Value) (f : List Nat), ds[j]? = some d → us[j]? = some u → fs[j]? = some f → Odt w d u f) : ∀ k ∈ fs.flatten, k < w.heap.size := fun k hk => by
  obtain ⟨j, hj, hk⟩ := mem_flat_get hk
  exact (h j _ _ _ (List.getElem?_eq_getElem (by omega)) (List.getElem?_eq_getElem (by omega)) (List.getElem?_eq_getElem hj)).lt k hk
theorem Grw.start {w : World} {base size : Nat} (T : TypeId) (hb : base ≤ w.heap.size) : Grw (w.alloc (.cells #[] T)) base T size (.slice (some ⟨w.heap.size, 0, none⟩) 0 0) 0 [] :=
  ⟨[], [], World.ownsRow_made w #[] 0 hb (Nat.zero_le _) (by simp), rfl, rfl, (fun j d u f h => by simp at h), List.nodup_nil, (fun k hk => by simp at hk), (fun g _ hk => by simp at hk)⟩
theorem Grw.own {w : World} {base size n : Nat} {T : TypeId} {v : Value} {ds : List Dt} (h : Grw w base T size v n ds) : ∀ k, v.ownBlock = some k → base ≤ k ∧ k < w.heap.size := by
  obtain ⟨us, fs, h, _⟩ := h; exact h.lt
theorem Grw.form {w : World} {base size n : Nat} {T : TypeId} {v : Value} {ds : List Dt} (h : Grw w base T size v n ds) : ds.length = n * size ∧ ∃ a cap, v = .slice a n cap := by
  obtain ⟨us, fs, h, h1, _⟩ := h
  refine ⟨by rw [← h1]; exact h.1, ?_⟩
  rcases h.2 with ⟨rfl, rfl⟩ | ⟨g, cap, cur, rfl, _⟩
  · exact ⟨none, 0, rfl⟩
  · exact ⟨_, cap, rfl⟩
theorem Grw.below {w w' : World} {base size n : Nat} {T : TypeId} {v : Value} {ds : List Dt} (h : Grw w base T size v n ds) (hb : Below w.heap.size w w') : Grw w' base T size v n ds := by
  obtain ⟨us, fs, h1, h2, h3, h4, h5, h6, h7⟩ := h
  refine ⟨us, fs, ⟨h1.1, ?_⟩, h2, h3, fun j d u f e1 e2 e3 => (h4 j d u f e1 e2 e3).behind hb, h5, h6, h7⟩
  rcases h1.2 with h | ⟨g, cap, cur, rfl, q1, q2, q3⟩
  · exact .inl h
  · exact .inr ⟨g, cap, cur, rfl, q1, by rw [hb.block g (Array.getElem?_eq_some_iff.1 q2).1]; exact q2, q3⟩
theorem Grw.ofr {w : World} {base size n : Nat} {T : TypeId} {v : Value} {ds : List Dt} (h : Grw w base T size v n ds) : Ofr w base (.rows size ds) v := by
  obtain ⟨us, fs, h1, h2, h3, h4, h5, h6, h7⟩ := h
  rcases h1.2 with ⟨rfl, rfl⟩ | ⟨g, cap, cur, rfl, q1, q2, q3, q4, q5, q6⟩
  · have : ds = [] := List.eq_nil_of_length_eq_zero (by have := h1.1; omega)
    subst this
    exact Ofr.nil _ _ _
  · have hgn : g ∉ fs.flatten := h7 g rfl
    refine ⟨g :: fs.flatten, .mk (us := us) (by rw [← h2]; exact h1.1) h2 h3 q3 q4 q2 (by omega) (by rw [List.drop_zero]; exact q6) h4, List.nodup_cons.2 ⟨hgn, h5⟩, fun k hk => ?_⟩
    rcases List.mem_cons.1 hk with rfl | hk
    · exact q1
    · exact h6 k hk
/-- The cells of a new element. -/
def Newd (w : World) (lo : Nat) (news : List Value) (ds : List Dt) : Prop := ∃ fs : List (List Nat), news.length = ds.length ∧ fs.length = ds.length ∧ (∀ (j : Nat) (d : Dt) (u : Value) (f : List Nat), ds[j]? = some d → news[j]? = some u → fs[j]? = some f → Odt w d u f) ∧ fs.flatten.Nodup ∧ ∀ k ∈ fs.flatten, lo ≤ k
theorem Newd.one {w : World} {lo : Nat} {d : Dt} {u : Value} (h : Ofr w lo d u) : Newd w lo [u] [d] := by
  obtain ⟨fp, h1, h2, h3⟩ := h
  refine ⟨[fp], rfl, rfl, fun j d' u' f' e1 e2 e3 => ?_, by simpa using h2, by simpa using h3⟩
  match j with
  | 0 => simp at e1 e2 e3; subst e1; subst e2; subst e3; exact h1
  | j + 1 => simp at e1
theorem Newd.leaf {w : World} {lo : Nat} {us : List Value} {ds : List Dt} (h : Newd w lo us ds) (x : Value) : Newd w lo (x :: us) (.leaf x :: ds) := by
  obtain ⟨fs, h1, h2, h3, h4, h5⟩ := h
  refine ⟨[] :: fs, by simp [h1], by simp [h2], fun j d' u' f' e1 e2 e3 => ?_, by simpa using h4, by simpa using h5⟩
  match j with
  | 0 => simp at e1 e2 e3; subst e1; subst e2; subst e3; exact .leaf x
  | j + 1 => simp at e1 e2 e3; exact h3 j d' u' f' e1 e2 e3
theorem Newd.nil (w : World) (lo : Nat) : Newd w lo [] [] := ⟨[], rfl, rfl, fun j d u f e => by simp at e, List.nodup_nil, fun k hk => by cases hk⟩
theorem Grw.pushed {w w2 w3 : World} {base size n g cap : Nat} {T : TypeId} {v : Value} {ds ds' : List Dt} {news us : List Value} {fs : List (List Nat)}
    (h2 : us.length = ds.length) (h3 : fs.length = ds.length) (h4 : ∀ (j : Nat) (d : Dt) (u : Value) (f : List Nat), ds[j]? = some d → us[j]? = some u → fs[j]? = some f → Odt w d u f) (h5 : fs.flatten.Nodup) (h6 : ∀ k ∈ fs.flatten, base ≤ k) (h7 : ∀ g, v.ownBlock = some g → g ∉ fs.flatten) (hv : ∀ g, v.ownBlock = some g → g < w.heap.size) (hbb : base ≤ w.heap.size)
    (hb : Below w.heap.size w w2) (hN : Newd w2 w.heap.size news ds') (hr : w3.ownsRow base T size (.slice (some ⟨g, 0, none⟩) (n + 1) cap) (n + 1) (us ++ news)) (hg : w2.grownBy w3 v.ownBlock) (hgg : v.ownBlock = some g ∨ w2.heap.size ≤ g) :
    Grw w3 base T size (.slice (some ⟨g, 0, none⟩) (n + 1) cap) (n + 1) (ds ++ ds') := by
  obtain ⟨fs', k1, k2, k3, k4, k5⟩ := hN
  have hlt : ∀ k ∈ fs.flatten, k < w.heap.size := Grw.flt h2 h3 h4
  have hlt' : ∀ k ∈ fs'.flatten, k < w2.heap.size := Grw.flt k1 k2 k3
  have hkold : ∀ k ∈ fs.flatten, w3.heap[k]? = w.heap[k]? := fun k hk => by
    rw [hg.block k (Nat.lt_of_lt_of_le (hlt k hk) hb.size) (fun e => h7 k e.symm hk), hb.block k (hlt k hk)]
  have hknew : ∀ k ∈ fs'.flatten, w3.heap[k]? = w2.heap[k]? := fun k hk => hg.block k (hlt' k hk) (fun e => by have := hv k e.symm; have := k5 k hk; omega)
  refine ⟨us ++ news, fs ++ fs', hr, by simp [h2, k1], by simp [h3, k2], fun j d u f e1 e2 e3 => ?_, ?_, fun k hk => ?_, fun k hk hm => ?_⟩
  · by_cases hj : j < ds.length
    · rw [List.getElem?_append_left (by omega)] at e1 e2 e3
      exact (h4 j d u f e1 e2 e3).kept fun k hk => hkold k (List.mem_flatten.2 ⟨f, List.mem_of_getElem? e3, hk⟩)
    · rw [List.getElem?_append_right (by omega)] at e1 e2 e3
      rw [h2] at e2; rw [h3] at e3
      exact (k3 _ d u f e1 e2 e3).kept fun k hk => hknew k (List.mem_flatten.2 ⟨f, List.mem_of_getElem? e3, hk⟩)
  · rw [List.flatten_append, List.nodup_append]
    exact ⟨h5, k4, fun a ha b hb e => by have := hlt a ha; have := k5 b hb; omega⟩
  · rw [List.flatten_append, List.mem_append] at hk
    rcases hk with hk | hk
    · exact h6 k hk
    · have := k5 k hk; omega
  · have : g = k := by simpa [Value.ownBlock] using hk
    subst this
    rw [List.flatten_append, List.mem_append] at hm
    rcases hgg with e | e
    · rcases hm with hm | hm
      · exact h7 g e hm
      · have := hv g e; have := k5 g hm; omega
    · rcases hm with hm | hm
      · have := hlt g hm; have := hb.size; omega
      · have := hlt' g hm; omega
theorem wpList_grow {P : Program} {ops : Array Oper} {rest : List Oper} {o : Oper} {a : Act} {Q : Exit → Act → World → Prop} {w w2 : World} (hgd : o.guard = none) (s x : Operand) (t e : TypeId)
    (ho : o.op = .call { callee := .builtin .append, args := #[s, x], argTypes := #[t, t] }) (ht : P.underlying t = some (.slice e)) (z : Value) (size bytes : Nat)
    (hinfo : (P.info? e).map (fun i => (i.zero, i.size, i.bytes)) = some (some z, size, bytes)) (hzs : z.cells.size = size) (hsz : 0 < size) (hby : bytes ≤ 1000)
    (base n : Nat) (v : Value) (ds ds' : List Dt) (hs : a.eval s = v) (hG : Grw w base e size v n ds) (hbb : base ≤ w.heap.size) (hb : Below w.heap.size w w2)
    (news : List Value) (hN : Newd w2 w.heap.size news ds') (hnl : news.length = size) (h1 : ∀ u ∈ news, u.oneCell' = true) (hx : a.eval x = .slice (some ⟨w2.heap.size, 0, none⟩) 1 1) (hn : n ≤ 1000000)
    (h : ∀ v' w3, Grw w3 base e size v' (n + 1) (ds ++ ds') → w2.grownBy w3 v.ownBlock → (∀ g, v'.ownBlock = some g → v.ownBlock = some g ∨ w2.heap.size ≤ g) → wpList P ops Q rest (a.put o.dst v') w3) :
    wpList P ops Q (o :: rest) a (w2.alloc (.cells news.toArray e)) := by
  obtain ⟨i0, hi, hz0, hz1, hz2⟩ := info_parts hinfo
  obtain ⟨us, fs, r1, r2, r3, r4, r5, r6, r7⟩ := hG
  have hr2 : (w2.alloc (.cells news.toArray e)).ownsRow base e size v n us := by
    have hq : w2.ownsRow base e size v n us := by
      refine ⟨r1.1, ?_⟩
      rcases r1.2 with h | ⟨g, cap, cur, rfl, q1, q2, q3⟩
      · exact .inl h
      · exact .inr ⟨g, cap, cur, rfl, q1, by rw [hb.block g (Array.getElem?_eq_some_iff.1 q2).1]; exact q2, q3⟩
    exact hq.alloc _
  have hblk := heap_alloc_new w2 (.cells news.toArray e)
  refine wpList_append_lies _ hgd s x t ho base e i0 z size bytes ht hi hz0 hz1 hz2 hzs hsz v n us hs hr2 ⟨w2.heap.size, 0, none⟩ 1 1 news hx (by omega) (fun j u hu => World.news_of_block hblk j u (by simpa using hu)) h1 (by omega) (by unfold maxLen; omega) ?_ (Nat.le_trans (Nat.le_trans hbb hb.size) (by simp)) _ rfl ?_
  · have : (n + 1) * bytes ≤ 1000001 * 1000 := Nat.mul_le_mul (by omega) hby
    omega
  · intro g cap w3 g1 g2 g3 _
    have hgr : w2.grownBy w3 v.ownBlock := ⟨g2.os, g2.tape, g2.output, Nat.le_trans (by simp) g2.size, fun k hk hne => by
      rw [g2.block k (by simp; omega) hne]; exact heap_alloc_old w2 _ hk⟩
    have hlie : v.ownBlock = some g ∨ w2.heap.size ≤ g := by
      rcases g3 with e | e
      · exact .inl e
      · exact .inr (by rw [e]; simp)
    refine h _ w3 (Grw.pushed r2 r3 r4 r5 r6 r7 (fun g hg => (r1.lt g hg).2) hbb hb hN g1 hgr hlie) hgr (fun g' hg' => ?_)
    have : g = g' := by simpa [Value.ownBlock] using hg'
    rw [← this]; exact hlie
end Go.Proofs.Ytphhenlokbodnaa
