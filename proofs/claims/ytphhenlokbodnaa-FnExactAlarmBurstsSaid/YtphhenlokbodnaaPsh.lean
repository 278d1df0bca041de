/- Plain Lean and laws: one integer appended to an own slice; an element of a row under way turned. -/
import Derived.Test.YtphhenlokbodnaaDpP
import Derived.Test.YtphhenlokbodnaaExa
import Derived.ArgAppend
namespace Go.Proofs.Ytphhenlokbodnaa
open Go.RowKit

theorem Own.pushed' {w : World} {base : Nat} {v : Value} {xs : List Int} {g off n cap : Nat} (h : Own w base v xs) (hv : v = .slice (some ⟨g, off, none⟩) n cap) (hc : n + 1 ≤ cap) (u : Int) :
    Own (w.setCell ⟨g, off + n, none⟩ (.int .i64 u)) base (.slice (some ⟨g, off, none⟩) (n + 1) cap) (xs ++ [u]) ∧ w.grownBy (w.setCell ⟨g, off + n, none⟩ (.int .i64 u)) (some g) := by
  rcases h with ⟨rfl, rfl⟩ | ⟨g', off', cap', cur, hv', hb, ⟨T, hg⟩, h1, h2, h3, h4⟩
  · simp at hv
  · rw [hv'] at hv
    simp only [Value.slice.injEq, Option.some.injEq, Addr.mk.injEq, and_true] at hv
    obtain ⟨⟨rfl, rfl⟩, rfl, rfl⟩ := hv
    refine ⟨.inr ⟨g', off', cap', cur.setIfInBounds (off' + xs.length) (.int .i64 u), by simp, hb, ⟨T, heap_setCell_same w g' (off' + xs.length) cur _ _ hg⟩, by simpa using hc, h2, by simpa using h3, ?_⟩,
      ⟨rfl, rfl, rfl, by simp, fun k _ hk => heap_setCell_other w ⟨g', off' + xs.length, none⟩ k _ (fun e => hk (by simp [e]))⟩⟩
    have hlt : xs.length < (cur.toList.drop off').length := by simp; omega
    rw [Array.toList_setIfInBounds, List.length_append]
    show List.take (xs.length + 1) (List.drop off' (cur.toList.set (off' + xs.length) (.int .i64 u))) = (xs ++ [u]).map (Value.int .i64)
    rw [List.map_append]
    show _ = ints xs ++ [Value.int .i64 u]
    rw [← h4, List.drop_set, if_neg (by omega), Nat.add_sub_cancel_left, List.take_add_one, List.getElem?_set_self hlt, List.take_set, List.set_eq_of_length_le (by simp; omega)]
    rfl
/-- append of one integer to an own slice, nil too; the new element's block has just been laid. -/
theorem wpList_pushI {P : Program} {ops : Array Oper} {rest : List Oper} {o : Oper} {a : Act} {Q : Exit → Act → World → Prop} {wr : World} {y : Int} (hgd : o.guard = none) (s x : Operand) (T : TypeId)
    (ho : o.op = .call { callee := .builtin .append, args := #[s, x], argTypes := #[T, T] }) (ht : P.underlying T = some (.slice 3))
    (hinfo : (P.info? 3).map (fun i => (i.zero, i.size, i.bytes)) = some (some (.int .i64 0), 1, 8))
    (base : Nat) (v : Value) (xs : List Int) (hs : a.eval s = v) (hown : Own wr base v xs)
    (hx : a.eval x = .slice (some ⟨wr.heap.size, 0, none⟩) 1 1) (hn : xs.length ≤ 1000000) (hbase : base ≤ wr.heap.size)
    (h : ∀ v' w', Own w' base v' (xs ++ [y]) → wr.grownBy w' v.ownBlock → (∀ g, v'.ownBlock = some g → v.ownBlock = some g ∨ wr.heap.size ≤ g) → wpList P ops Q rest (a.put o.dst v') w') :
    wpList P ops Q (o :: rest) a (wr.alloc (.cells #[.int .i64 y] 3)) := by
  have h0 := hown
  rcases hown with ⟨rfl, rfl⟩ | ⟨g, f, cap, cur, rfl, hb, ⟨T', hg⟩, h1, h2, h3, h4⟩
  · obtain ⟨i0, hi, hz0, hz1, hz2⟩ := info_parts hinfo
    have hr : (wr.alloc (.cells #[.int .i64 y] 3)).ownsRow wr.heap.size 3 1 (.slice none 0 0) 0 (ints []) := ⟨by simp, .inl ⟨rfl, rfl⟩⟩
    refine wpList_append_own _ hgd s x T ho wr.heap.size 3 i0 (.int .i64 0) 1 8 ht hi hz0 hz1 hz2 rfl (by decide) (.slice none 0 0) 0 (ints []) hs hr ⟨wr.heap.size, 0, none⟩ 1 1 [.int .i64 y] hx rfl ?_ ?_ (by unfold maxLen; omega) (by omega) (by simp) ?_
    · intro j u hu
      rcases j with _ | j
      · simp at hu; subst hu
        simp [Addr.add, World.cell?_alloc_at]
      · simp at hu
    · intro u hu; simp at hu; subst hu; rfl
    · intro v' w' g1 g2 _
      have g3 : w'.ownsRow wr.heap.size 3 1 v' (0 + 1) (ints ([] ++ [y])) := by simpa [ints] using g1
      have o3 := own_of_row g3
      exact h v' w' (o3.mono hbase) ((World.grownBy_alloc _ _ _).trans' g2) (fun g hg => .inr (o3.lt g hg).1)
  · obtain ⟨i0, hi, hz0, hz1, hz2⟩ := info_parts hinfo
    have hba : Below wr.heap.size wr (wr.alloc (.cells #[.int .i64 y] 3)) := (Below.refl _ _).alloc (Nat.le_refl _) _
    have ho2 := h0.belowAll hba
    obtain ⟨hl, hc⟩ := ho2.cellAt rfl
    have hg0 : wr.grownBy (wr.alloc (.cells #[.int .i64 y] 3)) (some g) := ⟨hba.os, hba.tape, hba.output, hba.size, fun k hk _ => hba.block k hk⟩
    refine wpList_append_arg _ hgd s x T ho 3 i0 (.int .i64 0) 1 8 ht hi hz0 hz1 hz2 rfl (by decide) g f xs.length cap (ints xs) hs (by simp [hl]) ?_ ⟨wr.heap.size, 0, none⟩ 1 1 [.int .i64 y] hx rfl ?_ ?_ ?_ (by unfold maxLen; omega) (by omega) ?_ ?_
    · intro j u hu
      have hj : j < xs.length := by have := (List.getElem?_eq_some_iff.1 hu).1; simpa using this
      rw [hc j hj, ← hu]
      simp [hj]
    · intro j u hu
      rcases j with _ | j
      · simp at hu; subst hu
        simp [Addr.add, World.cell?_alloc_at]
      · simp at hu
    · intro u hu
      simp at hu; subst hu; rfl
    · intro hr j hj
      obtain rfl : j = 0 := by simpa using hj
      have hblt : g < wr.heap.size := (Array.getElem?_eq_some_iff.1 hg).1
      have hg' : (wr.alloc (.cells #[.int .i64 y] 3)).heap[g]? = some (.cells cur T' (0, 0)) := (hba.block g hblt).trans hg
      refine ⟨?_, frozen_of_row _ _ _ _ _ hg'⟩
      rw [cell_of_row _ _ _ _ _ _ hg']
      simp; omega
    · intro hr
      have hst := ho2.pushed' rfl (by omega) y
      rw [show f + xs.length * 1 = f + xs.length from by omega]
      exact h _ _ hst.1 (hg0.trans' hst.2) (fun g' hg' => .inl (by simpa [Value.ownBlock] using hg'))
    · intro hr v' w' h1 h2
      have h3 : w'.ownsRow (wr.alloc (.cells #[.int .i64 y] 3)).heap.size 3 1 v' (xs.length + 1) (ints (xs ++ [y])) := by simpa [ints] using h1
      have o3 := own_of_row h3
      exact h v' w' (o3.mono (by simp; omega)) (hg0.trans' ⟨h2.os, h2.tape, h2.output, h2.size, fun k hk _ => h2.block k hk (by simp)⟩) (fun g' hg' => .inr (by have := (o3.lt g' hg').1; simp at this; omega))

theorem flat_put2 {fs : List (List Nat)} {f : List Nat} {lo j : Nat} (hn : fs.flatten.Nodup) (hlt : ∀ k ∈ fs.flatten, k < lo) (hj : j < fs.length) (hf : f.Nodup) (hge : ∀ k ∈ f, k ∈ fs[j] ∨ lo ≤ k) :
    (fs.set j f).flatten.Nodup ∧ ∀ k ∈ (fs.set j f).flatten, k ∈ fs.flatten ∨ lo ≤ k := by
  have hmem : ∀ k ∈ (fs.set j f).flatten, k ∈ fs.flatten ∨ lo ≤ k := fun k hk => by
    obtain ⟨i, hi, h2⟩ := mem_flat_get hk
    rw [List.length_set] at hi
    by_cases e : j = i
    · subst e; rw [List.getElem_set_self] at h2
      rcases hge k h2 with h3 | h3
      · exact .inl (List.mem_flatten.2 ⟨_, List.getElem_mem hj, h3⟩)
      · exact .inr h3
    · rw [List.getElem_set_ne e] at h2; exact .inl (List.mem_flatten.2 ⟨_, List.getElem_mem hi, h2⟩)
  refine ⟨?_, hmem⟩
  obtain ⟨h1, h2⟩ := nodup_flatten.1 hn
  rw [List.pairwise_iff_getElem] at h2
  have hlt' : ∀ i (hi : i < fs.length), ∀ k ∈ fs[i], k < lo := fun i hi k hk => hlt k (List.mem_flatten.2 ⟨_, List.getElem_mem hi, hk⟩)
  refine nodup_flatten.2 ⟨fun g hg => ?_, ?_⟩
  · obtain ⟨i, hi, rfl⟩ := List.mem_iff_getElem.1 hg
    rw [List.length_set] at hi
    by_cases e : j = i
    · subst e; rw [List.getElem_set_self]; exact hf
    · rw [List.getElem_set_ne e]; exact h1 _ (List.getElem_mem hi)
  · rw [List.pairwise_iff_getElem]
    intro a b ha hb hab x hx y hy
    rw [List.length_set] at ha hb
    by_cases ea : j = a
    · subst ea
      rw [List.getElem_set_self] at hx
      rw [List.getElem_set_ne (by omega)] at hy
      rcases hge x hx with h3 | h3
      · exact h2 j b ha hb hab x h3 y hy
      · have := hlt' b hb y hy; omega
    · rw [List.getElem_set_ne ea] at hx
      by_cases eb : j = b
      · subst eb
        rw [List.getElem_set_self] at hy
        rcases hge y hy with h3 | h3
        · exact h2 a j ha hb hab x hx y h3
        · have := hlt' a ha x hx; omega
      · rw [List.getElem_set_ne eb] at hy
        exact h2 a b ha hb hab x hx y hy
/-- An element of a row under way is turned, in its own blocks or into new ones, and stored. -/
theorem Grw.deep {w : World} {base size n : Nat} {T : TypeId} {v : Value} {ds : List Dt} (h : Grw w base T size v n ds) {j : Nat} {d : Dt} (hj : ds[j]? = some d) :
    ∃ g cap u f, v = .slice (some ⟨g, 0, none⟩) n cap ∧ w.cell? ⟨g, j, none⟩ = some u ∧ base ≤ g ∧ g < w.heap.size ∧ Odt w d u f ∧ f.Nodup ∧ (∀ k ∈ f, base ≤ k ∧ k < w.heap.size) ∧ g ∉ f ∧
      ∀ (w' : World) (d' : Dt) (u' : Value) (f' : List Nat), Odt w' d' u' f' → f'.Nodup → (∀ k ∈ f', k ∈ f ∨ w.heap.size ≤ k) → base ≤ w.heap.size → Wr w w' f →
        (∃ u0, w'.cell? ⟨g, j, none⟩ = some u0) ∧ w'.frozen? ⟨g, j, none⟩ = false ∧ Grw (w'.setCell ⟨g, j, none⟩ u') base T size v n (ds.set j d') := by
  obtain ⟨us, fs, h1, h2, h3, h4, h5, h6, h7⟩ := h
  have hjl : j < ds.length := (List.getElem?_eq_some_iff.1 hj).1
  have hju : us[j]? = some (us[j]'(by omega)) := List.getElem?_eq_getElem (by omega)
  have hjf : fs[j]? = some (fs[j]'(by omega)) := List.getElem?_eq_getElem (by omega)
  have hsub : ∀ k ∈ fs[j]'(by omega), k ∈ fs.flatten := fun k hk => List.mem_flatten.2 ⟨_, List.getElem_mem _, hk⟩
  have hlt : ∀ k ∈ fs.flatten, k < w.heap.size := Grw.flt h2 h3 h4
  rcases h1.2 with ⟨rfl, h0⟩ | ⟨g, cap, cur, rfl, q1, q2, q3, q4, q5, q6⟩
  · have := h1.1; rw [h0] at this; omega
  have hgf : g ∉ fs.flatten := h7 g rfl
  have hgl : g < w.heap.size := (Array.getElem?_eq_some_iff.1 q2).1
  obtain ⟨hn1, hn2⟩ := nodup_flatten.1 h5
  rw [List.pairwise_iff_getElem] at hn2
  have htk : (cur.toList.drop 0).take (n * size) = us := by rw [List.drop_zero]; exact q6
  refine ⟨g, cap, _, _, rfl, ?_, q1, hgl, h4 j d _ _ hj hju hjf, hn1 _ (List.getElem_mem _), fun k hk => ⟨h6 k (hsub k hk), hlt k (hsub k hk)⟩, fun e => hgf (hsub g e), fun w' d' u' f' hd hnd hnew hbase hw => ?_⟩
  · have := row_cell q2 htk hju h1.1
    rw [Nat.zero_add] at this; exact this
  have hg' : w'.heap[g]? = some (.cells cur T (0, 0)) := by rw [hw.block g hgl (fun e => hgf (hsub g e))]; exact q2
  have hcell : w'.cell? ⟨g, j, none⟩ = some (us[j]'(by omega)) := by
    have := row_cell hg' htk hju h1.1
    rw [Nat.zero_add] at this; exact this
  obtain ⟨p1, p2⟩ := flat_put2 h5 hlt (show j < fs.length by omega) hnd hnew
  have hset : ∀ k, k ≠ g → (w'.setCell ⟨g, j, none⟩ u').heap[k]? = w'.heap[k]? := fun k hk => heap_setCell_other w' ⟨g, j, none⟩ k u' hk
  have hgs : g ∉ (fs.set j f').flatten := fun e => by
    rcases p2 g e with e | e
    · exact hgf e
    · omega
  refine ⟨⟨_, hcell⟩, frozen_of_row _ _ _ _ _ hg', us.set j u', fs.set j f', ⟨by rw [List.length_set]; exact h1.1, .inr ⟨g, cap, cur.setIfInBounds j u', rfl, q1, heap_setCell_same w' g j cur T u' hg', q3, q4, by simpa using q5, ?_⟩⟩, by rw [List.length_set, List.length_set]; exact h2, by rw [List.length_set, List.length_set]; exact h3, fun i d2 u2 f2 e1 e2 e3 => ?_, p1, fun k hk => ?_, fun k hk => ?_⟩
  · rw [Array.toList_setIfInBounds, List.take_set, q6]
  · by_cases e : j = i
    · subst e
      rw [List.getElem?_set_self hjl] at e1
      rw [List.getElem?_set_self (by omega)] at e2
      rw [List.getElem?_set_self (by omega)] at e3
      cases e1; cases e2; cases e3
      exact hd.kept fun k hk => hset k (fun e => hgs (List.mem_flatten.2 ⟨f', List.mem_iff_getElem.2 ⟨j, by rw [List.length_set]; omega, List.getElem_set_self _⟩, by rw [← e]; exact hk⟩))
    · rw [List.getElem?_set_ne e] at e1 e2 e3
      have hil : i < fs.length := (List.getElem?_eq_some_iff.1 e3).1
      have e4 : fs[i] = f2 := (List.getElem?_eq_some_iff.1 e3).2
      have hd2 := h4 i d2 u2 f2 e1 e2 e3
      refine hd2.kept fun k hk => ?_
      have hkf : k ∈ fs.flatten := List.mem_flatten.2 ⟨f2, List.mem_of_getElem? e3, hk⟩
      rw [hset k (fun e => hgf (by rw [← e]; exact hkf)), hw.block k (hlt k hkf) (fun hk2 => ?_)]
      rw [← e4] at hk
      rcases Nat.lt_or_gt_of_ne e with hlt2 | hgt
      · exact hn2 j i (by omega) hil hlt2 k hk2 k hk rfl
      · exact hn2 i j hil (by omega) hgt k hk k hk2 rfl
  · rcases p2 k hk with e | e
    · exact h6 k e
    · omega
  · have : g = k := by simpa [Value.ownBlock] using hk
    rw [← this]; exact hgs
end Go.Proofs.Ytphhenlokbodnaa
