/- Joined: XPsh XRou XVis XSrtP XSrtW XCom XWlk. -/
import Derived.Test.YtmkkdenhjfjmgaaGreatBz02
import Derived.Test.YtmkkdenhjfjmgaaGreatBz05
import Derived.ArgAppend
import Derived.Test.YtmkkdenhjfjmgaaGreatBz03
import Derived.Test.YtmkkdenhjfjmgaaGreatBz04
import Derived.Lib.QuietBelow
import Derived.Deep.RegionLaw
import Derived.Deep.CutRange
import Derived.Test.YtmkkdenhjfjmgaaGreatBz01
import Derived.Lib.SlicesCompact
import Derived.Sort.OwnSortedInts
import Derived.Test.YtmkkdenhjfjmgaaGreatShelf
namespace Go.Proofs.YtmkkdenhjfjmgaaGreat
open Go.RowKit

theorem Own.pushed' {w : World} {base : Nat} {v : Value} {xs : List Int} {g off n cap : Nat} (h : Own w base v xs) (hv : v = .slice (some ⟨g, off, none⟩) n cap) (hc : n + 1 ≤ cap) (u : Int) :
    Own (w.setCell ⟨g, off + n, none⟩ (.int .i64 u)) base (.slice (some ⟨g, off, none⟩) (n + 1) cap) (xs ++ [u]) ∧ w.grownBy (w.setCell ⟨g, off + n, none⟩ (.int .i64 u)) (some g) := by
  rcases h with ⟨rfl, rfl⟩ | ⟨g', off', cap', cur, hv', hb, ⟨T, hg⟩, h1, h2, h3, h4⟩
  · simp at hv
  · rw [hv'] at hv
    simp only [Value.slice.injEq, Option.some.injEq, Addr.mk.injEq, and_true] at hv
    obtain ⟨⟨rfl, rfl⟩, rfl, rfl⟩ := hv
    refine ⟨.inr ⟨g', off', cap', cur.setIfInBounds (off' + xs.length) (.int .i64 u), by simp, hb, ⟨T, heap_setCell_same w g' (off' + xs.length) cur _ _ hg⟩, by simpa using hc, h2, by simpa using h3, ?_⟩,
      ⟨rfl, rfl, rfl, by simp, fun k _ hk => heap_setCell_other w ⟨g', off' + xs.length, none⟩ k _ (fun e => hk (by simp [e]))⟩⟩
    have hlt : xs.length < (cur.toList.drop off').length := by simp; omega
    rw [Array.toList_setIfInBounds, List.length_append]
    show List.take (xs.length + 1) (List.drop off' (cur.toList.set (off' + xs.length) (.int .i64 u))) = (xs ++ [u]).map (Value.int .i64)
    rw [List.map_append]
    show _ = ints xs ++ [Value.int .i64 u]
    rw [← h4, List.drop_set, if_neg (by omega), Nat.add_sub_cancel_left, List.take_add_one, List.getElem?_set_self hlt, List.take_set, List.set_eq_of_length_le (by simp; omega)]
    rfl
/-- append of one integer to an own slice, nil too; the new element's block has just been laid. -/
theorem wpList_pushI {P : Program} {ops : Array Oper} {rest : List Oper} {o : Oper} {a : Act} {Q : Exit → Act → World → Prop} {wr : World} {y : Int} (hgd : o.guard = none) (s x : Operand) (T : TypeId)
    (ho : o.op = .call { callee := .builtin .append, args := #[s, x], argTypes := #[T, T] }) (ht : P.underlying T = some (.slice 3))
    (hinfo : (P.info? 3).map (fun i => (i.zero, i.size, i.bytes)) = some (some (.int .i64 0), 1, 8))
    (base : Nat) (v : Value) (xs : List Int) (hs : a.eval s = v) (hown : Own wr base v xs)
    (hx : a.eval x = .slice (some ⟨wr.heap.size, 0, none⟩) 1 1) (hn : xs.length ≤ 4000000) (hbase : base ≤ wr.heap.size)
    (h : ∀ v' w', Own w' base v' (xs ++ [y]) → wr.grownBy w' v.ownBlock → (∀ g, v'.ownBlock = some g → v.ownBlock = some g ∨ wr.heap.size ≤ g) → wpList P ops Q rest (a.put o.dst v') w') :
    wpList P ops Q (o :: rest) a (wr.alloc (.cells #[.int .i64 y] 3)) := by
  have h0 := hown
  rcases hown with ⟨rfl, rfl⟩ | ⟨g, f, cap, cur, rfl, hb, ⟨T', hg⟩, h1, h2, h3, h4⟩
  · obtain ⟨i0, hi, hz0, hz1, hz2⟩ := info_parts hinfo
    have hr : (wr.alloc (.cells #[.int .i64 y] 3)).ownsRow wr.heap.size 3 1 (.slice none 0 0) 0 (ints []) := ⟨by simp, .inl ⟨rfl, rfl⟩⟩
    refine wpList_append_own _ hgd s x T ho wr.heap.size 3 i0 (.int .i64 0) 1 8 ht hi hz0 hz1 hz2 rfl (by decide) (.slice none 0 0) 0 (ints []) hs hr ⟨wr.heap.size, 0, none⟩ 1 1 [.int .i64 y] hx rfl ?_ ?_ (by unfold maxLen; omega) (by omega) (by simp) ?_
    · intro j u hu
      rcases j with _ | j
      · simp at hu; subst hu
        simp [Addr.add, World.cell?_alloc_at]
      · simp at hu
    · intro u hu; simp at hu; subst hu; rfl
    · intro v' w' g1 g2 _
      have g3 : w'.ownsRow wr.heap.size 3 1 v' (0 + 1) (ints ([] ++ [y])) := by simpa [ints] using g1
      have o3 := own_of_row g3
      exact h v' w' (o3.mono hbase) ((World.grownBy_alloc _ _ _).trans' g2) (fun g hg => .inr (o3.lt g hg).1)
  · obtain ⟨i0, hi, hz0, hz1, hz2⟩ := info_parts hinfo
    have hba : Below wr.heap.size wr (wr.alloc (.cells #[.int .i64 y] 3)) := (Below.refl _ _).alloc (Nat.le_refl _) _
    have ho2 := h0.belowAll hba
    obtain ⟨hl, hc⟩ := ho2.cellAt rfl
    have hg0 : wr.grownBy (wr.alloc (.cells #[.int .i64 y] 3)) (some g) := ⟨hba.os, hba.tape, hba.output, hba.size, fun k hk _ => hba.block k hk⟩
    refine wpList_append_arg _ hgd s x T ho 3 i0 (.int .i64 0) 1 8 ht hi hz0 hz1 hz2 rfl (by decide) g f xs.length cap (ints xs) hs (by simp [hl]) ?_ ⟨wr.heap.size, 0, none⟩ 1 1 [.int .i64 y] hx rfl ?_ ?_ ?_ (by unfold maxLen; omega) (by omega) ?_ ?_
    · intro j u hu
      have hj : j < xs.length := by have := (List.getElem?_eq_some_iff.1 hu).1; simpa using this
      rw [hc j hj, ← hu]
      simp [hj]
    · intro j u hu
      rcases j with _ | j
      · simp at hu; subst hu
        simp [Addr.add, World.cell?_alloc_at]
      · simp at hu
    · intro u hu
      simp at hu; subst hu; rfl
    · intro hr j hj
      obtain rfl : j = 0 := by simpa using hj
      have hblt : g < wr.heap.size := (Array.getElem?_eq_some_iff.1 hg).1
      have hg' : (wr.alloc (.cells #[.int .i64 y] 3)).heap[g]? = some (.cells cur T' (0, 0)) := (hba.block g hblt).trans hg
      refine ⟨?_, frozen_of_row _ _ _ _ _ hg'⟩
      rw [cell_of_row _ _ _ _ _ _ hg']
      simp; omega
    · intro hr
      have hst := ho2.pushed' rfl (by omega) y
      rw [show f + xs.length * 1 = f + xs.length from by omega]
      exact h _ _ hst.1 (hg0.trans' hst.2) (fun g' hg' => .inl (by simpa [Value.ownBlock] using hg'))
    · intro hr v' w' h1 h2
      have h3 : w'.ownsRow (wr.alloc (.cells #[.int .i64 y] 3)).heap.size 3 1 v' (xs.length + 1) (ints (xs ++ [y])) := by simpa [ints] using h1
      have o3 := own_of_row h3
      exact h v' w' (o3.mono (by simp; omega)) (hg0.trans' ⟨h2.os, h2.tape, h2.output, h2.size, fun k hk _ => h2.block k hk (by simp)⟩) (fun g' hg' => .inr (by have := (o3.lt g' hg').1; simp at this; omega))

theorem flat_put2 {fs : List (List Nat)} {f : List Nat} {lo j : Nat} (hn : fs.flatten.Nodup) (hlt : ∀ k ∈ fs.flatten, k < lo) (hj : j < fs.length) (hf : f.Nodup) (hge : ∀ k ∈ f, k ∈ fs[j] ∨ lo ≤ k) :
    (fs.set j f).flatten.Nodup ∧ ∀ k ∈ (fs.set j f).flatten, k ∈ fs.flatten ∨ lo ≤ k := by
  have hmem : ∀ k ∈ (fs.set j f).flatten, k ∈ fs.flatten ∨ lo ≤ k := fun k hk => by
    obtain ⟨i, hi, h2⟩ := mem_flat_get hk
    rw [List.length_set] at hi
    by_cases e : j = i
    · subst e; rw [List.getElem_set_self] at h2
      rcases hge k h2 with h3 | h3
      · exact .inl (List.mem_flatten.2 ⟨_, List.getElem_mem hj, h3⟩)
      · exact .inr h3
    · rw [List.getElem_set_ne e] at h2; exact .inl (List.mem_flatten.2 ⟨_, List.getElem_mem hi, h2⟩)
  refine ⟨?_, hmem⟩
  obtain ⟨h1, h2⟩ := nodup_flatten.1 hn
  rw [List.pairwise_iff_getElem] at h2
  have hlt' : ∀ i (hi : i < fs.length), ∀ k ∈ fs[i], k < lo := fun i hi k hk => hlt k (List.mem_flatten.2 ⟨_, List.getElem_mem hi, hk⟩)
  refine nodup_flatten.2 ⟨fun g hg => ?_, ?_⟩
  · obtain ⟨i, hi, rfl⟩ := List.mem_iff_getElem.1 hg
    rw [List.length_set] at hi
    by_cases e : j = i
    · subst e; rw [List.getElem_set_self]; exact hf
    · rw [List.getElem_set_ne e]; exact h1 _ (List.getElem_mem hi)
  · rw [List.pairwise_iff_getElem]
    intro a b ha hb hab x hx y hy
    rw [List.length_set] at ha hb
    by_cases ea : j = a
    · subst ea
      rw [List.getElem_set_self] at hx
      rw [List.getElem_set_ne (by omega)] at hy
      rcases hge x hx with h3 | h3
      · exact h2 j b ha hb hab x h3 y hy
      · have := hlt' b hb y hy; omega
    · rw [List.getElem_set_ne ea] at hx
      by_cases eb : j = b
      · subst eb
        rw [List.getElem_set_self] at hy
        rcases hge y hy with h3 | h3
        · exact h2 a j ha hb hab x hx y h3
        · have := hlt' a ha x hx; omega
      · rw [List.getElem_set_ne eb] at hy
        exact h2 a b ha hb hab x hx y hy
/-- An element of a row under way is turned, in its own blocks or into new ones, and stored. -/
theorem Grw.deep {w : World} {base size n : Nat} {T : TypeId} {v : Value} {ds : List Dt} (h : Grw w base T size v n ds) {j : Nat} {d : Dt} (hj : ds[j]? = some d) :
    ∃ g cap u f, v = .slice (some ⟨g, 0, none⟩) n cap ∧ w.cell? ⟨g, j, none⟩ = some u ∧ base ≤ g ∧ g < w.heap.size ∧ Odt w d u f ∧ f.Nodup ∧ (∀ k ∈ f, base ≤ k ∧ k < w.heap.size) ∧ g ∉ f ∧
      ∀ (w' : World) (d' : Dt) (u' : Value) (f' : List Nat), Odt w' d' u' f' → f'.Nodup → (∀ k ∈ f', k ∈ f ∨ w.heap.size ≤ k) → base ≤ w.heap.size → Wr w w' f →
        (∃ u0, w'.cell? ⟨g, j, none⟩ = some u0) ∧ w'.frozen? ⟨g, j, none⟩ = false ∧ Grw (w'.setCell ⟨g, j, none⟩ u') base T size v n (ds.set j d') := by
  obtain ⟨us, fs, h1, h2, h3, h4, h5, h6, h7⟩ := h
  have hjl : j < ds.length := (List.getElem?_eq_some_iff.1 hj).1
  have hju : us[j]? = some (us[j]'(by omega)) := List.getElem?_eq_getElem (by omega)
  have hjf : fs[j]? = some (fs[j]'(by omega)) := List.getElem?_eq_getElem (by omega)
  have hsub : ∀ k ∈ fs[j]'(by omega), k ∈ fs.flatten := fun k hk => List.mem_flatten.2 ⟨_, List.getElem_mem _, hk⟩
  have hlt : ∀ k ∈ fs.flatten, k < w.heap.size := Grw.flt h2 h3 h4
  rcases h1.2 with ⟨rfl, h0⟩ | ⟨g, cap, cur, rfl, q1, q2, q3, q4, q5, q6⟩
  · have := h1.1; rw [h0] at this; omega
  have hgf : g ∉ fs.flatten := h7 g rfl
  have hgl : g < w.heap.size := (Array.getElem?_eq_some_iff.1 q2).1
  obtain ⟨hn1, hn2⟩ := nodup_flatten.1 h5
  rw [List.pairwise_iff_getElem] at hn2
  have htk : (cur.toList.drop 0).take (n * size) = us := by rw [List.drop_zero]; exact q6
  refine ⟨g, cap, _, _, rfl, ?_, q1, hgl, h4 j d _ _ hj hju hjf, hn1 _ (List.getElem_mem _), fun k hk => ⟨h6 k (hsub k hk), hlt k (hsub k hk)⟩, fun e => hgf (hsub g e), fun w' d' u' f' hd hnd hnew hbase hw => ?_⟩
  · have := row_cell q2 htk hju h1.1
    rw [Nat.zero_add] at this; exact this
  have hg' : w'.heap[g]? = some (.cells cur T (0, 0)) := by rw [hw.block g hgl (fun e => hgf (hsub g e))]; exact q2
  have hcell : w'.cell? ⟨g, j, none⟩ = some (us[j]'(by omega)) := by
    have := row_cell hg' htk hju h1.1
    rw [Nat.zero_add] at this; exact this
  obtain ⟨p1, p2⟩ := flat_put2 h5 hlt (show j < fs.length by omega) hnd hnew
  have hset : ∀ k, k ≠ g → (w'.setCell ⟨g, j, none⟩ u').heap[k]? = w'.heap[k]? := fun k hk => heap_setCell_other w' ⟨g, j, none⟩ k u' hk
  have hgs : g ∉ (fs.set j f').flatten := fun e => by
    rcases p2 g e with e | e
    · exact hgf e
    · omega
  refine ⟨⟨_, hcell⟩, frozen_of_row _ _ _ _ _ hg', us.set j u', fs.set j f', ⟨by rw [List.length_set]; exact h1.1, .inr ⟨g, cap, cur.setIfInBounds j u', rfl, q1, heap_setCell_same w' g j cur T u' hg', q3, q4, by simpa using q5, ?_⟩⟩, by rw [List.length_set, List.length_set]; exact h2, by rw [List.length_set, List.length_set]; exact h3, fun i d2 u2 f2 e1 e2 e3 => ?_, p1, fun k hk => ?_, fun k hk => ?_⟩
  · rw [Array.toList_setIfInBounds, List.take_set, q6]
  · by_cases e : j = i
    · subst e
      rw [List.getElem?_set_self hjl] at e1
      rw [List.getElem?_set_self (by omega)] at e2
      rw [List.getElem?_set_self (by omega)] at e3
      cases e1; cases e2; cases e3
      exact hd.kept fun k hk => hset k (fun e => hgs (List.mem_flatten.2 ⟨f', List.mem_iff_getElem.2 ⟨j, by rw [List.length_set]; omega, List.getElem_set_self _⟩, by rw [← e]; exact hk⟩))
    · rw [List.getElem?_set_ne e] at e1 e2 e3
      have hil : i < fs.length := (List.getElem?_eq_some_iff.1 e3).1
      have e4 : fs[i] = f2 := (List.getElem?_eq_some_iff.1 e3).2
      have hd2 := h4 i d2 u2 f2 e1 e2 e3
      refine hd2.kept fun k hk => ?_
      have hkf : k ∈ fs.flatten := List.mem_flatten.2 ⟨f2, List.mem_of_getElem? e3, hk⟩
      rw [hset k (fun e => hgf (by rw [← e]; exact hkf)), hw.block k (hlt k hkf) (fun hk2 => ?_)]
      rw [← e4] at hk
      rcases Nat.lt_or_gt_of_ne e with hlt2 | hgt
      · exact hn2 j i (by omega) hil hlt2 k hk2 k hk rfl
      · exact hn2 i j hil (by omega) hgt k hk k hk2 rfl
  · rcases p2 k hk with e | e
    · exact h6 k e
    · omega
  · have : g = k := by simpa [Value.ownBlock] using hk
    rw [← this]; exact hgs
end Go.Proofs.YtmkkdenhjfjmgaaGreat
namespace Go.Proofs.YtmkkdenhjfjmgaaGreat
open Go.RowKit Go.Sort
set_option maxRecDepth 100000

theorem othE_a {f : Fib} {t : Int} (h : t = f.a) : othE f t = f.b := by unfold othE; rw [if_pos h]
theorem othE_b {f : Fib} {t : Int} (h : ¬ t = f.a) (h2 : t = f.b) : othE f t = f.a := by unfold othE; rw [if_neg h, if_pos h2]
theorem othE_no {f : Fib} {t : Int} (h : ¬ t = f.a) (h2 : ¬ t = f.b) : othE f t = -1 := by unfold othE; rw [if_neg h, if_neg h2]
theorem otherEnd_any (f : Fib) (t : Int) (w : World) :
    Calls Tryz.prog 207 #[fibV f, .int .i64 t] w fun e w' => e = .returned (.int .i64 (othE f t)) ∧ Below w.heap.size w w' := by
  unfold fibV
  have HA := Lib.hid (@othE_a f t)
  have HB := Lib.hid (@othE_b f t)
  have HN := Lib.hid (@othE_no f t)
  obtain ⟨bx, bc, -, -⟩ := box_facts w #[.int .i64 f.a, .int .i64 f.b, .int .i64 f.l, .int .i64 f.r] 148
  have q0 := bc 0 _ rfl
  have q1 := bc 1 _ rfl
  have HBX := Lib.hid bx
  clear bc bx
  generalize othE f t = o at *
  by_cases h1 : t = f.a
  · have HE := Lib.hid (HA.out h1)
    have b1 : (t == f.a) = true := by simp [h1]
    have b2 : decide (t = f.a) = true := by simp [h1]
    clear h1
    go_enter Tryz.func207, Tryz.ntmps207
    go_wp2
    go_ret
    exact ⟨by rw [HE.out]; rfl, HBX.out⟩
  have b1 : (t == f.a) = false := by simp [h1]
  have b2 : decide (t = f.a) = false := by simp [h1]
  by_cases h2 : t = f.b
  · have HE := Lib.hid (HB.out h1 h2)
    have b3 : (t == f.b) = true := by simp [h2]
    have b4 : decide (t = f.b) = true := by simp [h2]
    clear h1 h2
    go_enter Tryz.func207, Tryz.ntmps207
    go_wp2
    go_ret
    exact ⟨by rw [HE.out]; rfl, HBX.out⟩
  have b3 : (t == f.b) = false := by simp [h2]
  have b4 : decide (t = f.b) = false := by simp [h2]
  have HE := Lib.hid (HN.out h1 h2)
  clear h1 h2
  go_enter Tryz.func207, Tryz.ntmps207
  go_wp2
  go_ret
  exact ⟨by rw [HE.out]; rfl, HBX.out⟩
theorem l2Other_any (u1 u2 : Value) (n : Net) (k : Nat) (t : Int) (w : World) (h : Rdt w (flt 4 fibE n.fs) u2) (h1 : ∃ a m c, u1 = .slice a m c) (hk : k < n.fs.length) :
    Calls Tryz.prog 194 #[.agg #[u1, u2], .int .i64 k, .int .i64 t] w fun e w' => e = .returned (.int .i64 (othE (fbA n k) t)) ∧ Below w.heap.size w w' := by
  obtain ⟨a1, m1, c1, rfl⟩ := h1
  obtain ⟨a2, m2, c2, rfl, HN2, hc2, hm2, ha2⟩ := flt_opn (m := 4) (enc := fibE) (fun _ => rfl) (by omega) nilB h
  have hk2 : k < m2 := by have := HN2.out; omega
  obtain ⟨b, off, rfl, hbs, hcs⟩ := ha2 (by omega)
  obtain ⟨bx, bc, -, -⟩ := box_facts w #[.slice a1 m1 c1, .slice (some ⟨b, off, none⟩) m2 c2] 35
  have q0 := bc 0 _ rfl
  have q1 := bc 1 _ rfl
  have HBX := Lib.hid bx
  have e0 := (bx.cell (p := ⟨b, off + k * 4 + 0, none⟩) hbs).trans (hcs k hk2 0 _ rfl)
  have e1 := (bx.cell (p := ⟨b, off + k * 4 + 1, none⟩) hbs).trans (hcs k hk2 1 _ rfl)
  have e2 := (bx.cell (p := ⟨b, off + k * 4 + 2, none⟩) hbs).trans (hcs k hk2 2 _ rfl)
  have e3 := (bx.cell (p := ⟨b, off + k * 4 + 3, none⟩) hbs).trans (hcs k hk2 3 _ rfl)
  simp only [Nat.add_zero] at e0
  have hkI : (k : Int) < (m2 : Int) := by omega
  unfold fbA
  clear hcs bc bx ha2 h hk
  generalize n.fs[k]?.getD nilB = f at *
  have HA := Lib.hid (@othE_a f t)
  have HB := Lib.hid (@othE_b f t)
  have HN := Lib.hid (@othE_no f t)
  have HBY := Lib.hid (fun (w1 : World) => (box_facts w1 #[.int .i64 f.a, .int .i64 f.b, .int .i64 f.l, .int .i64 f.r] 148).1)
  generalize othE f t = o at *
  go_enter Tryz.func194, Tryz.ntmps194
  by_cases h1 : t = f.a
  · have HE := Lib.hid (HA.out h1)
    have b1 : (t == f.a) = true := by simp [h1]
    have b2 : decide (t = f.a) = true := by simp [h1]
    clear h1
    go_wp2
    go_ret
    exact ⟨by rw [HE.out]; rfl, HBX.out.trans ((HBY.out _).mono HBX.out.size)⟩
  have b1 : (t == f.a) = false := by simp [h1]
  have b2 : decide (t = f.a) = false := by simp [h1]
  by_cases h2 : t = f.b
  · have HE := Lib.hid (HB.out h1 h2)
    have b3 : (t == f.b) = true := by simp [h2]
    have b4 : decide (t = f.b) = true := by simp [h2]
    clear h1 h2
    go_wp2
    go_ret
    exact ⟨by rw [HE.out]; rfl, HBX.out.trans ((HBY.out _).mono HBX.out.size)⟩
  have b3 : (t == f.b) = false := by simp [h2]
  have b4 : decide (t = f.b) = false := by simp [h2]
  have HE := Lib.hid (HN.out h1 h2)
  clear h1 h2
  go_wp2
  go_ret
  exact ⟨by rw [HE.out]; rfl, HBX.out.trans ((HBY.out _).mono HBX.out.size)⟩
end Go.Proofs.YtmkkdenhjfjmgaaGreat
namespace Go.Proofs.YtmkkdenhjfjmgaaGreat
open Go.RowKit Go.Sort
set_option maxRecDepth 100000
theorem Tryz.infoI : (Tryz.prog.info? 3).map (fun i => (i.zero, i.size, i.bytes)) = some (some (.int .i64 0), 1, 8) := by kernel_rfl
/-- What the walk of a route answers. -/
def VisP (o : Option (List Int)) (w : World) (e : Ending) (w' : World) : Prop := ∃ v, e = .returned (.tuple #[v, .bool o.isSome]) ∧ (o.isSome = true → Own w' w.heap.size v (o.getD [])) ∧ (∃ a m c, v = .slice a m c) ∧ Below w.heap.size w w'
theorem VisP.no {o : Option (List Int)} {w w' : World} {a : Option Addr} {m c : Nat} (h : o = none) (hb : Below w.heap.size w w') : VisP o w (.returned (.tuple #[.slice a m c, .bool false])) w' := by
  subst h
  exact ⟨.slice a m c, rfl, (fun e => (by cases e)), ⟨_, _, _, rfl⟩, hb⟩
theorem VisP.yes {o : Option (List Int)} {w w' : World} {a : Option Addr} {m c : Nat} {xs : List Int} (h : o = some xs) (ho : Own w' w.heap.size (.slice a m c) xs) (hb : Below w.heap.size w w') : VisP o w (.returned (.tuple #[.slice a m c, .bool true])) w' := by
  subst h
  exact ⟨.slice a m c, rfl, fun _ => ho, ⟨_, _, _, rfl⟩, hb⟩
theorem rouN_no1 {n : Net} {r : Rou} (h : inB r.st 0 ((n.ns.length : Int) - 1) = false) : rouN n r = none := by unfold rouN; rw [h]; rfl
theorem rouN_no2 {n : Net} {r : Rou} (h : r.fb.length = 0) : rouN n r = none := by
  have : r.fb = [] := List.eq_nil_of_length_eq_zero h
  unfold rouN; rw [this]; simp
theorem rouN_go {n : Net} {r : Rou} (h : inB r.st 0 ((n.ns.length : Int) - 1) = true) (h2 : r.fb.length ≠ 0) : rouN n r = wlk n [r.st] r.st r.fb := by
  have : r.fb.isEmpty = false := by cases hh : r.fb <;> simp_all
  unfold rouN; rw [h, this]; rfl
theorem own_one (w : World) (x : Int) (T : TypeId) : Own (w.alloc (.cells #[.int .i64 x] T)) w.heap.size (.slice (some ⟨w.heap.size, 0, none⟩) 1 1) [x] :=
  .inr ⟨w.heap.size, 0, 1, #[.int .i64 x], rfl, Nat.le_refl _, ⟨T, heap_alloc_new w _⟩, by simp, by unfold maxLen; omega, by simp, by simp [ints]⟩
set_option maxHeartbeats 3200000 in
theorem visited_any (u1 u2 v3 : Value) (n : Net) (r : Rou) (w : World) (h : NetR w (.agg #[u1, u2]) n) (hr : Rd w v3 r.fb) (hl : r.fb.length ≤ 1100000) :
    Calls Tryz.prog 178 #[.agg #[u1, u2], .agg #[.int .i64 r.st, v3]] w (VisP (rouN n r) w) := by
  obtain ⟨x1, x2, e, r1, r2, hsm⟩ := h
  simp only [Value.agg.injEq, Array.mk.injEq, List.cons.injEq, and_true] at e
  obtain ⟨rfl, rfl⟩ := e
  obtain ⟨a1, m1, c1, rfl, HN1, hc1, hm1, -⟩ := flt_opn (m := 1) (enc := strE) (fun _ => rfl) (by omega) nilS r1
  obtain ⟨a2, m2, c2, rfl, HN2, hc2, hm2, ha2⟩ := flt_opn (m := 4) (enc := fibE) (fun _ => rfl) (by omega) nilB r2
  obtain ⟨a3, c3, m3, HN3, rfl, hc3, hm3, ha3⟩ := hr.opn
  have HO1 := Lib.hid (@rouN_no1 n r)
  have HO2 := Lib.hid (@rouN_no2 n r)
  have HO3 := Lib.hid (@rouN_go n r)
  rw [HN1.out] at HO1 HO3
  rw [HN3.out] at HO2 HO3
  have HX := Lib.hid (fun w' a m c (hb : Below w.heap.size w w') (e : rouN n r = none) => @VisP.no (rouN n r) w w' a m c e hb)
  have HY := Lib.hid (fun w' a m c xs (hb : Below w.heap.size w w') (ho : Own w' w.heap.size (.slice a m c) xs) (e : rouN n r = some xs) => @VisP.yes (rouN n r) w w' a m c xs e ho hb)
  have h10 : m3 ≤ 1100000 := by have := HN3.out; omega
  have HA2 := Lib.hid ha2
  have HA3 := Lib.hid ha3
  obtain ⟨bx, bc, blt, -⟩ := box_facts w #[.slice a1 m1 c1, .slice a2 m2 c2] 35
  obtain ⟨by', bd, bmt, -⟩ := box_facts (w.alloc (.cells #[.slice a1 m1 c1, .slice a2 m2 c2] 35)) #[.int .i64 r.st, .slice a3 m3 c3] 90
  have q0 := (by'.cell (p := ⟨w.heap.size, 0, none⟩) blt).trans (bc 0 _ rfl)
  have q1 := (by'.cell (p := ⟨w.heap.size, 1, none⟩) blt).trans (bc 1 _ rfl)
  have q2 := bd 0 _ rfl
  have q3 := bd 1 _ rfl
  have hs1 : (w.alloc (.cells #[.slice a1 m1 c1, .slice a2 m2 c2] 35)).heap.size = w.heap.size + 1 := by simp
  rw [hs1] at q2 q3 bmt
  have HBX := Lib.hid (bx.trans (by'.mono bx.size))
  have blt2 := Nat.lt_of_lt_of_le blt by'.size
  clear bc bd bx by' hs1 ha2 ha3 r1 r2 blt hr
  go_enter Tryz.func178, Tryz.ntmps178
  cases hin : inB r.st 0 ((m1 : Int) - 1)
  · have HE := Lib.hid (HO1.out hin)
    go_wp2_with (go_at_call 83; refine (within_any _ _ _ _).mono ?_; rintro e w' ⟨rfl, rfl⟩; rw [hin])
    go_ret2
    exact HX.out _ _ _ _ HBX.out HE.out
  by_cases h0 : m3 = 0
  · have HE := Lib.hid (HO2.out h0)
    have b1 : ((m3 : Int) == 0) = true := by rw [beq_iff_eq]; omega
    have b2 : decide ((m3 : Int) = 0) = true := decide_eq_true (by omega)
    clear h0
    go_wp2_with (go_at_call 83; refine (within_any _ _ _ _).mono ?_; rintro e w' ⟨rfl, rfl⟩; rw [hin])
    go_ret2
    exact HX.out _ _ _ _ HBX.out HE.out
  have HE := Lib.hid (HO3.out hin h0)
  have b1 : ((m3 : Int) == 0) = false := by rw [beq_eq_false_iff_ne]; omega
  have b2 : decide ((m3 : Int) = 0) = false := decide_eq_false (by omega)
  clear h0
  go_wp2_with (go_at_call 83; refine (within_any _ _ _ _).mono ?_; rintro e w' ⟨rfl, rfl⟩; rw [hin])
  generalize (w.alloc (.cells #[.slice a1 m1 c1, .slice a2 m2 c2] 35)).alloc (.cells #[.int .i64 r.st, .slice a3 m3 c3] 90) = w2 at *
  have hx1 : ¬ w.heap.size = w2.heap.size := by omega
  have hx2 : ¬ w.heap.size + 1 = w2.heap.size := by omega
  have HO0 := Lib.hid (show Own (w2.drew.alloc (.cells #[.int .i64 r.st] 3)) w2.heap.size (.slice (some ⟨w2.heap.size, 0, none⟩) 1 1) [r.st] from own_one w2.drew r.st 3)
  have HB0 := Lib.hid (((Below.refl w2.heap.size w2).drew).alloc (Nat.le_refl _) (.cells #[.int .i64 r.st] 3))
  go_cut [6, 7] from 24 to 28 (fun s6 s7 wx => s6 = .slice (some ⟨w2.heap.size, 0, none⟩) 1 1 ∧ s7 = .int .i64 r.st ∧ Hid (wx = w2.drew.alloc (.cells #[.int .i64 r.st] 3)))
  case first =>
    go_region_law (fail)
    all_goals
      go_wp2
      go_meet
      exact ⟨rfl, rfl, rfl⟩
  case rest =>
  obtain ⟨rfl, rfl, hw⟩ := hcut
  have hw := hw.out
  subst hw
  generalize w2.drew.alloc (.cells #[.int .i64 r.st] 3) = w3 at *
  have g3 := (HB0.out.cell bmt).trans q3
  clear hx1 hx2 b1 b2 hin
  go_wp2
  clear g3
  go_loopw [6, 7, 9, 32] (fun s6 s7 _ i wr => ∃ (k : Nat) (out : List Int) (t : Int), k ≤ m3 ∧ i = .int .i64 k ∧ s7 = .int .i64 t ∧ Hid (Own wr w2.heap.size s6 out) ∧ Hid (out.length = k + 1) ∧ Hid (wlk n [r.st] r.st r.fb = wlk n out t (r.fb.drop k)) ∧ Hid (Below w2.heap.size w2 wr)) (fun _ _ _ i _ => m3 - (intOf i).toNat)
  case atStart => exact ⟨0, [r.st], r.st, Nat.zero_le _, rfl, rfl, HO0.out, rfl, rfl, HB0.out⟩
  case round =>
    obtain ⟨k, out, t, hk, rfl, rfl, HOW, HLN, HW, HB⟩ := hrel
    obtain ⟨aR, cR, nR, HNR, rfl, hcR, hnR, -⟩ := HOW.out.rd.opn
    by_cases hlt : k < m3
    · have hltI : (k : Int) < (m3 : Int) := by omega
      have HST := Lib.hid (wlk_step (n := n) (out := out) (t := t) (xs := r.fb) (k := k) (by rw [HN3.out]; exact hlt))
      rw [HN2.out] at HST
      obtain ⟨b, off, rfl, hbs, hcs⟩ := HA3.out (by omega)
      have p1 := (HB.out.cell (p := ⟨w.heap.size, 1, none⟩) blt2).trans q1
      have c0 := (HB.out.cell (p := ⟨b, off + k, none⟩) (Nat.lt_of_lt_of_le hbs HBX.out.size)).trans ((HBX.out.cell (p := ⟨b, off + k, none⟩) hbs).trans (hcs k hlt))
      clear hcs
      generalize r.fb[k]?.getD 0 = x at *
      cases hix : inB x 0 ((m2 : Int) - 1)
      · rw [hix] at HST
        have HF := Lib.hid (HE.out.trans (HW.out.trans HST.out))
        go_wp2_with (go_at_call 83; refine (within_any _ _ _ _).mono ?_; rintro e w' ⟨rfl, rfl⟩; rw [hix])
        go_ret2
        exact HX.out _ _ _ _ (HBX.out.trans (HB.out.mono HBX.out.size)) HF.out
      rw [hix] at HST
      obtain ⟨hx0, hx9⟩ := inB_true hix
      obtain ⟨j, rfl⟩ : ∃ j : Nat, x = (j : Int) := ⟨x.toNat, by omega⟩
      have hj : j < m2 := by omega
      have hjI : (j : Int) < (m2 : Int) := by omega
      obtain ⟨b', off', rfl, hbs', hcs'⟩ := HA2.out (by omega)
      have hcw := fun (r : Nat) (u : Value) (hu : (fibE (n.fs[j]?.getD nilB))[r]? = some u) => (HB.out.cell (p := ⟨b', off' + j * 4 + r, none⟩) (Nat.lt_of_lt_of_le hbs' HBX.out.size)).trans ((HBX.out.cell hbs').trans (hcs' j hj r u hu))
      have d0 := hcw 0 _ rfl
      have d1 := hcw 1 _ rfl
      have d2 := hcw 2 _ rfl
      have d3 := hcw 3 _ rfl
      simp only [Nat.add_zero] at d0
      have HOE := Lib.hid (fun w => otherEnd_any (n.fs[j]?.getD nilB) t w)
      have HST2 := Lib.hid (show wlk n out t (r.fb.drop k) = (if othE (n.fs[j]?.getD nilB) t < 0 ∨ othE (n.fs[j]?.getD nilB) t ∈ out then none else wlk n (out ++ [othE (n.fs[j]?.getD nilB) t]) (othE (n.fs[j]?.getD nilB) t) (r.fb.drop (k + 1))) from HST.out)
      unfold fibV at HOE
      clear hcw hcs' HST hx0 hx9
      generalize n.fs[j]?.getD nilB = f at *
      generalize othE f t = o at *
      go_wp2_with (go_at_call 83; refine (within_any _ _ _ _).mono ?_; rintro e w' ⟨rfl, rfl⟩; rw [hix])
      refine (HOE.out _).mono ?_
      rintro e w4 ⟨rfl, b4⟩
      have HB4 := Lib.hid (HB.out.trans (b4.mono HB.out.size))
      have HOW4 := Lib.hid (HOW.out.belowAll b4)
      have HC4 := Lib.hid (containsI_any _ out o w4 HOW4.out.rd)
      clear b4 p1 c0 d0 d1 d2 d3 HOE hix
      by_cases ho : o < 0
      · have HF := Lib.hid (HE.out.trans (HW.out.trans (HST2.out.trans (if_pos (.inl ho)))))
        have hd : decide (o < 0) = true := decide_eq_true ho
        clear ho
        go_wp2
        go_ret2
        exact HX.out _ _ _ _ (HBX.out.trans (HB4.out.mono HBX.out.size)) HF.out
      have hd : decide (o < 0) = false := decide_eq_false ho
      cases hcn : out.contains o
      case true =>
        have HF := Lib.hid (HE.out.trans (HW.out.trans (HST2.out.trans (if_pos (.inr (List.contains_iff_mem.1 hcn))))))
        rw [hcn] at HC4
        clear ho
        go_wp2_with (go_at_call 65; refine (HC4.out).mono ?_; rintro e w' ⟨rfl, rfl⟩)
        go_ret2
        exact HX.out _ _ _ _ (HBX.out.trans (HB4.out.mono HBX.out.size)) HF.out
      have HF := Lib.hid (HW.out.trans (HST2.out.trans (if_neg (fun h => h.elim ho (fun h => by rw [List.contains_iff_mem.2 h] at hcn; cases hcn)))))
      rw [hcn] at HC4
      clear ho hcn
      have HLO := Lib.hid (show out.length ≤ 4000000 by have := HLN.out; omega)
      go_wp2_with (first
        | (go_at_call 65; refine (HC4.out).mono ?_; rintro e w' ⟨rfl, rfl⟩)
        | (at_builtin; go_loud (refine wpList_pushI rfl (.tmp 57) (.tmp 59) 29 rfl Tryz.underlying29 Tryz.infoI w2.heap.size (.slice aR nR cR) out rfl HOW4.out rfl HLO.out HB4.out.size ?_); intro v5 w5 o5 g5 l5; have HO5 := Lib.hid o5; have HB5 := Lib.hid (HB4.out.grown g5 HB4.out.size (fun q hq => (HOW4.out.lt q hq).1)); clear o5 g5 l5))
      go_roundw
      case rel => exact ⟨k + 1, out ++ [o], o, hlt, by go_num, rfl, HO5.out, by show (out ++ [o]).length = k + 1 + 1; rw [List.length_append, HLN.out]; rfl, HF.out, HB5.out⟩
      case measure => simp [intOf]; omega
    · obtain rfl : m3 = k := by omega
      have HF := Lib.hid (show rouN n r = some out by rw [HE.out, HW.out, List.drop_of_length_le (Nat.le_of_eq HN3.out)]; rfl)
      go_wp2
      go_ret2
      exact HY.out _ _ _ _ _ (HBX.out.trans (HB.out.mono HBX.out.size)) (HOW.out.mono HBX.out.size) HF.out
end Go.Proofs.YtmkkdenhjfjmgaaGreat
namespace Go.Proofs.YtmkkdenhjfjmgaaGreat
open Go.RowKit Go.Sort Go.Lib

def srt (xs : List Int) : List Int := xs.mergeSort fun x y => decide (x ≤ y)
def cpt (xs : List Int) : List Int := Go.Lib.compact xs
/-- The set of a list's numbers, in ascending order. -/
def ust (xs : List Int) : List Int := cpt (srt xs)
theorem srt_len (xs : List Int) : (srt xs).length = xs.length := List.length_mergeSort _
theorem srt_mem {xs : List Int} {x : Int} : x ∈ srt xs ↔ x ∈ xs := List.mem_mergeSort
theorem srt_sorted (xs : List Int) : (srt xs).Pairwise (· ≤ ·) := by
  have := List.pairwise_mergeSort (le := fun x y : Int => decide (x ≤ y)) (fun a b c h1 h2 => by simp at h1 h2 ⊢; omega) (fun a b => by simp; omega) xs
  exact this.imp fun h => by simpa using h
theorem cpt_len (xs : List Int) : (cpt xs).length ≤ xs.length := by
  unfold cpt compact compactUpTo
  rw [List.length_map]
  exact Nat.le_trans (List.length_filter_le _ _) (by simp)
theorem getI {xs : List Int} {j : Nat} (h : j < xs.length) : (xs.toArray)[j]! = xs[j] := by simp [h]
theorem cpt_asc {xs : List Int} (h : xs.Pairwise (· ≤ ·)) : (cpt xs).Pairwise (· < ·) := by
  unfold cpt compact compactUpTo
  rw [List.pairwise_map]
  have hr : ((List.range xs.length).filter (keeps xs.toArray)).Pairwise (· < ·) := List.Pairwise.filter _ List.pairwise_lt_range
  refine hr.imp_of_mem (R := (· < ·)) fun {a b} ha hb hab => ?_
  rw [List.mem_filter, List.mem_range] at ha hb
  rw [getI ha.1, getI hb.1]
  have hk := hb.2
  unfold keeps at hk
  simp only [decide_eq_true_eq] at hk
  rcases hk with hk | hk
  · omega
  rw [getI hb.1, getI (show b - 1 < xs.length by omega)] at hk
  have hp := List.pairwise_iff_getElem.1 h
  have h1 : xs[a] ≤ xs[b - 1]'(by omega) := by
    by_cases e : a = b - 1
    · subst e; exact Int.le_refl _
    · exact hp a (b - 1) ha.1 (by omega) (by omega)
  have h2 : xs[b - 1]'(by omega) ≤ xs[b] := hp (b - 1) b (by omega) hb.1 (by omega)
  omega
theorem cpt_mem {xs : List Int} {x : Int} : x ∈ cpt xs ↔ x ∈ xs := by
  unfold cpt compact compactUpTo
  rw [List.mem_map]
  constructor
  · rintro ⟨j, hj, rfl⟩
    rw [List.mem_filter, List.mem_range] at hj
    rw [getI hj.1]
    exact List.getElem_mem hj.1
  · intro h
    obtain ⟨j, hj, rfl⟩ := List.mem_iff_getElem.1 h
    have : ∀ j, ∀ hj : j < xs.length, ∃ i, ∃ hi : i < xs.length, keeps xs.toArray i = true ∧ xs[i] = xs[j] := by
      intro j
      induction j with
      | zero => intro hj; exact ⟨0, hj, by simp [keeps], rfl⟩
      | succ j ih =>
        intro hj
        by_cases e : xs[j + 1] = xs[j]'(by omega)
        · obtain ⟨i, hi, h1, h2⟩ := ih (by omega)
          exact ⟨i, hi, h1, by rw [h2, e]⟩
        · refine ⟨j + 1, hj, ?_, rfl⟩
          unfold keeps
          rw [getI hj, getI (show j + 1 - 1 < xs.length by omega)]
          simp only [decide_eq_true_eq]
          exact .inr (by simpa using e)
    obtain ⟨i, hi, h1, h2⟩ := this j hj
    exact ⟨i, List.mem_filter.2 ⟨List.mem_range.2 hi, h1⟩, by rw [getI hi, h2]⟩
theorem ust_asc (xs : List Int) : (ust xs).Pairwise (· < ·) := cpt_asc (srt_sorted xs)
theorem ust_mem {xs : List Int} {x : Int} : x ∈ ust xs ↔ x ∈ xs := by unfold ust; rw [cpt_mem, srt_mem]
theorem ust_len (xs : List Int) : (ust xs).length ≤ xs.length := by unfold ust; exact Nat.le_trans (cpt_len _) (by rw [srt_len]; exact Nat.le_refl _)
/-- Two ascending lists with the same numbers. -/
theorem asc_ext : ∀ {xs ys : List Int}, xs.Pairwise (· < ·) → ys.Pairwise (· < ·) → (∀ x, x ∈ xs ↔ x ∈ ys) → xs = ys
  | [], [], _, _, _ => rfl
  | [], y :: ys, _, _, h => by have := (h y).2 (by simp); cases this
  | x :: xs, [], _, _, h => by have := (h x).1 (by simp); cases this
  | x :: xs, y :: ys, hx, hy, h => by
    obtain ⟨hx1, hx2⟩ := List.pairwise_cons.1 hx
    obtain ⟨hy1, hy2⟩ := List.pairwise_cons.1 hy
    have e : x = y := by
      have h1 := (h x).1 (by simp)
      have h2 := (h y).2 (by simp)
      rcases List.mem_cons.1 h1 with e | e
      · exact e
      · rcases List.mem_cons.1 h2 with e2 | e2
        · exact e2.symm
        · have := hy1 x e; have := hx1 y e2; omega
    subst e
    congr 1
    refine asc_ext hx2 hy2 fun z => ?_
    constructor
    · intro hz
      have hlt := hx1 z hz
      rcases List.mem_cons.1 ((h z).1 (List.mem_cons_of_mem _ hz)) with e | e
      · omega
      · exact e
    · intro hz
      have hlt := hy1 z hz
      rcases List.mem_cons.1 ((h z).2 (List.mem_cons_of_mem _ hz)) with e | e
      · omega
      · exact e
theorem ust_of {xs ys : List Int} (h : ys.Pairwise (· < ·)) (hm : ∀ x, x ∈ ys ↔ x ∈ xs) : ust xs = ys := asc_ext (ust_asc xs) h fun x => by rw [ust_mem, hm]

/-! ### The cells -/
theorem Own.holds {w : World} {base g off n cap : Nat} {xs : List Int} (h : Own w base (.slice (some ⟨g, off, none⟩) n cap) xs) : Holds (Value.int .i64) w g off xs.toArray := by
  rcases h with ⟨e, _⟩ | ⟨g', off', cap', cur, e, hb, ⟨T, hg⟩, h1, h2, h3, h4⟩
  · cases e
  · simp only [Value.slice.injEq, Option.some.injEq, Addr.mk.injEq, and_true] at e
    obtain ⟨⟨rfl, rfl⟩, rfl, rfl⟩ := e
    intro j hj
    have hj' : j < xs.length := by simpa using hj
    refine ⟨?_, frozen_of_row _ _ _ _ _ hg⟩
    rw [cell_of_row _ _ _ _ _ _ hg, ← Array.getElem?_toList]
    have e : ((cur.toList.drop off).take xs.length)[j]? = (ints xs)[j]? := by rw [h4]
    rw [List.getElem?_take, if_pos hj', List.getElem?_drop] at e
    rw [e]
    simp [hj']
theorem heap_putRow {w : World} {g off n : Nat} {os : Array Obj} {cur : Array Value} {e : TypeId} {fr : Nat × Nat} (d : Array Int) (hb : w.heap[g]? = some (.cells cur e fr)) :
    (grow (putRow (Value.int .i64) (Sort.ahead w n) g off d) os).heap[g]? = some (.cells (putCells (Value.int .i64) off d cur) e fr) := by
  have hg : g < w.heap.size := (Array.getElem?_eq_some_iff.1 hb).1
  rw [heap_grow_old _ _ (by simpa using hg)]
  simp [putRow, mapBlock, Sort.ahead, Array.getElem?_modify, hb, onCells]
theorem grownBy_putRow {w : World} {g off n : Nat} {os : Array Obj} (d : Array Int) : w.grownBy (grow (putRow (Value.int .i64) (Sort.ahead w n) g off d) os) (some g) := by
  refine ⟨rfl, rfl, rfl, by simp, fun k hk hne => ?_⟩
  rw [heap_grow_old _ _ (by simpa using hk)]
  have : g ≠ k := fun e => hne (by rw [e])
  simp [putRow, mapBlock, Sort.ahead, Array.getElem?_modify, this]
theorem drop_putCells (cur : Array Value) (ts : List Int) (off m : Nat) (h : off + ts.length ≤ cur.size) (hm : m ≤ ts.length) : ((putCells (Value.int .i64) off ts.toArray cur).toList.drop off).take m = ints (ts.take m) := by
  apply List.ext_getElem?
  intro j
  by_cases hj : j < m
  · rw [List.getElem?_take_of_lt hj, List.getElem?_drop, Array.getElem?_toList]
    simp [putCells, hj, show off + j < cur.size by omega, show j < ts.length by omega]
  · rw [List.getElem?_take_eq_none (by omega), List.getElem?_eq_none (by simp; omega)]
/-- Behind a store of as many numbers. -/
theorem Own.putRow {w : World} {base g off n cap q m : Nat} {xs ts : List Int} {os : Array Obj} (h : Own w base (.slice (some ⟨g, off, none⟩) n cap) xs) (hl : ts.length = xs.length) (hm : m ≤ ts.length) :
    Own (grow (Sort.putRow (Value.int .i64) (Sort.ahead w q) g off ts.toArray) os) base (.slice (some ⟨g, off, none⟩) m cap) (ts.take m) := by
  rcases h with ⟨e, _⟩ | ⟨g', off', cap', cur, e, hb, ⟨T, hg⟩, h1, h2, h3, h4⟩
  · cases e
  · simp only [Value.slice.injEq, Option.some.injEq, Addr.mk.injEq, and_true] at e
    obtain ⟨⟨rfl, rfl⟩, rfl, rfl⟩ := e
    have hml : (ts.take m).length = m := by rw [List.length_take]; omega
    refine .inr ⟨g, off, cap, _, by rw [hml], hb, ⟨T, heap_putRow _ hg⟩, by rw [hml]; omega, h2, by simp [putCells]; omega, ?_⟩
    rw [hml]
    exact drop_putCells cur ts off m (by omega) hm
end Go.Proofs.YtmkkdenhjfjmgaaGreat
namespace Go.Proofs.YtmkkdenhjfjmgaaGreat
open Go.RowKit Go.Sort Go.Lib

theorem sortI_own (v : Value) (xs : List Int) (base : Nat) (w : World) (h : Own w base v xs) (hl : xs.length ≤ 1099511627776) :
    Calls Tryz.prog 84 #[v] w fun e w' => e = .returned (.tuple #[]) ∧ Own w' base v (srt xs) ∧ w.grownBy w' v.ownBlock := by
  have h0 := h
  rcases h with ⟨rfl, rfl⟩ | ⟨g, off, cap, cur, rfl, hb, ⟨T, hg⟩, h1, h2, h3, h4⟩
  · refine (Tryz.slices_Sort_int_none none 0 w).mono ?_
    rintro e w' ⟨rfl, rfl⟩
    exact ⟨rfl, .inl ⟨rfl, by unfold srt; simp⟩, ⟨rfl, rfl, rfl, Nat.le_refl _, fun _ _ _ => rfl⟩⟩
  · refine (Tryz.slices_Sort_int g off cap xs w h0.holds (Array.getElem?_eq_some_iff.1 hg).1 (by omega)).mono ?_
    rintro e w' ⟨rfl, n, os, rfl⟩
    have := h0.putRow (q := n) (os := os) (ts := srt xs) (m := xs.length) (srt_len xs) (by rw [srt_len]; exact Nat.le_refl _)
    rw [List.take_of_length_le (by rw [srt_len]; exact Nat.le_refl _)] at this
    exact ⟨rfl, this, grownBy_putRow _⟩
theorem compactI_own (v : Value) (xs : List Int) (base : Nat) (w : World) (h : Own w base v xs) (hl : xs.length ≤ 1099511627776) :
    Calls Tryz.prog 85 #[v] w fun e w' => ∃ v', e = .returned v' ∧ v'.ownBlock = v.ownBlock ∧ Own w' base v' (cpt xs) ∧ w.grownBy w' v.ownBlock := by
  have h0 := h
  rcases h with ⟨rfl, rfl⟩ | ⟨g, off, cap, cur, rfl, hb, ⟨T, hg⟩, h1, h2, h3, h4⟩
  · refine (Tryz.slices_Compact_int_empty none 0 w).mono ?_
    rintro e w' ⟨rfl, rfl⟩
    exact ⟨_, rfl, rfl, .inl ⟨rfl, rfl⟩, ⟨rfl, rfl, rfl, Nat.le_refl _, fun _ _ _ => rfl⟩⟩
  · refine (Tryz.slices_Compact_int g off cap xs w h0.holds (by omega) h1).mono ?_
    rintro e w' ⟨rfl, n, rfl⟩
    have hle : (Lib.compact xs).length ≤ xs.length := cpt_len xs
    have hT : (Lib.compact xs ++ List.replicate (xs.length - (Lib.compact xs).length) 0).length = xs.length := by rw [List.length_append, List.length_replicate]; omega
    have := h0.putRow (q := n) (os := #[]) (ts := Lib.compact xs ++ List.replicate (xs.length - (Lib.compact xs).length) 0) (m := (Lib.compact xs).length) hT (by omega)
    rw [List.take_left, grow_empty] at this
    have g2 := grownBy_putRow (w := w) (g := g) (off := off) (n := n) (os := #[]) (Lib.compact xs ++ List.replicate (xs.length - (Lib.compact xs).length) 0).toArray
    rw [grow_empty] at g2
    exact ⟨_, rfl, rfl, this, g2⟩
end Go.Proofs.YtmkkdenhjfjmgaaGreat
namespace Go.Proofs.YtmkkdenhjfjmgaaGreat
open Go.RowKit Go.Sort
set_option maxRecDepth 100000

def cmn (xs ys : List Int) : List Int := xs.filter fun x => ys.contains x
theorem cmn_yes {xs ys : List Int} {k : Nat} (hk : k < xs.length) (h : ys.contains (xs[k]?.getD 0) = true) : cmn (xs.take (k + 1)) ys = cmn (xs.take k) ys ++ [xs[k]?.getD 0] := by
  rw [List.getElem?_eq_getElem hk] at h ⊢
  unfold cmn
  rw [List.take_add_one, List.filter_append, List.getElem?_eq_getElem hk]
  simpa using h
theorem cmn_no {xs ys : List Int} {k : Nat} (hk : k < xs.length) (h : ys.contains (xs[k]?.getD 0) = false) : cmn (xs.take (k + 1)) ys = cmn (xs.take k) ys := by
  rw [List.getElem?_eq_getElem hk] at h
  unfold cmn
  rw [List.take_add_one, List.filter_append, List.getElem?_eq_getElem hk]
  simpa using h
theorem cmn_len (xs ys : List Int) : (cmn xs ys).length ≤ xs.length := List.length_filter_le _ _
theorem own_none (w : World) (T : TypeId) : Own (w.alloc (.cells #[] T)) w.heap.size (.slice (some ⟨w.heap.size, 0, none⟩) 0 0) [] :=
  .inr ⟨w.heap.size, 0, 0, #[], rfl, Nat.le_refl _, ⟨T, heap_alloc_new w _⟩, by simp, by unfold maxLen; omega, by simp, by simp [ints]⟩
set_option maxHeartbeats 1600000 in
theorem common_any (va vb : Value) (xs ys : List Int) (w : World) (ha : Rd w va xs) (hb : Rd w vb ys) (hl : xs.length ≤ 1100000) :
    Calls Tryz.prog 98 #[va, vb] w fun e w' => ∃ v', e = .returned v' ∧ Own w' w.heap.size v' (ust (cmn xs ys)) ∧ Below w.heap.size w w' := by
  obtain ⟨a, ca, n, HN, rfl, _, hn, hca⟩ := ha.opn
  have HC := Lib.hid (fun x w' (hw : Below w.heap.size w w') => containsI_any vb ys x w' (hb.belowAll hw))
  obtain ⟨b, cb, m, -, rfl, -, -, -⟩ := hb.opn
  have HA := Lib.hid hca
  have HY := Lib.hid (fun k h1 h2 => @cmn_yes xs ys k h1 h2)
  have HZ := Lib.hid (fun k h1 h2 => @cmn_no xs ys k h1 h2)
  have HL := Lib.hid (fun k => Nat.le_trans (cmn_len (xs.take k) ys) (List.length_take_le k xs))
  have HT := Lib.hid (show xs.take n = xs from List.take_of_length_le (Nat.le_of_eq HN.out))
  have h10 : n ≤ 1100000 := by have := HN.out; omega
  have HO0 := Lib.hid (own_none w 3)
  have HB0 := Lib.hid ((Below.refl w.heap.size w).alloc (Nat.le_refl _) (.cells #[] 3))
  have hN := HN.out
  rw [hN] at HY HZ
  clear hca ha hb hN
  go_enter Tryz.func98, Tryz.ntmps98
  go_wp2
  go_loopw [5, 7, 11] (fun s5 _ i wr => ∃ k : Nat, k ≤ n ∧ i = .int .i64 k ∧ Hid (Own wr w.heap.size s5 (cmn (xs.take k) ys)) ∧ Hid (Below w.heap.size w wr)) (fun _ _ i _ => n - (intOf i).toNat)
  case atStart => exact ⟨0, Nat.zero_le _, rfl, HO0.out, HB0.out⟩
  case round =>
    obtain ⟨k, hk, rfl, HO, HB⟩ := hrel
    obtain ⟨aR, cR, nR, HNR, rfl, hcR, hnR, -⟩ := HO.out.rd.opn
    by_cases hlt : k < n
    · have hltI : (k : Int) < (n : Int) := by omega
      obtain ⟨b', off, rfl, hbs, hcs⟩ := HA.out (by omega)
      have c0 := (HB.out.cell (p := ⟨b', off + k, none⟩) hbs).trans (hcs k hlt)
      have HY1 := Lib.hid (HY.out k hlt)
      have HZ1 := Lib.hid (HZ.out k hlt)
      have HLO := Lib.hid (show (cmn (xs.take k) ys).length ≤ 4000000 by have := HL.out k; omega)
      have HC1 := Lib.hid (HC.out (xs[k]?.getD 0) wr HB.out)
      clear hcs
      generalize xs[k]?.getD 0 = x at *
      generalize cmn (xs.take k) ys = out at *
      cases hcn : ys.contains x
      · have HE := Lib.hid (HZ1.out hcn)
        rw [hcn] at HC1
        clear hcn
        go_wp2_with (go_at_call 65; refine (HC1.out).mono ?_; rintro e w' ⟨rfl, rfl⟩)
        go_roundw
        case rel => exact ⟨k + 1, hlt, by go_num, by rw [HE.out]; exact HO.out, HB.out⟩
        case measure => simp [intOf]; omega
      · have HE := Lib.hid (HY1.out hcn)
        rw [hcn] at HC1
        clear hcn
        go_wp2_with (first
          | (go_at_call 65; refine (HC1.out).mono ?_; rintro e w' ⟨rfl, rfl⟩)
          | (at_builtin; go_loud (refine wpList_pushI rfl (.tmp 18) (.tmp 20) 29 rfl Tryz.underlying29 Tryz.infoI w.heap.size (.slice aR nR cR) out rfl HO.out rfl HLO.out HB.out.size ?_); intro v5 w5 o5 g5 l5; have HO5 := Lib.hid o5; have HB5 := Lib.hid (HB.out.grown g5 HB.out.size (fun q hq => (HO.out.lt q hq).1)); clear o5 g5 l5))
        go_roundw
        case rel => exact ⟨k + 1, hlt, by go_num, by rw [HE.out]; exact HO5.out, HB5.out⟩
        case measure => simp [intOf]; omega
    · obtain rfl : n = k := by omega
      have HLO := Lib.hid (show (cmn (xs.take n) ys).length ≤ 4000000 by have := HL.out n; omega)
      rw [HT.out] at HO HLO
      go_wp2_with fail
      refine (sortI_own _ (cmn xs ys) w.heap.size _ HO.out (Nat.le_trans HLO.out (by decide))).mono ?_
      rintro e w2 ⟨rfl, o2, g2⟩
      have HB2 := Lib.hid (HB.out.grown g2 HB.out.size (fun q hq => (HO.out.lt q hq).1))
      have HO2 := Lib.hid o2
      have HLS := Lib.hid (show (srt (cmn xs ys)).length ≤ 1099511627776 by rw [srt_len]; exact Nat.le_trans HLO.out (by decide))
      clear o2 g2
      go_wp2_with fail
      refine (compactI_own _ (srt (cmn xs ys)) w.heap.size w2 HO2.out HLS.out).mono ?_
      rintro e w3 ⟨v3, rfl, -, o3, g3⟩
      have HB3 := Lib.hid (HB2.out.grown g3 HB2.out.size (fun q hq => (HO2.out.lt q hq).1))
      have HO3 := Lib.hid o3
      obtain ⟨a3, c3, n3, -, rfl, -⟩ := o3.rd.opn
      clear o3 g3
      go_wp2
      go_ret
      exact ⟨_, rfl, HO3.out, HB3.out⟩
end Go.Proofs.YtmkkdenhjfjmgaaGreat
namespace Go.Proofs.YtmkkdenhjfjmgaaGreat
open Go.RowKit Go.Sort
set_option maxRecDepth 100000
theorem below_mono2 {w2 wr wx : World} (h : Below wr.heap.size wr wx) (h2 : Below w2.heap.size w2 wr) : Below w2.heap.size w2 wx := h2.trans (h.mono h2.size)
set_option maxHeartbeats 3200000 in
theorem l4Walk_any (u1 u2 v3 : Value) (n : Net) (r : Rou) (w : World) (h : NetR w (.agg #[u1, u2]) n) (hr : Rd w v3 r.fb) (hl : r.fb.length ≤ 1100000) :
    Calls Tryz.prog 209 #[.agg #[u1, u2], .agg #[.int .i64 r.st, v3]] w (VisP (rouN n r) w) := by
  obtain ⟨x1, x2, e, r1, r2, hsm⟩ := h
  simp only [Value.agg.injEq, Array.mk.injEq, List.cons.injEq, and_true] at e
  obtain ⟨rfl, rfl⟩ := e
  obtain ⟨a1, m1, c1, rfl, HN1, hc1, hm1, -⟩ := flt_opn (m := 1) (enc := strE) (fun _ => rfl) (by omega) nilS r1
  obtain ⟨a2, m2, c2, rfl, HN2, hc2, hm2, ha2⟩ := flt_opn (m := 4) (enc := fibE) (fun _ => rfl) (by omega) nilB r2
  obtain ⟨a3, c3, m3, HN3, rfl, hc3, hm3, ha3⟩ := hr.opn
  have HO1 := Lib.hid (@rouN_no1 n r)
  have HO2 := Lib.hid (@rouN_no2 n r)
  have HO3 := Lib.hid (@rouN_go n r)
  rw [HN1.out] at HO1 HO3
  rw [HN3.out] at HO2 HO3
  have HR2 := Lib.hid r2
  have HX := Lib.hid (fun w' a m c (hb : Below w.heap.size w w') (e : rouN n r = none) => @VisP.no (rouN n r) w w' a m c e hb)
  have HY := Lib.hid (fun w' a m c xs (hb : Below w.heap.size w w') (ho : Own w' w.heap.size (.slice a m c) xs) (e : rouN n r = some xs) => @VisP.yes (rouN n r) w w' a m c xs e ho hb)
  have h10 : m3 ≤ 1100000 := by have := HN3.out; omega
  have HA2 := Lib.hid ha2
  have HA3 := Lib.hid ha3
  obtain ⟨bx, bc, blt, -⟩ := box_facts w #[.slice a1 m1 c1, .slice a2 m2 c2] 35
  obtain ⟨by', bd, bmt, -⟩ := box_facts (w.alloc (.cells #[.slice a1 m1 c1, .slice a2 m2 c2] 35)) #[.int .i64 r.st, .slice a3 m3 c3] 90
  have q0 := (by'.cell (p := ⟨w.heap.size, 0, none⟩) blt).trans (bc 0 _ rfl)
  have q1 := (by'.cell (p := ⟨w.heap.size, 1, none⟩) blt).trans (bc 1 _ rfl)
  have q2 := bd 0 _ rfl
  have q3 := bd 1 _ rfl
  have hs1 : (w.alloc (.cells #[.slice a1 m1 c1, .slice a2 m2 c2] 35)).heap.size = w.heap.size + 1 := by simp
  rw [hs1] at q2 q3 bmt
  have HBX := Lib.hid (bx.trans (by'.mono bx.size))
  have blt2 := Nat.lt_of_lt_of_le blt by'.size
  clear bc bd bx by' hs1 ha2 ha3 r1 r2 blt hr
  go_enter Tryz.func209, Tryz.ntmps209
  have hs2 : ((w.alloc (.cells #[.slice a1 m1 c1, .slice a2 m2 c2] 35)).alloc (.cells #[.int .i64 r.st, .slice a3 m3 c3] 90)).heap.size = w.heap.size + 1 + 1 := by simp
  have HO0 := Lib.hid (show Own (((w.alloc (.cells #[.slice a1 m1 c1, .slice a2 m2 c2] 35)).alloc (.cells #[.int .i64 r.st, .slice a3 m3 c3] 90)).alloc (.cells #[.int .i64 r.st] 3)) ((w.alloc (.cells #[.slice a1 m1 c1, .slice a2 m2 c2] 35)).alloc (.cells #[.int .i64 r.st, .slice a3 m3 c3] 90)).heap.size (.slice (some ⟨w.heap.size + 1 + 1, 0, none⟩) 1 1) [r.st] by rw [← hs2]; exact own_one _ r.st 3)
  have HB0 := Lib.hid ((Below.refl ((w.alloc (.cells #[.slice a1 m1 c1, .slice a2 m2 c2] 35)).alloc (.cells #[.int .i64 r.st, .slice a3 m3 c3] 90)).heap.size ((w.alloc (.cells #[.slice a1 m1 c1, .slice a2 m2 c2] 35)).alloc (.cells #[.int .i64 r.st, .slice a3 m3 c3] 90))).alloc (Nat.le_refl _) (.cells #[.int .i64 r.st] 3))
  clear hs2
  have t0 := (HB0.out.cell blt2).trans q0
  have t1 := (HB0.out.cell blt2).trans q1
  have t2 := (HB0.out.cell bmt).trans q2
  have t3 := (HB0.out.cell bmt).trans q3
  cases hin : inB r.st 0 ((m1 : Int) - 1)
  · have HE := Lib.hid (HO1.out hin)
    go_wp2_with (go_at_call 86; refine (l1In_any _ _ _ _).mono ?_; rintro e w' ⟨rfl, rfl⟩; rw [hin])
    go_ret2
    exact HX.out _ _ _ _ (HBX.out.trans (HB0.out.mono HBX.out.size)) HE.out
  by_cases h0 : m3 = 0
  · have HE := Lib.hid (HO2.out h0)
    have b1 : ((m3 : Int) == 0) = true := by rw [beq_iff_eq]; omega
    have b2 : decide ((m3 : Int) = 0) = true := decide_eq_true (by omega)
    clear h0
    go_wp2_with (go_at_call 86; refine (l1In_any _ _ _ _).mono ?_; rintro e w' ⟨rfl, rfl⟩; rw [hin])
    go_ret2
    exact HX.out _ _ _ _ (HBX.out.trans (HB0.out.mono HBX.out.size)) HE.out
  have HE := Lib.hid (HO3.out hin h0)
  have b1 : ((m3 : Int) == 0) = false := by rw [beq_eq_false_iff_ne]; omega
  have b2 : decide ((m3 : Int) = 0) = false := decide_eq_false (by omega)
  clear h0
  go_wp2_with (go_at_call 86; refine (l1In_any _ _ _ _).mono ?_; rintro e w' ⟨rfl, rfl⟩; rw [hin])
  generalize (w.alloc (.cells #[.slice a1 m1 c1, .slice a2 m2 c2] 35)).alloc (.cells #[.int .i64 r.st, .slice a3 m3 c3] 90) = w2 at *
  generalize w2.alloc (.cells #[.int .i64 r.st] 3) = w3 at *
  have blt3 := Nat.lt_of_lt_of_le blt2 HB0.out.size
  have bmt3 := Nat.lt_of_lt_of_le bmt HB0.out.size
  clear b1 b2 hin t0 t1 t2 t3
  go_loopw [6, 7, 8] (fun s6 i _ wr => ∃ (k : Nat) (out : List Int) (t : Int), k ≤ m3 ∧ i = .int .i64 k ∧ Hid (out[k]?.getD 0 = t) ∧ Hid (Own wr w2.heap.size s6 out) ∧ Hid (out.length = k + 1) ∧ Hid (wlk n [r.st] r.st r.fb = wlk n out t (r.fb.drop k)) ∧ Hid (Below w2.heap.size w2 wr)) (fun _ i _ _ => m3 - (intOf i).toNat)
  case atStart => exact ⟨0, [r.st], r.st, Nat.zero_le _, rfl, rfl, HO0.out, rfl, rfl, HB0.out⟩
  case round =>
    obtain ⟨k, out, t, hk, rfl, HLT, HOW, HLN, HW, HB⟩ := hrel
    obtain ⟨aR, cR, nR, HNR, rfl, hcR, hnR, hcl⟩ := HOW.out.rd.opn
    by_cases hlt : k < m3
    · have hltI : (k : Int) < (m3 : Int) := by omega
      have HST := Lib.hid (wlk_step (n := n) (out := out) (t := t) (xs := r.fb) (k := k) (by rw [HN3.out]; exact hlt))
      rw [HN2.out] at HST
      obtain ⟨b, off, rfl, hbs, hcs⟩ := HA3.out (by omega)
      have p0 := (HB.out.cell (p := ⟨w.heap.size, 0, none⟩) blt2).trans q0
      have p1 := (HB.out.cell (p := ⟨w.heap.size, 1, none⟩) blt2).trans q1
      have p2 := (HB.out.cell (p := ⟨w.heap.size + 1, 0, none⟩) bmt).trans q2
      have p3 := (HB.out.cell (p := ⟨w.heap.size + 1, 1, none⟩) bmt).trans q3
      have c0 := (HB.out.cell (p := ⟨b, off + k, none⟩) (Nat.lt_of_lt_of_le hbs HBX.out.size)).trans ((HBX.out.cell (p := ⟨b, off + k, none⟩) hbs).trans (hcs k hlt))
      have hnk : nR = k + 1 := by have := HNR.out; have := HLN.out; omega
      have hkR : k < nR := by omega
      have hkRI : (k : Int) < (nR : Int) := by omega
      have f1w : IntKind.i64.wrap ((nR : Int) - 1) = (k : Int) := by rw [IntWalk.i64_in _ (by omega)]; omega
      obtain ⟨bo, oo, rfl, hbo, hco⟩ := hcl (by omega)
      have k0 := hco k hkR
      rw [HLT.out] at k0
      have f2w : IntKind.i64.wrap ((m2 : Int) - 1) = (m2 : Int) - 1 := IntWalk.i64_in _ (by omega)
      clear hnk hco
      clear hcs
      generalize r.fb[k]?.getD 0 = x at *
      cases hix : inB x 0 ((m2 : Int) - 1)
      · rw [hix] at HST
        have HF := Lib.hid (HE.out.trans (HW.out.trans HST.out))
        have HIN := Lib.hid (fun w => l1In_any x 0 ((m2 : Int) - 1) w)
        rw [hix] at HIN
        clear hix
        go_wp2
        have j1 := rg p1
        have j3 := rg p3
        have jc := rg c0
        clear p0 p1 p2 p3 c0 k0
        refine wp_region_quiet_below (by kernel_rfl) (by kernel_rfl) ?_
        repeat (go_big_quiet_step (first | (go_at_call 86; exact rg_same (HIN.out _))))
        refine wpQuiet_nil ?_
        rintro _ ⟨⟨dq, osq⟩, rfl⟩
        have bq := below_regrown wr dq osq
        generalize grow (redrawn wr dq) osq = w4 at *
        go_wp2
        go_ret2
        exact HX.out _ _ _ _ ((HBX.out.trans (HB.out.mono HBX.out.size)).trans (bq.mono (Nat.le_trans HBX.out.size HB.out.size))) HF.out
      rw [hix] at HST
      obtain ⟨hx0, hx9⟩ := inB_true hix
      obtain ⟨j, rfl⟩ : ∃ j : Nat, x = (j : Int) := ⟨x.toNat, by omega⟩
      have hj : j < m2 := by omega
      have hjI : (j : Int) < (m2 : Int) := by omega
      have HOE := Lib.hid (fun wx (hb : Below wr.heap.size wr wx) => l2Other_any (.slice a1 m1 c1) (.slice a2 m2 c2) n j t wx ((HR2.out.behind HBX.out).behind (below_mono2 hb HB.out)) ⟨_, _, _, rfl⟩ (by rw [HN2.out]; exact hj))
      have HIN := Lib.hid (fun w => l1In_any (j : Int) 0 ((m2 : Int) - 1) w)
      rw [hix] at HIN
      unfold fbA at HOE
      have HST2 := Lib.hid (show wlk n out t (r.fb.drop k) = (if othE (n.fs[j]?.getD nilB) t < 0 ∨ othE (n.fs[j]?.getD nilB) t ∈ out then none else wlk n (out ++ [othE (n.fs[j]?.getD nilB) t]) (othE (n.fs[j]?.getD nilB) t) (r.fb.drop (k + 1))) from HST.out)
      clear HST hx0 hx9 hix
      generalize n.fs[j]?.getD nilB = f at *
      generalize othE f t = o at *
      go_wp2
      have j1 := rg p1
      have j3 := rg p3
      have jc := rg c0
      refine wp_region_quiet_below (by kernel_rfl) (by kernel_rfl) ?_
      repeat (go_big_quiet_step (first | (go_at_call 86; exact rg_same (HIN.out _))))
      refine wpQuiet_nil ?_
      rintro _ ⟨⟨dq, osq⟩, rfl⟩
      have bq := below_regrown wr dq osq
      have p0 := (bq.cell (World.block_lt_of_cell? _ _ p0)).trans p0
      have p1 := j1 dq osq
      have p3 := j3 dq osq
      have c0 := jc dq osq
      have k0 := (bq.cell (World.block_lt_of_cell? _ _ k0)).trans k0
      clear j1 j3 jc
      have HBQ := Lib.hid bq
      generalize grow (redrawn wr dq) osq = wq at *
      go_wp2
      have j0 := rg p0
      have j1 := rg p1
      have j3 := rg p3
      have jc := rg c0
      have jk := rg k0
      have HOQ := Lib.hid (fun d os => HOE.out (grow (redrawn wq d) os) (HBQ.out.trans ((below_regrown wq d os).mono HBQ.out.size)))
      clear p0 p1 p3 c0 k0 bq
      refine wp_region_quiet_below (by kernel_rfl) (by kernel_rfl) ?_
      repeat (go_big_quiet_step (first | (go_at_call 194; exact Calls.regrown_of (HOQ.out _ _))))
      refine wpQuiet_nil ?_
      rintro _ ⟨⟨dq2, osq2⟩, rfl⟩
      have b4 := HBQ.out.trans ((below_regrown wq dq2 osq2).mono HBQ.out.size)
      generalize grow (redrawn wq dq2) osq2 = w4 at *
      clear j0 j1 j3 jc jk
      have HB4 := Lib.hid (HB.out.trans (b4.mono HB.out.size))
      have HOW4 := Lib.hid (HOW.out.belowAll b4)
      have HC4 := Lib.hid (l1Has_any _ out o w4 HOW4.out.rd)
      clear b4 HOE
      by_cases ho : o < 0
      · have HF := Lib.hid (HE.out.trans (HW.out.trans (HST2.out.trans (if_pos (.inl ho)))))
        have hd : decide (o < 0) = true := decide_eq_true ho
        clear ho
        go_wp2
        go_ret2
        exact HX.out _ _ _ _ (HBX.out.trans (HB4.out.mono HBX.out.size)) HF.out
      have hd : decide (o < 0) = false := decide_eq_false ho
      cases hcn : out.contains o
      case true =>
        have HF := Lib.hid (HE.out.trans (HW.out.trans (HST2.out.trans (if_pos (.inr (List.contains_iff_mem.1 hcn))))))
        rw [hcn] at HC4
        clear ho
        go_wp2_with (go_at_call 97; refine (HC4.out).mono ?_; rintro e w' ⟨rfl, rfl⟩)
        go_ret2
        exact HX.out _ _ _ _ (HBX.out.trans (HB4.out.mono HBX.out.size)) HF.out
      have HF := Lib.hid (HW.out.trans (HST2.out.trans (if_neg (fun h => h.elim ho (fun h => by rw [List.contains_iff_mem.2 h] at hcn; cases hcn)))))
      rw [hcn] at HC4
      clear ho hcn
      have HLO := Lib.hid (show out.length ≤ 4000000 by have := HLN.out; omega)
      go_wp2_with (first
        | (go_at_call 97; refine (HC4.out).mono ?_; rintro e w' ⟨rfl, rfl⟩)
        | (at_builtin; go_loud (refine wpList_pushI rfl (.tmp 67) (.tmp 69) 29 rfl Tryz.underlying29 Tryz.infoI w2.heap.size (.slice (some ⟨bo, oo, none⟩) nR cR) out rfl HOW4.out rfl HLO.out HB4.out.size ?_); intro v5 w5 o5 g5 l5; have HO5 := Lib.hid o5; have HB5 := Lib.hid (HB4.out.grown g5 HB4.out.size (fun q hq => (HOW4.out.lt q hq).1)); clear o5 g5 l5))
      go_roundw
      case rel => exact ⟨k + 1, out ++ [o], o, hlt, by go_num, by show (out ++ [o])[k + 1]?.getD 0 = o; rw [List.getElem?_append_right (Nat.le_of_eq HLN.out), HLN.out]; simp, HO5.out, by show (out ++ [o]).length = k + 1 + 1; rw [List.length_append, HLN.out]; rfl, HF.out, HB5.out⟩
      case measure => simp [intOf]; omega
    · obtain rfl : m3 = k := by omega
      have HF := Lib.hid (show rouN n r = some out by rw [HE.out, HW.out, List.drop_of_length_le (Nat.le_of_eq HN3.out)]; rfl)
      have p3 := (HB.out.cell (p := ⟨w.heap.size + 1, 1, none⟩) bmt).trans q3
      go_wp2
      go_ret2
      exact HY.out _ _ _ _ _ (HBX.out.trans (HB.out.mono HBX.out.size)) (HOW.out.mono HBX.out.size) HF.out
end Go.Proofs.YtmkkdenhjfjmgaaGreat
