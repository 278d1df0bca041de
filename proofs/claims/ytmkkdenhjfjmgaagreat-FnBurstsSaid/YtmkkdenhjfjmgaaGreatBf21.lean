/- Draws: plans that may be invalid, what is kept. -/
import Derived.Test.YtmkkdenhjfjmgaaGreatBf19
import Derived.Test.YtmkkdenhjfjmgaaGreatBf20
namespace Go.Proofs.YtmkkdenhjfjmgaaGreat
open Go.RowKit Go.Sort
set_option maxRecDepth 100000

theorem ltc_set (ps : List (Lgt × Value)) (i : Nat) (x : Lgt) (v : Value) (hi : i < ps.length) : ltc (ps.set i (x, v)) = (((((ltc ps).set (i * 5) (.int .i64 x.id)).set (i * 5 + 1) (.int .i64 x.st)).set (i * 5 + 2) v).set (i * 5 + 3) (.int .i64 x.fi)).set (i * 5 + 4) (.int .i64 x.ct) := by
  refine List.ext_getElem? fun j => ?_
  by_cases hj : j < ps.length * 5
  · obtain ⟨q, r, hr, rfl⟩ : ∃ q r, r < 5 ∧ j = q * 5 + r := ⟨j / 5, j % 5, by omega, by omega⟩
    have hl := ltc_len ps
    rw [ltc_at _ q r hr]
    simp only [List.getElem?_set, List.length_set, hl]
    have hq : q < ps.length := by omega
    by_cases e : i = q
    · subst e
      match r, hr with
      | 0, _ => simp [hi] <;> omega
      | 1, _ => simp [hi] <;> omega
      | 2, _ => simp [hi] <;> omega
      | 3, _ => simp [hi] <;> omega
      | 4, _ => simp [hi] <;> omega
    · rw [if_neg e, if_neg (by omega), if_neg (by omega), if_neg (by omega), if_neg (by omega), if_neg (by omega), ltc_at _ q r hr]
  · have h1 : (ltc (ps.set i (x, v))).length = ps.length * 5 := by rw [ltc_len, List.length_set]
    rw [List.getElem?_eq_none (by omega), List.getElem?_eq_none (by simp only [List.length_set, ltc_len]; omega)]
section
variable {w w1 wr w' : World} {B K K' bP bX : Nat} {c u1 u2 u3 v : Value} {n : Net} {ps : List (Lgt × Value)} {x : Lgt}
/-- One light more in the plan's variable. -/
theorem PvB.app {v3 : Value} (h : PvB w1 wr B c K bP u1 u2 u3 n ps) (hv : OwR wr w1.heap.size v x.fb) (ha : Apt v u3) (hxl : x.fb.length ≤ 1000) (hn : v.ownBlock ≠ some bP) (hl : ps.length ≤ 29)
    (hr : w'.ownsRow w1.heap.size 94 5 v3 (ps.length + 1) (ltc ps ++ ltc [(x, v)])) (hg : wr.grownBy w' u3.ownBlock) (hl3 : v3.ownBlock = u3.ownBlock ∨ v3.ownBlock = some wr.heap.size) :
    PvB w1 (w'.setCell ⟨bP, 2, none⟩ v3) B c K bP u1 u2 v3 n (ps ++ [(x, v)]) := by
  have hlt := h.lt
  have hkb := h.hb
  have hnn : ∀ b, b < wr.heap.size → u3.ownBlock ≠ some b → v3.ownBlock ≠ some b := fun b hb hn e => by
    rcases hl3 with hl | hl
    · exact hn (hl.symm.trans e)
    · rw [hl] at e
      have := Option.some.inj e
      omega
  have h3P : u3.ownBlock ≠ some bP := fun e => h.ne (.inr (.inr (.inl e)))
  have ho : ∀ g, g < wr.heap.size → u3.ownBlock ≠ some g → g ≠ bP → (w'.setCell ⟨bP, 2, none⟩ v3).heap[g]? = wr.heap[g]? := fun g h1 h2 h3 => by
    rw [heap_setCell_other w' ⟨bP, 2, none⟩ g v3 h3]
    exact hg.block g h1 fun e => h2 e.symm
  have hbx := (hg.block bP hlt fun e => h3P e.symm).trans h.box
  have hv3 := hnn bP hlt h3P
  have hel : ∀ p ∈ ps ++ [(x, v)], OwR (w'.setCell ⟨bP, 2, none⟩ v3) w1.heap.size p.2 p.1.fb ∧ p.1.fb.length ≤ 1000 ∧ Apt p.2 v3 := fun p hp => by
    rcases List.mem_append.1 hp with hp | hp
    · obtain ⟨e1, e2, e3⟩ := h.d.l.els p hp
      exact ⟨e1.kept fun g hg' => ho g (e1.lt g hg').2 (e3 g hg') (fun e => h.ne (e ▸ .inr (.inr (.inr ⟨p, hp, hg'⟩)))), e2, fun q hq => hnn q (e1.lt q hq).2 (e3 q hq)⟩
    · rw [List.mem_singleton.1 hp]
      exact ⟨hv.kept fun g hg' => ho g (hv.lt g hg').2 (ha g hg') (fun e => hn (e ▸ hg')), hxl, fun q hq => hnn q (hv.lt q hq).2 (ha q hq)⟩
  refine ⟨(h.cs.grown hg fun g e => (h.d.l.row.lt g e).1).set hkb v3, heap_setCell_same w' bP 2 _ _ v3 hbx, ⟨h.d.n.kept fun g _ hg' => ?_, ⟨?_, hel⟩, ⟨?_, ?_⟩, ?_⟩, hkb, ?_⟩
  · exact ho g (h.d.n.lt g hg').2 (fun e => hg'.elim (fun e' => h.d.ap.1 g e' e) (fun e' => h.d.ap.2 g e' e)) (fun e => h.ne (e ▸ hg'.elim .inl fun e' => .inr (.inl e')))
  · rw [List.length_append, ltc_app]
    exact row_kept0 hr fun g hg' => heap_setCell_other w' ⟨bP, 2, none⟩ g v3 fun e => hv3 (by rw [hg']; exact congrArg some e)
  · exact fun q hq => hnn q (h.d.n.lt q (.inl hq)).2 (h.d.ap.1 q hq)
  · exact fun q hq => hnn q (h.d.n.lt q (.inr hq)).2 (h.d.ap.2 q hq)
  · rw [List.length_append, List.length_singleton]; omega
  · rintro (e | e | e | ⟨p, hp, e⟩)
    · exact h.ne (.inl e)
    · exact h.ne (.inr (.inl e))
    · exact hv3 e
    · rcases List.mem_append.1 hp with hp | hp
      · exact h.ne (.inr (.inr (.inr ⟨p, hp, e⟩)))
      · rw [List.mem_singleton.1 hp] at e
        exact hn e
/-- Another network, of new rows, is stored. -/
theorem PvB.net {v1 v2 : Value} {n' : Net} (h : PvB w1 wr B c K bP u1 u2 u3 n ps) (hc : CS wr B c K' w') (hd : NtD w' wr.heap.size v1 v2 n') :
    PvB w1 ((w'.setCell ⟨bP, 0, none⟩ v1).setCell ⟨bP, 1, none⟩ v2) B c K' bP v1 v2 u3 n' ps := by
  have hlt := h.lt
  have hkb := h.hb
  have h3 := h.call hc
  have hs := h.cs.size
  have h1P : v1.ownBlock ≠ some bP := fun e => by have := (hd.lt _ (.inl e)).1; omega
  have h2P : v2.ownBlock ≠ some bP := fun e => by have := (hd.lt _ (.inr e)).1; omega
  have ho : ∀ g, g ≠ bP → ((w'.setCell ⟨bP, 0, none⟩ v1).setCell ⟨bP, 1, none⟩ v2).heap[g]? = w'.heap[g]? := fun g hg => by
    rw [heap_setCell_other _ ⟨bP, 1, none⟩ g _ hg, heap_setCell_other _ ⟨bP, 0, none⟩ g _ hg]
  refine ⟨(h3.cs.set hkb _).set hkb _, heap_setCell_same _ bP 1 _ _ v2 (heap_setCell_same _ bP 0 _ _ v1 h3.box), ⟨(hd.kept fun g _ hg => ho g fun e => ?_).base hs, ⟨row_kept0 h3.d.l.row fun g hg => ho g fun e => ?_, fun p hp => ⟨(h3.d.l.els p hp).1.kept fun g hg => ho g fun e => ?_, (h3.d.l.els p hp).2⟩⟩, ⟨fun q hq e => ?_, fun q hq e => ?_⟩, h.d.len⟩, hkb, ?_⟩
  · subst e; exact hg.elim h1P h2P
  · subst e; exact h.ne (.inr (.inr (.inl hg)))
  · subst e; exact h.ne (.inr (.inr (.inr ⟨p, hp, hg⟩)))
  · have := (hd.lt _ (.inl hq)).1; have := (h.d.l.row.lt q e).2; omega
  · have := (hd.lt _ (.inr hq)).1; have := (h.d.l.row.lt q e).2; omega
  · rintro (e | e | e | e)
    · exact h1P e
    · exact h2P e
    · exact h.ne (.inr (.inr (.inl e)))
    · exact h.ne (.inr (.inr (.inr e)))
/-- A light is stored into the row. -/
theorem PvB.setL {g3 m3 c3 i : Nat} (h : PvB w1 wr B c K bP u1 u2 u3 n ps) (hu : u3 = .slice (some ⟨g3, 0, none⟩) m3 c3) (hm : ps.length = m3) (hi : i < m3) (hv : OwR wr w1.heap.size v x.fb) (ha : Apt v u3) (hxl : x.fb.length ≤ 1000) (hn : v.ownBlock ≠ some bP) :
    PvB w1 (((((wr.setCell ⟨g3, i * 5, none⟩ (.int .i64 x.id)).setCell ⟨g3, i * 5 + 1, none⟩ (.int .i64 x.st)).setCell ⟨g3, i * 5 + 2, none⟩ v).setCell ⟨g3, i * 5 + 3, none⟩ (.int .i64 x.fi)).setCell ⟨g3, i * 5 + 4, none⟩ (.int .i64 x.ct)) B c K bP u1 u2 u3 n (ps.set i (x, v)) := by
  subst hm
  subst hu
  have hkb := h.hb
  have hg3 := h.d.l.row.lt g3 rfl
  have ho : ∀ b, b ≠ g3 → (((((wr.setCell ⟨g3, i * 5, none⟩ (.int .i64 x.id)).setCell ⟨g3, i * 5 + 1, none⟩ (.int .i64 x.st)).setCell ⟨g3, i * 5 + 2, none⟩ v).setCell ⟨g3, i * 5 + 3, none⟩ (.int .i64 x.fi)).setCell ⟨g3, i * 5 + 4, none⟩ (.int .i64 x.ct)).heap[b]? = wr.heap[b]? := fun b hb => by
    rw [heap_setCell_other _ ⟨g3, i * 5 + 4, none⟩ b _ hb, heap_setCell_other _ ⟨g3, i * 5 + 3, none⟩ b _ hb, heap_setCell_other _ ⟨g3, i * 5 + 2, none⟩ b _ hb, heap_setCell_other _ ⟨g3, i * 5 + 1, none⟩ b _ hb, heap_setCell_other _ ⟨g3, i * 5, none⟩ b _ hb]
  have hP3 : bP ≠ g3 := fun e => h.ne (.inr (.inr (.inl (congrArg some e.symm))))
  have hel : ∀ p ∈ ps.set i (x, v), OwR (((((wr.setCell ⟨g3, i * 5, none⟩ (.int .i64 x.id)).setCell ⟨g3, i * 5 + 1, none⟩ (.int .i64 x.st)).setCell ⟨g3, i * 5 + 2, none⟩ v).setCell ⟨g3, i * 5 + 3, none⟩ (.int .i64 x.fi)).setCell ⟨g3, i * 5 + 4, none⟩ (.int .i64 x.ct)) w1.heap.size p.2 p.1.fb ∧ p.1.fb.length ≤ 1000 ∧ Apt p.2 (.slice (some ⟨g3, 0, none⟩) ps.length c3) := fun p hp => by
    rcases List.mem_or_eq_of_mem_set hp with hp | hp
    · obtain ⟨e1, e2, e3⟩ := h.d.l.els p hp
      exact ⟨e1.kept fun g hg' => ho g fun e => e3 g hg' (congrArg some e.symm), e2, e3⟩
    · rw [hp]
      exact ⟨hv.kept fun g hg' => ho g fun e => ha g hg' (congrArg some e.symm), hxl, ha⟩
  refine ⟨((((h.cs.set hg3.1 _).set hg3.1 _).set hg3.1 _).set hg3.1 _).set hg3.1 _, (ho bP hP3).trans h.box, ⟨h.d.n.kept fun g _ hg' => ho g fun e => ?_, ⟨?_, hel⟩, h.d.ap, by rw [List.length_set]; exact h.d.len⟩, hkb, ?_⟩
  · subst e
    exact hg'.elim (fun e' => h.d.ap.1 g e' rfl) (fun e' => h.d.ap.2 g e' rfl)
  · have := row_put (u := .int .i64 x.ct) (j := i * 5 + 4) (row_put (u := .int .i64 x.fi) (j := i * 5 + 3) (row_put (u := v) (j := i * 5 + 2) (row_put (u := .int .i64 x.st) (j := i * 5 + 1) (row_put (u := .int .i64 x.id) (j := i * 5) h.d.l.row (by omega)) (by omega)) (by omega)) (by omega)) (by omega)
    rw [List.length_set, ltc_set _ _ _ _ hi]
    exact this
  · rintro (e | e | e | ⟨p, hp, e⟩)
    · exact h.ne (.inl e)
    · exact h.ne (.inr (.inl e))
    · exact h.ne (.inr (.inr (.inl e)))
    · rcases List.mem_or_eq_of_mem_set hp with hp | hp
      · exact h.ne (.inr (.inr (.inr ⟨p, hp, e⟩)))
      · rw [hp] at e
        exact hn e
/-- What anyPlan keeps: the plan, and the light in its variable (block bX). -/
structure PvX (w w1 wr : World) (B : Nat) (c : Value) (K bP bX : Nat) (u1 u2 u3 : Value) (n : Net) (ps : List (Lgt × Value)) (x : Lgt) (v : Value) : Prop where
  pb : PvB w1 wr B c K bP u1 u2 u3 n ps
  xbox : wr.heap[bX]? = some (.cells #[.int .i64 x.id, .int .i64 x.st, v, .int .i64 x.fi, .int .i64 x.ct] 94 (0, 0))
  hb : w1.heap.size ≤ bX
  nX : bX ≠ bP ∧ ¬ PlBlk u1 u2 u3 ps bX
  xr : OwR wr w1.heap.size v x.fb
  xl : x.fb.length ≤ 1000
  xa : Apt v u3
  xn : v.ownBlock ≠ some bX ∧ v.ownBlock ≠ some bP
  out : wr.heap[w.heap.size]? = some (.cells #[.slice none 0 0, .slice none 0 0, .slice none 0 0] 38 (0, 0))
  hz : w.heap.size < w1.heap.size
theorem PvX.mono (h : PvX w w1 wr B c K bP bX u1 u2 u3 n ps x v) (hk : K ≤ K') : PvX w w1 wr B c K' bP bX u1 u2 u3 n ps x v := ⟨h.pb.mono hk, h.xbox, h.hb, h.nX, h.xr, h.xl, h.xa, h.xn, h.out, h.hz⟩
theorem PvX.call (h : PvX w w1 wr B c K bP bX u1 u2 u3 n ps x v) (hB : B < w.heap.size) (hc : CS wr B c K' w') : PvX w w1 w' B c K' bP bX u1 u2 u3 n ps x v := by
  have h1 := h.hb
  have h2 := h.hz
  exact ⟨h.pb.call hc, hc.blk h.xbox (by omega), h.hb, h.nX, h.xr.cs (by omega) hc, h.xl, h.xa, h.xn, hc.blk h.out (by omega), h.hz⟩
theorem PvX.below (h : PvX w w1 wr B c K bP bX u1 u2 u3 n ps x v) (hb : Below wr.heap.size wr w') : PvX w w1 w' B c K bP bX u1 u2 u3 n ps x v :=
  ⟨h.pb.below hb, kept_o' h.xbox hb, h.hb, h.nX, h.xr.below hb, h.xl, h.xa, h.xn, kept_o' h.out hb, h.hz⟩
theorem PvX.ltX (h : PvX w w1 wr B c K bP bX u1 u2 u3 n ps x v) : bX < wr.heap.size := (Array.getElem?_eq_some_iff.1 h.xbox).1
theorem PvX.frzX (h : PvX w w1 wr B c K bP bX u1 u2 u3 n ps x v) (j : Nat) : wr.frozen? ⟨bX, j, none⟩ = false := by simp only [World.frozen?, h.xbox]; rfl
theorem PvX.pick (h : PvX w w1 wr B c K bP bX u1 u2 u3 n ps x v) (hB : B < w.heap.size) (hk : K ≤ 4000000000000000) (N : Int) (h1 : 1 ≤ N) (h2 : N ≤ 1073741824) :
    Calls Tryz.prog 82 #[.pointer (some ⟨B, 0, none⟩), .int .i64 N] wr fun e w' => ∃ x' : Int, 0 ≤ x' ∧ x' ≤ N - 1 ∧ e = .returned (.int .i64 x') ∧ Hid (PvX w w1 w' B c (K + 2) bP bX u1 u2 u3 n ps x v) := by
  refine (pickC B c K N wr h.pb.cs.st hk h1 h2).mono ?_
  rintro e w' ⟨x', x0, x1, rfl, hc, -⟩
  exact ⟨x', x0, x1, rfl, h.call hB hc⟩
/-- The light's variable gets another content. -/
theorem PvX.xset {x' : Lgt} {v' : Value} (h : PvX w w1 wr B c K bP bX u1 u2 u3 n ps x v) (hc : CS w1 B c K w') (ho : ∀ g, g ≠ bX → w'.heap[g]? = wr.heap[g]?) (hx : w'.heap[bX]? = some (.cells #[.int .i64 x'.id, .int .i64 x'.st, v', .int .i64 x'.fi, .int .i64 x'.ct] 94 (0, 0)))
    (hr : OwR wr w1.heap.size v' x'.fb) (hl : x'.fb.length ≤ 1000) (ha : Apt v' u3) (hn : v'.ownBlock ≠ some bX ∧ v'.ownBlock ≠ some bP) : PvX w w1 w' B c K bP bX u1 u2 u3 n ps x' v' := by
  have h1 := h.hb
  have h2 := h.hz
  exact ⟨⟨hc, (ho bP (Ne.symm h.nX.1)).trans h.pb.box, h.pb.d.kept2 fun g hg => ho g fun e => h.nX.2 (e ▸ hg), h.pb.hb, h.pb.ne⟩, hx, h1, h.nX, hr.kept fun g hg => ho g fun e => hn.1 (e ▸ hg), hl, ha, hn, (ho _ (by omega)).trans h.out, h2⟩
theorem PvX.fld {x' : Lgt} (h : PvX w w1 wr B c K bP bX u1 u2 u3 n ps x v) (j : Nat) (y : Int) (he : (#[Value.int .i64 x.id, .int .i64 x.st, v, .int .i64 x.fi, .int .i64 x.ct] : Array Value).setIfInBounds j (.int .i64 y) = #[.int .i64 x'.id, .int .i64 x'.st, v, .int .i64 x'.fi, .int .i64 x'.ct]) (hf : x'.fb = x.fb) : PvX w w1 (wr.setCell ⟨bX, j, none⟩ (.int .i64 y)) B c K bP bX u1 u2 u3 n ps x' v :=
  h.xset (h.pb.cs.set h.hb _) (fun g hg => heap_setCell_other wr ⟨bX, j, none⟩ g _ hg) (by rw [← he]; exact heap_setCell_same wr bX j _ _ _ h.xbox) (by rw [hf]; exact h.xr) (by rw [hf]; exact h.xl) h.xa h.xn
/-- The light gets another route. -/
theorem PvX.rt {st : Int} {v' : Value} {xs : List Int} (h : PvX w w1 wr B c K bP bX u1 u2 u3 n ps x v) (hr : OwR wr w1.heap.size v' xs) (hl : xs.length ≤ 1000) (ha : Apt v' u3) (hn : v'.ownBlock ≠ some bX ∧ v'.ownBlock ≠ some bP) :
    PvX w w1 ((wr.setCell ⟨bX, 1, none⟩ (.int .i64 st)).setCell ⟨bX, 2, none⟩ v') B c K bP bX u1 u2 u3 n ps ⟨x.id, st, xs, x.fi, x.ct⟩ v' :=
  h.xset ((h.pb.cs.set h.hb _).set h.hb _) (fun g hg => by rw [heap_setCell_other _ ⟨bX, 2, none⟩ g _ hg, heap_setCell_other _ ⟨bX, 1, none⟩ g _ hg]) (heap_setCell_same _ bX 2 _ _ _ (heap_setCell_same wr bX 1 _ _ _ h.xbox)) hr hl ha hn
/-- A light is appended to the plan. -/
theorem PvX.appG {v3 s : Value} {y : Lgt} (h : PvX w w1 wr B c K bP bX u1 u2 u3 n ps x v) (hs : OwR wr w1.heap.size s y.fb) (hsa : Apt s u3) (hsl : y.fb.length ≤ 1000) (hsP : s.ownBlock ≠ some bP) (hsX : s.ownBlock ≠ some bX) (hl : ps.length ≤ 29)
    (hr : w'.ownsRow w1.heap.size 94 5 v3 (ps.length + 1) (ltc ps ++ ltc [(y, s)])) (hg : wr.grownBy w' u3.ownBlock) (hl3 : v3.ownBlock = u3.ownBlock ∨ v3.ownBlock = some wr.heap.size) :
    PvX w w1 (w'.setCell ⟨bP, 2, none⟩ v3) B c K bP bX u1 u2 v3 n (ps ++ [(y, s)]) x v := by
  have hb := h.hb
  have hz := h.hz
  have hpb := h.pb.hb
  have h3X : u3.ownBlock ≠ some bX := fun e => h.nX.2 (.inr (.inr (.inl e)))
  have hnn : ∀ b, b < wr.heap.size → u3.ownBlock ≠ some b → v3.ownBlock ≠ some b := fun b hb hn e => by
    rcases hl3 with hl | hl
    · exact hn (hl.symm.trans e)
    · rw [hl] at e
      have := Option.some.inj e
      omega
  have ho : ∀ g, g < wr.heap.size → u3.ownBlock ≠ some g → g ≠ bP → (w'.setCell ⟨bP, 2, none⟩ v3).heap[g]? = wr.heap[g]? := fun g h1 h2 h3 => by
    rw [heap_setCell_other w' ⟨bP, 2, none⟩ g v3 h3]
    exact hg.block g h1 fun e => h2 e.symm
  refine ⟨h.pb.app hs hsa hsl hsP hl hr hg hl3, (ho bX h.ltX h3X h.nX.1).trans h.xbox, hb, ⟨h.nX.1, ?_⟩, h.xr.kept fun g hg' => ho g (h.xr.lt g hg').2 (h.xa g hg') fun e => h.xn.2 (e ▸ hg'), h.xl, fun q hq => hnn q (h.xr.lt q hq).2 (h.xa q hq), h.xn, (ho _ (Array.getElem?_eq_some_iff.1 h.out).1 (fun e => by have := (h.pb.d.l.row.lt _ e).1; omega) (by omega)).trans h.out, hz⟩
  rintro (e | e | e | ⟨p, hp, e⟩)
  · exact h.nX.2 (.inl e)
  · exact h.nX.2 (.inr (.inl e))
  · exact hnn bX h.ltX h3X e
  · rcases List.mem_append.1 hp with hp | hp
    · exact h.nX.2 (.inr (.inr (.inr ⟨p, hp, e⟩)))
    · rw [List.mem_singleton.1 hp] at e
      exact hsX e
/-- The light is appended to the plan. -/
theorem PvX.appL {v3 : Value} (h : PvX w w1 wr B c K bP bX u1 u2 u3 n ps x v) (hl : ps.length ≤ 29)
    (hr : w'.ownsRow w1.heap.size 94 5 v3 (ps.length + 1) (ltc ps ++ ltc [(x, v)])) (hg : wr.grownBy w' u3.ownBlock) (hl3 : v3.ownBlock = u3.ownBlock ∨ v3.ownBlock = some wr.heap.size) :
    PvX w w1 (w'.setCell ⟨bP, 2, none⟩ v3) B c K bP bX u1 u2 v3 n (ps ++ [(x, v)]) x v :=
  h.appG h.xr h.xa h.xl h.xn.2 h.xn.1 hl hr hg hl3
/-- Another network. -/
theorem PvX.net {v1 v2 : Value} {n' : Net} (h : PvX w w1 wr B c K bP bX u1 u2 u3 n ps x v) (hB : B < w.heap.size) (hc : CS wr B c K' w') (hd : NtD w' wr.heap.size v1 v2 n') :
    PvX w w1 ((w'.setCell ⟨bP, 0, none⟩ v1).setCell ⟨bP, 1, none⟩ v2) B c K' bP bX v1 v2 u3 n' ps x v := by
  have hb := h.hb
  have hz := h.hz
  have hpb := h.pb.hb
  have hX := h.ltX
  have h3 := h.call hB hc
  have ho : ∀ g, g ≠ bP → ((w'.setCell ⟨bP, 0, none⟩ v1).setCell ⟨bP, 1, none⟩ v2).heap[g]? = w'.heap[g]? := fun g hg => by
    rw [heap_setCell_other _ ⟨bP, 1, none⟩ g _ hg, heap_setCell_other _ ⟨bP, 0, none⟩ g _ hg]
  refine ⟨h.pb.net hc hd, (ho bX h.nX.1).trans h3.xbox, hb, ⟨h.nX.1, ?_⟩, h3.xr.kept fun g hg' => ho g fun e => h.xn.2 (e ▸ hg'), h.xl, h.xa, h.xn, (ho _ (by omega)).trans h3.out, hz⟩
  rintro (e | e | e | e)
  · have := (hd.lt _ (.inl e)).1; omega
  · have := (hd.lt _ (.inr e)).1; omega
  · exact h.nX.2 (.inr (.inr (.inl e)))
  · exact h.nX.2 (.inr (.inr (.inr e)))
theorem PvX.begin (h : PvB w1 wr B c K bP u1 u2 u3 n ps) (hv : OwR wr w1.heap.size v x.fb) (ha : Apt v u3) (hxl : x.fb.length ≤ 1000) (hn : v.ownBlock ≠ some bP) (ho : wr.heap[w.heap.size]? = some (.cells #[.slice none 0 0, .slice none 0 0, .slice none 0 0] 38 (0, 0))) (hz : w.heap.size < w1.heap.size) :
    PvX w w1 (wr.alloc (.cells #[.int .i64 x.id, .int .i64 x.st, v, .int .i64 x.fi, .int .i64 x.ct] 94)) B c K bP wr.heap.size u1 u2 u3 n ps x v := by
  have hP := h.lt
  have hb := (Below.refl wr.heap.size wr).alloc (Nat.le_refl _) (.cells #[.int .i64 x.id, .int .i64 x.st, v, .int .i64 x.fi, .int .i64 x.ct] 94)
  exact ⟨h.below hb, heap_alloc_new _ _, h.cs.size, ⟨by omega, fun e => by have := (h.d.lt e).2; omega⟩, hv.below hb, hxl, ha, ⟨fun e => by have := (hv.lt _ e).2; omega, hn⟩, kept_o' ho hb, hz⟩
theorem PvB.frz3 {g m3 c3 : Nat} (h : PvB w1 wr B c K bP u1 u2 u3 n ps) (hu : u3 = .slice (some ⟨g, 0, none⟩) m3 c3) (j : Nat) : wr.frozen? ⟨g, j, none⟩ = false := by
  rcases h.d.l.row.2 with ⟨e, _⟩ | ⟨g', cap, cur, e, h1, h2, h3⟩
  · rw [e] at hu; cases hu
  · rw [e] at hu
    cases hu
    simp only [World.frozen?, h2]; rfl
theorem PvB.cel3 {g m3 c3 : Nat} (h : PvB w1 wr B c K bP u1 u2 u3 n ps) (hu : u3 = .slice (some ⟨g, 0, none⟩) m3 c3) (hm : ps.length = m3) (i : Nat) (hi : i < m3) (r : Nat) (hr : r < 5) : ∃ u, wr.cell? ⟨g, i * 5 + r, none⟩ = some u := by
  have hl : i * 5 + r < (ltc ps).length := by rw [ltc_len]; omega
  subst hu
  have := World.ownsRow.cells h.d.l.row (g := g) rfl (i * 5 + r) _ (List.getElem?_eq_getElem hl)
  rw [addr_add, Nat.zero_add] at this
  exact ⟨_, this⟩
end
end Go.Proofs.YtmkkdenhjfjmgaaGreat
