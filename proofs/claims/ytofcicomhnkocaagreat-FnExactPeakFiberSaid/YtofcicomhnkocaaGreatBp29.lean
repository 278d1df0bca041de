/- Walks: the blocked demands, both. -/
import Derived.Test.YtofcicomhnkocaaGreatBp28
set_option linter.unusedVariables false
namespace Go.Proofs.YtofcicomhnkocaaGreat
open Go.RowKit Go.Sort
set_option maxRecDepth 100000

def planK (n : Net) (fs : List Fmt) (gs : List Gro) : Bool := (planO n fs gs).isSome
def planB (n : Net) (fs : List Fmt) (gs : List Gro) : List Int := match planO n fs gs with
  | none => []
  | some (_, r) => ust r.bl
theorem planO_some {n : Net} {fs : List Fmt} {gs : List Gro} {ps : List (List Lgt)} {r : PRun} (h : planO n fs gs = some (ps, r)) : fmOk fs = true ∧ netOk n = true ∧ GrsP n gs ∧ runP n fs gs 8 = some (ps, r) := by
  unfold planO at h
  split at h
  · rename_i hc
    rw [Bool.and_eq_true] at hc
    obtain ⟨h1, h2⟩ := grsOk_parts hc.2
    exact ⟨hc.1, h1, h2, h⟩
  · cases h
theorem planB_of {n : Net} {fs : List Fmt} {gs : List Gro} {ps : List (List Lgt)} {r : PRun} (h : planO n fs gs = some (ps, r)) : planB n fs gs = ust r.bl ∧ srt r.bl = ust r.bl ∧ planK n fs gs = true := by
  obtain ⟨-, -, h3, h4⟩ := planO_some h
  refine ⟨by unfold planB; rw [h], srt_ust (runP_nd h3 h4), by unfold planK; rw [h]; rfl⟩
theorem planB_len (n : Net) (fs : List Fmt) (gs : List Gro) : (planB n fs gs).length ≤ 96 := by
  cases h : planO n fs gs with
  | none => unfold planB; rw [h]; simp
  | some x =>
    obtain ⟨ps, r⟩ := x
    obtain ⟨-, -, h3, h4⟩ := planO_some h
    rw [(planB_of h).1]
    have h5 := ust_len r.bl
    have h6 := runP_bll h4
    have h7 := h3.1
    omega
def PlsR (n : Net) (fs : List Fmt) (gs : List Gro) (base : Nat) (w' : World) (s b : Value) : Prop := ∀ ps r, planO n fs gs = some (ps, r) →
  GrwX w' base 75 3 s 8 ((ps.map (Pln.mk n)).flatMap plnD) (fun k => b.ownBlock = some k) ∧ Own w' base b (planB n fs gs) ∧ ∀ g, s.ownBlock = some g → b.ownBlock ≠ some g
def PldN (n : Net) (fs : List Fmt) (gs : List Gro) (w : World) (e : Ending) (w' : World) : Prop := Below w.heap.size w w' ∧ ∃ aw ms cs a m c, e = .returned (.tuple #[.slice aw ms cs, .slice a m c, .bool (planK n fs gs)]) ∧ PlsR n fs gs w.heap.size w' (.slice aw ms cs) (.slice a m c) ∧ (planK n fs gs = false → (.slice a m c : Value) = .slice none 0 0)
def PleN (n : Net) (fs : List Fmt) (gs : List Gro) (w : World) (e : Ending) (w' : World) : Prop := Below w.heap.size w w' ∧ ∃ aw ms cs a m c, e = .returned (.tuple #[.agg #[.slice aw ms cs, .slice a m c], .bool (planK n fs gs)]) ∧ PlsR n fs gs w.heap.size w' (.slice aw ms cs) (.slice a m c)
theorem planned_n (v vf vg : Value) (n : Net) (fs : List Fmt) (gs : List Gro) (w : World) (h : NetR w v n) (hf : Rdt w (flt 2 fmE fs) vf) (hg : Rdt w (flt 6 groE gs) vg) :
    Calls Tryz.prog 64 #[v, vf, vg] w (PldN n fs gs w) := by
  refine (planned_any v vf vg n fs gs w h hf hg).mono ?_
  intro e w' hp
  obtain ⟨hb, hp⟩ := hp
  refine ⟨hb, ?_⟩
  cases hO : planO n fs gs with
  | none =>
    rw [hO] at hp
    exact ⟨_, _, _, _, _, _, by rw [show planK n fs gs = false by unfold planK; rw [hO]; rfl]; exact hp, (fun ps r e => by rw [hO] at e; cases e), fun _ => rfl⟩
  | some x =>
    obtain ⟨ps, r⟩ := x
    rw [hO] at hp
    obtain ⟨s, b, he, h1, h2, h3⟩ := hp
    obtain ⟨k1, k2, k3⟩ := planB_of hO
    obtain ⟨-, a1, c1, rfl⟩ := h1.grw.form
    obtain ⟨a2, m2, c2, rfl⟩ := own_slice h2
    refine ⟨_, _, _, _, _, _, by rw [k3]; exact he, (fun ps' r' e => ?_), fun e => by rw [k3] at e; cases e⟩
    rw [hO] at e
    cases e
    exact ⟨h1, by rw [k1, ← k2]; exact h2, h3⟩
theorem l26Plan_n (v vf vg : Value) (n : Net) (fs : List Fmt) (gs : List Gro) (w : World) (h : NetR w v n) (hf : Rdt w (flt 2 fmE fs) vf) (hg : Rdt w (flt 6 groE gs) vg) :
    Calls Tryz.prog 58 #[v, vf, vg] w (PleN n fs gs w) := by
  refine (l26Plan_any v vf vg n fs gs w h hf hg).mono ?_
  intro e w' hp
  obtain ⟨hb, hp⟩ := hp
  refine ⟨hb, ?_⟩
  cases hO : planO n fs gs with
  | none =>
    rw [hO] at hp
    obtain ⟨a1, m1, c1, a2, m2, c2, he⟩ := hp
    exact ⟨_, _, _, _, _, _, by rw [show planK n fs gs = false by unfold planK; rw [hO]; rfl]; exact he, (fun ps r e => by rw [hO] at e; cases e)⟩
  | some x =>
    obtain ⟨ps, r⟩ := x
    rw [hO] at hp
    obtain ⟨s, b, he, h1, h2, h3⟩ := hp
    obtain ⟨k1, k2, k3⟩ := planB_of hO
    obtain ⟨-, a1, c1, rfl⟩ := h1.grw.form
    obtain ⟨a2, m2, c2, rfl⟩ := own_slice h2
    refine ⟨_, _, _, _, _, _, by rw [k3]; exact he, (fun ps' r' e => ?_)⟩
    rw [hO] at e
    cases e
    exact ⟨h1, by rw [k1]; exact h2, h3⟩
def BlgP (n : Net) (fs : List Fmt) (gs : List Gro) (w : World) (e : Ending) (w' : World) : Prop := ∃ v, e = .returned (.tuple #[v, .bool (planK n fs gs)]) ∧ Ofr w' w.heap.size (inD (planB n fs gs)) v ∧ Below w.heap.size w w'
theorem planB_no {n : Net} {fs : List Fmt} {gs : List Gro} (h : planO n fs gs = none) : planB n fs gs = [] ∧ planK n fs gs = false := by
  unfold planB planK; rw [h]; exact ⟨rfl, rfl⟩
set_option maxHeartbeats 1600000 in
theorem implBlocked_any (v vf vg : Value) (n : Net) (fs : List Fmt) (gs : List Gro) (w : World) (h : NetR w v n) (hf : Rdt w (flt 2 fmE fs) vf) (hg : Rdt w (flt 6 groE gs) vg) :
    Calls Tryz.prog 29 #[v, vf, vg] w (BlgP n fs gs w) := by
  obtain ⟨NP, hNP⟩ : ∃ NP, NP = BlgP n fs gs w := ⟨_, rfl⟩
  rw [← hNP]
  have HNP := Lib.hid hNP
  have HP := Lib.hid (fun w' (hb : Below w.heap.size w w') => planned_n v vf vg n fs gs w' (h.behind hb) (hf.behind hb) (hg.behind hb))
  have hnet := h
  obtain ⟨u1, u2, rfl, -, -, -⟩ := h
  obtain ⟨⟨a1, m1, c1, rfl⟩, a2, m2, c2, rfl⟩ := slice_of_net hnet
  obtain ⟨af, mf, cf, rfl, -, -, -, -⟩ := flt_opn (m := 2) (enc := fmE) (fun _ => rfl) (by omega) nilFm hf
  obtain ⟨ag, mg, cg, rfl, -, -, -, -⟩ := flt_opn (m := 6) (enc := groE) (fun _ => rfl) (by omega) nilG hg
  have HB1 := Lib.hid ((Below.refl w.heap.size w).alloc (Nat.le_refl _) (.cells #[.slice a1 m1 c1, .slice a2 m2 c2] 35))
  clear hnet hf hg hNP
  go_enter Tryz.func29, Tryz.ntmps29
  go_wp2_with fail
  generalize w.alloc (.cells #[.slice a1 m1 c1, .slice a2 m2 c2] 35) = w1 at *
  refine (HP.out w1 HB1.out).mono ?_
  rintro e w2 ⟨b2, aw, ms, cs, a, m, c, rfl, hpl, hno⟩
  have HF := Lib.hid (show BlgP n fs gs w (.returned (.tuple #[.slice a m c, .bool (planK n fs gs)])) w2 from ⟨_, rfl, by
    cases hO : planO n fs gs with
    | none =>
      obtain ⟨k1, k2⟩ := planB_no hO
      rw [k1, hno k2]
      exact Ofr.nil _ _ _
    | some x => exact ((hpl x.1 x.2 hO).2.1.mono HB1.out.size).ofr, HB1.out.trans (b2.mono HB1.out.size)⟩)
  generalize planK n fs gs = K at *
  clear b2 hpl hno
  go_wp2
  rw [HNP.out]
  exact HF.out
set_option maxHeartbeats 1600000 in
theorem specBlocked_any (v vf vg : Value) (n : Net) (fs : List Fmt) (gs : List Gro) (w : World) (h : NetR w v n) (hf : Rdt w (flt 2 fmE fs) vf) (hg : Rdt w (flt 6 groE gs) vg) :
    Calls Tryz.prog 32 #[v, vf, vg] w (BlgP n fs gs w) := by
  obtain ⟨NP, hNP⟩ : ∃ NP, NP = BlgP n fs gs w := ⟨_, rfl⟩
  rw [← hNP]
  have HNP := Lib.hid hNP
  have HP := Lib.hid (fun w' (hb : Below w.heap.size w w') => l26Plan_n v vf vg n fs gs w' (h.behind hb) (hf.behind hb) (hg.behind hb))
  have hnet := h
  obtain ⟨u1, u2, rfl, -, -, -⟩ := h
  obtain ⟨⟨a1, m1, c1, rfl⟩, a2, m2, c2, rfl⟩ := slice_of_net hnet
  obtain ⟨af, mf, cf, rfl, -, -, -, -⟩ := flt_opn (m := 2) (enc := fmE) (fun _ => rfl) (by omega) nilFm hf
  obtain ⟨ag, mg, cg, rfl, -, -, -, -⟩ := flt_opn (m := 6) (enc := groE) (fun _ => rfl) (by omega) nilG hg
  have HB1 := Lib.hid ((Below.refl w.heap.size w).alloc (Nat.le_refl _) (.cells #[.slice a1 m1 c1, .slice a2 m2 c2] 35))
  clear hnet hf hg hNP
  go_enter Tryz.func32, Tryz.ntmps32
  go_wp2_with fail
  generalize w.alloc (.cells #[.slice a1 m1 c1, .slice a2 m2 c2] 35) = w1 at *
  refine (HP.out w1 HB1.out).mono ?_
  rintro e w2 ⟨b2, aw, ms, cs, a, m, c, rfl, hpl⟩
  have HB2 := Lib.hid (HB1.out.trans (b2.mono HB1.out.size))
  have HB3 := Lib.hid (HB2.out.alloc HB2.out.size (.cells #[.slice aw ms cs, .slice a m c] 95))
  cases hO : planO n fs gs with
  | none =>
    obtain ⟨k1, k2⟩ := planB_no hO
    have HB4 := Lib.hid (HB3.out.alloc HB3.out.size (.cells #[] 3))
    have HE := Lib.hid (⟨k1, k2⟩ : planB n fs gs = [] ∧ planK n fs gs = false)
    have HO4 := Lib.hid (show Own ((w2.alloc (.cells #[.slice aw ms cs, .slice a m c] 95)).alloc (.cells #[] 3)) w.heap.size (.slice (some ⟨w2.heap.size + 1, 0, none⟩) 0 0) [] from by have := (own_none (w2.alloc (.cells #[.slice aw ms cs, .slice a m c] 95)) 3).mono HB3.out.size; simpa using this)
    rw [k2]
    clear b2 hpl hO k1 k2
    go_wp2
    rw [HNP.out]
    exact ⟨.slice (some ⟨w2.heap.size + 1, 0, none⟩) 0 0, by rw [HE.out.2]; rfl, by rw [HE.out.1]; exact HO4.out.ofr, HB4.out⟩
  | some x =>
    have HE := Lib.hid (planB_of hO).2.2
    have HO := Lib.hid (((hpl x.1 x.2 hO).2.1.mono HB1.out.size).belowAll ((Below.refl w2.heap.size w2).alloc (Nat.le_refl _) (.cells #[.slice aw ms cs, .slice a m c] 95)))
    rw [HE.out]
    clear b2 hpl hO
    go_wp2
    rw [HNP.out]
    exact ⟨_, by rw [HE.out]; rfl, HO.out.ofr, HB3.out⟩
end Go.Proofs.YtofcicomhnkocaaGreat
