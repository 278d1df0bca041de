/- Joined: XLgo XFni XSusP XVst XHld XRtb XChs XLgt XSus XSpd XCerP XDrd XDrf XDrh. -/
import Derived.Test.YtofcicomhnkocaaGreatBp07
import Derived.Lib.QuietBelow
import Derived.Deep.RegionHeld3
import Derived.Test.YtofcicomhnkocaaGreatBp05
import Derived.Test.YtofcicomhnkocaaGreatBp01
import Derived.Test.YtofcicomhnkocaaGreatBp06
import Derived.Test.YtofcicomhnkocaaGreatBp02
import Derived.Maps.AppendAt
import Derived.Deep.RegionLaw
import Derived.Test.YtofcicomhnkocaaGreatBp04
import Derived.StillTailTactics
import Derived.Test.YtofcicomhnkocaaGreatBp03
set_option linter.unusedVariables false
namespace Go.Proofs.YtofcicomhnkocaaGreat
open Go.RowKit Go.Sort
set_option maxRecDepth 100000

theorem lgt_leaf {w : World} {x : Value} {u : Value} (h : Rdt w (.leaf x) u) : u = x := by cases h; rfl
theorem lgt_opn {w : World} {v : Value} {zs : List Lgt} (h : Rdt w (rws 5 lgtD zs) v) : ∃ a n cap, v = .slice a n cap ∧ Hid (zs.length = n) ∧ n ≤ cap ∧ n ≤ 9223372036854775807 ∧
    (0 < n → ∃ b off, a = some ⟨b, off, none⟩ ∧ b < w.heap.size ∧ ∀ i, i < n → ∃ u, w.cell? ⟨b, off + i * 5, none⟩ = some (.int .i64 (zs[i]?.getD nilL).id) ∧ w.cell? ⟨b, off + i * 5 + 1, none⟩ = some (.int .i64 (zs[i]?.getD nilL).st) ∧
      w.cell? ⟨b, off + i * 5 + 2, none⟩ = some u ∧ w.cell? ⟨b, off + i * 5 + 3, none⟩ = some (.int .i64 (zs[i]?.getD nilL).fi) ∧ w.cell? ⟨b, off + i * 5 + 4, none⟩ = some (.int .i64 (zs[i]?.getD nilL).ct) ∧ Rd w u (zs[i]?.getD nilL).fb) := by
  obtain ⟨a, n, cap, e, HN, h1, h2, h3⟩ := rws_opn (m := 5) (en := lgtD) (fun _ => rfl) (by omega) nilL h
  refine ⟨a, n, cap, e, HN, h1, h2, fun h0 => ?_⟩
  obtain ⟨b, off, ea, hb, hc⟩ := h3 h0
  refine ⟨b, off, ea, hb, fun i hi => ?_⟩
  obtain ⟨u0, k0, d0⟩ := hc i hi 0 _ rfl
  obtain ⟨u1, k1, d1⟩ := hc i hi 1 _ rfl
  obtain ⟨u2, k2, d2⟩ := hc i hi 2 _ rfl
  obtain ⟨u3, k3, d3⟩ := hc i hi 3 _ rfl
  obtain ⟨u4, k4, d4⟩ := hc i hi 4 _ rfl
  rw [lgt_leaf d0] at k0
  rw [lgt_leaf d1] at k1
  rw [lgt_leaf d3] at k3
  rw [lgt_leaf d4] at k4
  exact ⟨u2, k0, k1, k2, k3, k4, Rdt.toRd d2⟩
set_option maxHeartbeats 1600000 in
theorem indexFuncLgt_any (v : Value) (zs : List Lgt) (F : FuncId) (b0 : Nat) (p : Lgt → Bool) (w : World) (h : Rdt w (rws 5 lgtD zs) v) (hF : IsFn F)
    (hp : ∀ (i : Nat) (w' : World), i < zs.length → Below w.heap.size w w' → ∀ z u, z = zs[i]?.getD nilL → Rd w' u z.fb → Calls Tryz.prog F #[.agg #[.int .i64 z.id, .int .i64 z.st, u, .int .i64 z.fi, .int .i64 z.ct], ptr b0] w' fun e w2 => e = .returned (.bool (p z)) ∧ Below w'.heap.size w' w2) :
    Calls Tryz.prog 141 #[v, .func (.func F) #[] #[ptr b0]] w fun e w' => e = .returned (.int .i64 (idxG zs p)) ∧ Below w.heap.size w w' := by
  obtain ⟨a, n, cap, rfl, HN, _, hla, ha⟩ := lgt_opn h
  rw [HN.out] at hp
  have HP := Lib.hid hp
  have HA := Lib.hid ha
  clear hp ha h
  have hF := show ∀ (args : Array Value) (w : World), (callFunc F args).run Tryz.prog w = .ok (.enter F args) w from hF
  have HI := Lib.hid (fun k hk h e => idxG_some (zs := zs) (p := p) (nil := nilL) (k := k) hk h e)
  have HO := Lib.hid (idxG_none (zs := zs) (p := p))
  have HM := Lib.hid (fun k hk h e => anyG_more (zs := zs) (p := p) (nil := nilL) (k := k) hk h e)
  generalize idxG zs p = r at *
  go_enter Tryz.func141, Tryz.ntmps141
  go_wp2
  go_loopw [5, 8] (fun _ i wr => ∃ k : Nat, k ≤ n ∧ i = .int .i64 k ∧ Hid ((zs.take k).any p = false) ∧ Hid (Below w.heap.size w wr)) (fun _ i _ => n - (intOf i).toNat)
  case atStart => exact ⟨0, by omega, rfl, by simp [Hid], Below.refl _ _⟩
  case round =>
    obtain ⟨k, hk, rfl, HT, HB⟩ := hrel
    by_cases hlt : k < n
    · have hltI : (k : Int) < (n : Int) := by omega
      have hkx : k < zs.length := by rw [HN.out]; exact hlt
      obtain ⟨b, off, rfl, hbs, hcs⟩ := HA.out (by omega)
      obtain ⟨u, e0, e1, e2, e3, e4, hru⟩ := hcs k hlt
      have hw0 := (HB.out.cell (p := ⟨b, off + k * 5, none⟩) hbs).trans e0
      have hw1 := (HB.out.cell (p := ⟨b, off + k * 5 + 1, none⟩) hbs).trans e1
      have hw2 := (HB.out.cell (p := ⟨b, off + k * 5 + 2, none⟩) hbs).trans e2
      have hw3 := (HB.out.cell (p := ⟨b, off + k * 5 + 3, none⟩) hbs).trans e3
      have hw4 := (HB.out.cell (p := ⟨b, off + k * 5 + 4, none⟩) hbs).trans e4
      have HSL := hru.opn
      have HPK := Lib.hid (HP.out k wr hlt HB.out _ u rfl (hru.belowAll HB.out))
      have HIK := Lib.hid (HI.out k hkx HT.out)
      have HMK := Lib.hid (HM.out k hkx HT.out)
      obtain ⟨au, cu, nu, -, rfl, -, -, -⟩ := HSL
      clear hcs hkx e0 e1 e2 e3 e4 hru
      generalize zs[k]?.getD nilL = z at *
      generalize p z = pz at *
      have hz := HB.out.size
      cases pz
      · have HE := Lib.hid (HMK.out rfl)
        go_wp2_with fail
        refine HPK.out.mono ?_
        rintro e w2 ⟨rfl, b2⟩
        have HB2 := Lib.hid (HB.out.trans (b2.mono hz))
        clear b2
        go_wp2
        go_roundw
        case rel => exact ⟨k + 1, by omega, by go_num, HE.out, HB2.out⟩
        case measure => simp [intOf]; omega
      · have HE := Lib.hid (HIK.out rfl)
        go_wp2_with fail
        refine HPK.out.mono ?_
        rintro e w2 ⟨rfl, b2⟩
        have HB2 := Lib.hid (HB.out.trans (b2.mono hz))
        clear b2
        go_wp2
        go_ret
        exact ⟨by rw [HE.out]; rfl, HB2.out⟩
    · obtain rfl : n = k := by omega
      have hall := HT.out
      rw [← HN.out, List.take_length] at hall
      have HE := Lib.hid (HO.out hall)
      clear hall
      go_wp2
      go_ret
      exact ⟨by rw [HE.out]; rfl, HB.out⟩
end Go.Proofs.YtofcicomhnkocaaGreat
namespace Go.Proofs.YtofcicomhnkocaaGreat
open Go.RowKit Go.Sort
set_option maxRecDepth 100000

set_option maxHeartbeats 1600000 in
theorem indexFuncI_any (v : Value) (zs : List Int) (F : FuncId) (b0 : Nat) (p : Int → Bool) (w : World) (h : Rd w v zs) (hF : IsFn F)
    (hp : ∀ (i : Nat) (w' : World), i < zs.length → Below w.heap.size w w' → ∀ z, z = zs[i]?.getD 0 → Calls Tryz.prog F #[.int .i64 z, ptr b0] w' fun e w2 => e = .returned (.bool (p z)) ∧ Below w'.heap.size w' w2) :
    Calls Tryz.prog 249 #[v, .func (.func F) #[] #[ptr b0]] w fun e w' => e = .returned (.int .i64 (idxG zs p)) ∧ Below w.heap.size w w' := by
  obtain ⟨a, cap, n, HN, rfl, _, hla, ha⟩ := h.opn
  rw [HN.out] at hp
  have HP := Lib.hid hp
  have HA := Lib.hid ha
  clear hp ha h
  have hF := show ∀ (args : Array Value) (w : World), (callFunc F args).run Tryz.prog w = .ok (.enter F args) w from hF
  have HI := Lib.hid (fun k hk h e => idxG_some (zs := zs) (p := p) (nil := 0) (k := k) hk h e)
  have HO := Lib.hid (idxG_none (zs := zs) (p := p))
  have HM := Lib.hid (fun k hk h e => anyG_more (zs := zs) (p := p) (nil := 0) (k := k) hk h e)
  generalize idxG zs p = r at *
  go_enter Tryz.func249, Tryz.ntmps249
  go_wp2
  go_loopw [5, 8] (fun _ i wr => ∃ k : Nat, k ≤ n ∧ i = .int .i64 k ∧ Hid ((zs.take k).any p = false) ∧ Hid (Below w.heap.size w wr)) (fun _ i _ => n - (intOf i).toNat)
  case atStart => exact ⟨0, by omega, rfl, by simp [Hid], Below.refl _ _⟩
  case round =>
    obtain ⟨k, hk, rfl, HT, HB⟩ := hrel
    by_cases hlt : k < n
    · have hltI : (k : Int) < (n : Int) := by omega
      have hkx : k < zs.length := by rw [HN.out]; exact hlt
      obtain ⟨b, off, rfl, hbs, hcs⟩ := HA.out (by omega)
      have hw0 := (HB.out.cell (p := ⟨b, off + k, none⟩) hbs).trans (hcs k hlt)
      have HPK := Lib.hid (HP.out k wr hlt HB.out _ rfl)
      have HIK := Lib.hid (HI.out k hkx HT.out)
      have HMK := Lib.hid (HM.out k hkx HT.out)
      clear hcs hkx
      generalize zs[k]?.getD 0 = z at *
      generalize p z = pz at *
      have hz := HB.out.size
      cases pz
      · have HE := Lib.hid (HMK.out rfl)
        go_wp2_with fail
        refine HPK.out.mono ?_
        rintro e w2 ⟨rfl, b2⟩
        have HB2 := Lib.hid (HB.out.trans (b2.mono hz))
        clear b2
        go_wp2
        go_roundw
        case rel => exact ⟨k + 1, by omega, by go_num, HE.out, HB2.out⟩
        case measure => simp [intOf]; omega
      · have HE := Lib.hid (HIK.out rfl)
        go_wp2_with fail
        refine HPK.out.mono ?_
        rintro e w2 ⟨rfl, b2⟩
        have HB2 := Lib.hid (HB.out.trans (b2.mono hz))
        clear b2
        go_wp2
        go_ret
        exact ⟨by rw [HE.out]; rfl, HB2.out⟩
    · obtain rfl : n = k := by omega
      have hall := HT.out
      rw [← HN.out, List.take_length] at hall
      have HE := Lib.hid (HO.out hall)
      clear hall
      go_wp2
      go_ret
      exact ⟨by rw [HE.out]; rfl, HB.out⟩
theorem containsFuncI_any (v : Value) (zs : List Int) (F : FuncId) (b0 : Nat) (p : Int → Bool) (w : World) (h : Rd w v zs) (hF : IsFn F)
    (hp : ∀ (i : Nat) (w' : World), i < zs.length → Below w.heap.size w w' → ∀ z, z = zs[i]?.getD 0 → Calls Tryz.prog F #[.int .i64 z, ptr b0] w' fun e w2 => e = .returned (.bool (p z)) ∧ Below w'.heap.size w' w2) :
    Calls Tryz.prog 236 #[v, .func (.func F) #[] #[ptr b0]] w fun e w' => e = .returned (.bool (zs.any p)) ∧ Below w.heap.size w w' := by
  have HI := Lib.hid (indexFuncI_any v zs F b0 p w h hF hp)
  have HG := Lib.hid (idxG_geq zs p)
  generalize idxG zs p = r at *
  generalize zs.any p = s at *
  obtain ⟨a, cap, n, -, rfl, -⟩ := h.opn
  clear h hp hF
  go_enter Tryz.func236, Tryz.ntmps236
  go_wp2_with fail
  refine HI.out.mono ?_
  rintro e w2 ⟨rfl, b2⟩
  have HB := Lib.hid b2
  clear b2
  go_wp2
  go_ret
  exact ⟨by rw [← HG.out]; rfl, HB.out⟩
/-! ### The index of the light with a number -/
def lix (p : Pln) (id : Int) : Int := idxG p.ls (fun x => x.id == id)
theorem lightAt1_any (z : Lgt) (u : Value) (id : Int) (b0 : Nat) (w : World) (hu : Rd w u z.fb) (h0 : w.cell? ⟨b0, 0, none⟩ = some (.int .i64 id)) :
    Calls Tryz.prog 154 #[.agg #[.int .i64 z.id, .int .i64 z.st, u, .int .i64 z.fi, .int .i64 z.ct], ptr b0] w fun e w' => e = .returned (.bool (z.id == id)) ∧ Below w.heap.size w w' := by
  obtain ⟨a1, c1, n1, -, rfl, -⟩ := hu.opn
  obtain ⟨bx, bc, blt, -⟩ := box_facts w #[.int .i64 z.id, .int .i64 z.st, .slice a1 n1 c1, .int .i64 z.fi, .int .i64 z.ct] 86
  have q0 := bc 0 _ rfl
  have d0 := (bx.cell (p := ⟨b0, 0, none⟩) (World.block_lt_of_cell? _ _ h0)).trans h0
  have HBX := Lib.hid bx
  have HV := Lib.hid (rfl : (z.id == id) = (z.id == id))
  clear bx bc h0 hu
  go_enter Tryz.func154, Tryz.ntmps154
  go_wp2
  go_ret
  exact ⟨rfl, HBX.out⟩
end Go.Proofs.YtofcicomhnkocaaGreat
namespace Go.Proofs.YtofcicomhnkocaaGreat
open Go.RowKit Go.Sort

/-! ### Bits that are not in another mask -/
/-! ### The index of a light -/
theorem lix_some {p : Pln} {x : Int} (h : 0 ≤ lix p x) : ∃ k : Nat, k < p.ls.length ∧ lix p x = (k : Int) ∧ (lgA p k).id = x := by
  unfold lix idxG at *
  cases e : p.ls.findIdx? (fun y => y.id == x) with
  | none => rw [e] at h; exact absurd h (by decide)
  | some k =>
    rw [List.findIdx?_eq_some_iff_getElem] at e
    obtain ⟨hk, e1, -⟩ := e
    exact ⟨k, hk, rfl, by unfold lgA; rw [List.getElem?_eq_getElem hk]; simpa using e1⟩
theorem lix_bd (p : Pln) (x : Int) : -1 ≤ lix p x ∧ lix p x < p.ls.length := by
  rcases Int.lt_or_le (lix p x) 0 with h | h
  · unfold lix idxG at *
    cases e : p.ls.findIdx? (fun y => y.id == x) with
    | none => simp; omega
    | some k => rw [e] at h; exact absurd h (by simp)
  · obtain ⟨k, hk, e, -⟩ := lix_some h
    omega

/-! ### Sets of lights that are down -/
/-! ### What groups hit, as a set -/
/-! ### Suspects and explanations -/
end Go.Proofs.YtofcicomhnkocaaGreat
namespace Go.Proofs.YtofcicomhnkocaaGreat
open Go.RowKit Go.Sort
set_option maxRecDepth 100000

structure Mv (T T' : Nat → Prop) (w w' : World) : Prop where
  os : w'.os = w.os
  tape : w'.tape = w.tape
  output : w'.output = w.output
  size : w.heap.size ≤ w'.heap.size
  block : ∀ g, g < w.heap.size → ¬ T g → w'.heap[g]? = w.heap[g]?
  old : ∀ g, T' g → T g ∨ w.heap.size ≤ g
theorem Mv.refl (T : Nat → Prop) (w : World) : Mv T T w w := ⟨rfl, rfl, rfl, Nat.le_refl _, fun _ _ _ => rfl, fun _ h => .inl h⟩
theorem Mv.trans {T T' T'' : Nat → Prop} {a b c : World} (h : Mv T T' a b) (k : Mv T' T'' b c) : Mv T T'' a c :=
  ⟨k.os.trans h.os, k.tape.trans h.tape, k.output.trans h.output, Nat.le_trans h.size k.size, fun g hg hn => by
    rw [k.block g (Nat.lt_of_lt_of_le hg h.size) (fun e => (h.old g e).elim hn (fun e => by omega)), h.block g hg hn], fun g hg => by
    rcases k.old g hg with e | e
    · exact h.old g e
    · exact .inr (Nat.le_trans h.size e)⟩
theorem Mv.of_below {T : Nat → Prop} {a b : World} (h : Below a.heap.size a b) : Mv T T a b := ⟨h.os, h.tape, h.output, h.size, fun k hk _ => h.block k hk, fun _ h => .inl h⟩
theorem Mv.below {T T' : Nat → Prop} {a b u : World} {N : Nat} (h : Mv T T' a b) (hb : Below N u a) (hN : N ≤ a.heap.size) (hT : ∀ g, T g → N ≤ g) : Below N u b :=
  ⟨h.os.trans hb.os, h.tape.trans hb.tape, h.output.trans hb.output, Nat.le_trans hb.size h.size, fun k hk => by rw [h.block k (Nat.lt_of_lt_of_le hk hN) (fun e => by have := hT k e; omega), hb.block k hk]⟩
theorem ints_get {ys : List Int} {j : Nat} {v : Value} (h : (ints ys)[j]? = some v) : j < ys.length ∧ v = .int .i64 (ys[j]?.getD 0) := by
  have hj : j < ys.length := by
    have := (List.getElem?_eq_some_iff.1 h).1
    simpa using this
  refine ⟨hj, ?_⟩
  simp only [ints, List.getElem?_map, List.getElem?_eq_getElem hj, Option.map_some, Option.some.injEq] at h
  simp [List.getElem?_eq_getElem hj, h.symm]
theorem full_ok {w : World} {v : Value} {xs : List Int} (h : Rd w v xs) : ∃ a cap, v = .slice a xs.length cap ∧ xs.length ≤ cap ∧ (a = none → xs.length = 0 ∧ cap = 0) ∧ ∀ b, a = some b → ∀ j u, (ints xs)[j]? = some u → w.cell? (b.add j) = some u := by
  rcases h with ⟨rfl, rfl⟩ | ⟨b, off, cap, rfl, h1, h2, h3, h4⟩
  · exact ⟨none, 0, rfl, by simp, by simp, by simp⟩
  · refine ⟨_, cap, rfl, h1, by simp, fun b' hb j u hu => ?_⟩
    simp only [Option.some.injEq] at hb
    subst hb
    obtain ⟨hj, rfl⟩ := ints_get hu
    rw [show (⟨b, off, none⟩ : Addr).add j = ⟨b, off + j, none⟩ by simp [Addr.add]]
    exact h4 j hj
theorem full_opn {w : World} {v : Value} {xs : List Int} (h : Rd w v xs) : ∃ a cap n, Hid (xs.length = n) ∧ v = .slice a n cap ∧ n ≤ cap ∧ (a = none → n = 0 ∧ cap = 0) := by
  obtain ⟨a, cap, hv, h1, h2, _⟩ := full_ok h
  exact ⟨a, cap, xs.length, rfl, hv, h1, h2⟩
theorem Rd.cellsOf {w : World} {a : Option Addr} {n cap : Nat} {xs : List Int} (h : Rd w (.slice a n cap) xs) : ∀ b, a = some b → ∀ j u, (ints xs)[j]? = some u → w.cell? (b.add j) = some u := by
  obtain ⟨a', cap', hv, _, _, h4⟩ := full_ok h
  simp only [Value.slice.injEq] at hv
  obtain ⟨rfl, _, _⟩ := hv
  exact h4

end Go.Proofs.YtofcicomhnkocaaGreat
namespace Go.Proofs.YtofcicomhnkocaaGreat
open Go.RowKit

section
variable {P : Program} {ops : Array Oper} {Q : Exit → Act → World → Prop} {md : Region.Mode} {S : World → Prop} {U : List Nat}
def lft (U : List Nat) (listed : Array Bool) : Bool := U.any fun k => !listed.getD k true
def waits (md : Region.Mode) (ops : Array Oper) (U : List Nat) (listed : Array Bool) (i : Nat) : Bool := U.any fun m => !listed.getD m true && m != i && ((ops[m]?).map (·.after.any fun e => Region.binds md e && e.on == i)).getD false
theorem lft_of {listed : Array Bool} {m : Nat} (hm : m ∈ U) (hl : listed.getD m true = false) : lft U listed = true := by
  unfold lft
  exact List.any_eq_true.2 ⟨m, hm, by rw [hl]; rfl⟩
theorem waits_iff {listed : Array Bool} {i : Nat} : waits md ops U listed i = true ↔ ∃ m om, m ∈ U ∧ ops[m]? = some om ∧ m ≠ i ∧ listed.getD m true = false ∧ ∃ e ∈ om.after, Region.binds md e = true ∧ e.on = i := by
  unfold waits
  rw [List.any_eq_true]
  constructor
  · rintro ⟨m, h1, h2⟩
    simp only [Bool.and_eq_true, Bool.not_eq_true', bne_iff_ne, ne_eq] at h2
    obtain ⟨⟨h3, h4⟩, h5⟩ := h2
    cases ho : ops[m]? with
    | none => rw [ho] at h5; cases h5
    | some om =>
      rw [ho] at h5
      obtain ⟨e, he, hb⟩ := Array.any_eq_true'.1 (show om.after.any (fun e => Region.binds md e && e.on == i) = true from h5)
      simp only [Bool.and_eq_true, beq_iff_eq] at hb
      exact ⟨m, om, h1, ho, h4, h3, e, he, hb.1, hb.2⟩
  · rintro ⟨m, om, h1, ho, h4, h3, e, he, hb1, hb2⟩
    refine ⟨m, h1, ?_⟩
    simp only [Bool.and_eq_true, Bool.not_eq_true', bne_iff_ne, ne_eq]
    refine ⟨⟨h3, h4⟩, ?_⟩
    rw [ho]
    show om.after.any (fun e => Region.binds md e && e.on == i) = true
    exact Array.any_eq_true'.2 ⟨e, he, by simp [hb1, hb2]⟩
def wpAnyL (P : Program) (md : Region.Mode) (ops : Array Oper) (U : List Nat) (Q : Exit → Act → World → Prop) (S : World → Prop) : Nat → Array Bool → Act → World → Prop
  | 0, listed, a, w => Region.ready md ops listed = [] ∧ Q .normal a w
  | fuel + 1, listed, a, w =>
    (Region.ready md ops listed = [] → Q .normal a w) ∧
    ∀ i ∈ Region.ready md ops listed, wpOp P ops Q i (fun a' w' => (lft U (listed.setIfInBounds i true) = true → S w') ∧ wpAnyL P md ops U Q S fuel (listed.setIfInBounds i true) a' w') a w
theorem wpAny_of_L : ∀ (fuel : Nat) (listed : Array Bool) (a : Act) (w : World), wpAnyL P md ops U Q S fuel listed a w → wpAny P md ops Q fuel listed a w
  | 0, _, _, _, h => h
  | fuel + 1, _, _, _, h => ⟨h.1, fun i hi => wpOp_mono (fun a' w' h' => wpAny_of_L fuel _ a' w' h'.2) (h.2 i hi)⟩
theorem wpAnyL_first {i : Nat} {oi : Oper} {v : Value} (hi : ops[i]? = some oi) (hsel : ∀ (j : Nat) (o : Oper) cs b, ops[j]? = some o → o.op ≠ .select cs b)
    (hQ : ∀ c a w, Q (.panic c) (a.put oi.dst v) w → Q (.panic c) a w) :
    ∀ (fuel : Nat) (listed : Array Bool) (a : Act) (w : World),
      (∀ j oj, ops[j]? = some oj → j ≠ i → listed.getD j true = false → (∀ e ∈ oj.after, Region.binds md e = true → e.on ≠ i) → oi.apart ops oj = true) →
      i ∈ Region.ready md ops listed → waits md ops U listed i = true → YieldsIf P ops S oi v a → S w →
      wpAnyL P md ops U Q S fuel (listed.setIfInBounds i true) (a.put oi.dst v) w → wpAnyL P md ops U Q S (fuel + 1) listed a w := by
  intro fuel
  induction fuel with
  | zero =>
    intro listed a w _ hr _ hy hS H
    refine ⟨fun h => (by rw [h] at hr; cases hr), fun j hj => ?_⟩
    by_cases hji : j = i
    · subst hji; exact hy.wpOp hi hS ⟨fun _ => hS, H⟩
    · have := ready_mono hj hji
      rw [H.1] at this
      cases this
  | succ fuel ih =>
    intro listed a w hfree hr hwt hy hS H
    refine ⟨fun h => (by rw [h] at hr; cases hr), fun j hj => ?_⟩
    by_cases hji : j = i
    · subst hji; exact hy.wpOp hi hS ⟨fun _ => hS, H⟩
    · have h1 := H.2 j (ready_mono hj hji)
      obtain ⟨hjun, oj, hoj, hall⟩ := mem_ready.1 hj
      have hnot : ∀ e ∈ oj.after, Region.binds md e = true → e.on ≠ i := fun e he hb heq => by
        have h1 := hall e he hb
        have h0 := (mem_ready.1 hr).1
        rw [heq] at h1
        rcases Nat.lt_or_ge i listed.size with h' | h'
        · simp [h'] at h0 h1; rw [h0] at h1; cases h1
        · simp [Array.getElem?_eq_none h'] at h1
      have h2 := wpOp_putIf hoj (hfree j oj hoj hji hjun hnot) (fun cs b => hsel i oi cs b hi) (fun cs b => hsel j oj cs b hoj) hQ hy h1
      have hfree' : ∀ k ok, ops[k]? = some ok → k ≠ i → (listed.setIfInBounds j true).getD k true = false →
          (∀ e ∈ ok.after, Region.binds md e = true → e.on ≠ i) → oi.apart ops ok = true := fun k ok hk hki hun hno => by
        refine hfree k ok hk hki ?_ hno
        by_cases hjk : j = k
        · subst hjk; exact hjun
        · rw [getD_set_ne true hjk] at hun; exact hun
      obtain ⟨m, om, hmU, hom, hmi, hml, e, he, hb1, hb2⟩ := waits_iff.1 hwt
      have hmj : j ≠ m := fun h => by
        subst h
        rw [hoj] at hom
        cases hom
        exact hnot e he hb1 hb2
      have hml2 : (listed.setIfInBounds j true).getD m true = false := by rw [getD_set_ne true hmj]; exact hml
      have hwt2 : waits md ops U (listed.setIfInBounds j true) i = true := waits_iff.2 ⟨m, om, hmU, hom, hmi, hml2, e, he, hb1, hb2⟩
      have hl2 : lft U ((listed.setIfInBounds i true).setIfInBounds j true) = true :=
        lft_of hmU (by rw [getD_set_ne true hmj, getD_set_ne true (Ne.symm hmi)]; exact hml)
      refine wpOp_mono (fun a' w' h3 => ⟨fun _ => h3.2.1 hl2, ih (listed.setIfInBounds j true) a' w' hfree' (ready_mono hr (Ne.symm hji)) hwt2 h3.1 (h3.2.1 hl2) ?_⟩) h2
      rw [Array.setIfInBounds_comm _ _ hji]
      exact h3.2.2
theorem get_of_drop {i : Nat} {o : Oper} {tl : List Oper} (h : ops.toList.drop i = o :: tl) : ops[i]? = some o := by
  have : (ops.toList.drop i)[0]? = some o := by rw [h]; rfl
  rw [List.getElem?_drop, Nat.add_zero] at this
  simpa using this
theorem hlTake (i : Nat) {oi : Oper} {v : Value} {fuel : Nat} {listed : Array Bool} {a : Act} {w : World} {tl : List Oper} (hi : ops.toList.drop i = oi :: tl)
    (hs : Region.noSelect ops = true) (hf : Region.free md ops listed i = true) (hr : (Region.ready md ops listed).contains i = true) (hwt : waits md ops U listed i = true)
    (hQ : ∀ c a w, Q (.panic c) (a.put oi.dst v) w → Q (.panic c) a w) (hw : Region.wanted oi (yielded ops a.tmps) = true) (hy : ∀ w, S w → (execOp a.eval oi).run P w = .ok (.value v) w) (hS : S w)
    (h : wpAnyL P md ops U Q S fuel (listed.setIfInBounds i true) (a.put oi.dst v) w) : wpAnyL P md ops U Q S (fuel + 1) listed a w :=
  wpAnyL_first (get_of_drop hi) (Region.noSelect_spec hs) hQ fuel listed a w (Region.free_spec (get_of_drop hi) hf) (by simpa using hr) hwt (.inl ⟨hw, hy⟩) hS h
def AllReadyL (P : Program) (md : Region.Mode) (ops : Array Oper) (U : List Nat) (Q : Exit → Act → World → Prop) (S : World → Prop) (fuel : Nat) (listed : Array Bool) (a : Act) (w : World) (rs : List Nat) : Prop :=
  ∀ i ∈ rs, wpOp P ops Q i (fun a' w' => (lft U (listed.setIfInBounds i true) = true → S w') ∧ wpAnyL P md ops U Q S fuel (listed.setIfInBounds i true) a' w') a w
theorem AllReadyL.nil {fuel : Nat} {listed : Array Bool} {a : Act} {w : World} : AllReadyL P md ops U Q S fuel listed a w [] := fun _ h => by cases h
theorem AllReadyL.cons {fuel : Nat} {listed : Array Bool} {a : Act} {w : World} {i : Nat} {o : Oper} {rs : List Nat} {tl : List Oper} (ho : ops.toList.drop i = o :: tl)
    (h : ∀ K' : Act → World → Prop, Shut (∀ a w, S w → (S w → wpAnyL P md ops U Q S fuel (listed.setIfInBounds i true) a w) → K' a w) → if Region.wanted o (yielded ops a.tmps) = true then Oper.wp P o a w K' Q else K' (a.put o.dst undef) w)
    (hs : AllReadyL P md ops U Q S fuel listed a w rs) : AllReadyL P md ops U Q S fuel listed a w (i :: rs) := fun j hj => by
  rcases List.mem_cons.1 hj with rfl | hj
  · exact wpOp_step (get_of_drop ho) (fun K' hK => h K' (fun a w hS hW => hK a w ⟨fun _ => hS, hW hS⟩))
  · exact hs j hj
theorem hlReady {rs : List Nat} {fuel : Nat} {listed : Array Bool} {a : Act} {w : World} (hr : Region.ready md ops listed = rs) (hne : rs ≠ [])
    (h : AllReadyL P md ops U Q S fuel listed a w rs) : wpAnyL P md ops U Q S (fuel + 1) listed a w :=
  ⟨fun h0 => absurd (hr ▸ h0) hne, hr ▸ h⟩
theorem hlStep (i : Nat) {fuel : Nat} {listed : Array Bool} {a : Act} {w : World} {o : Oper} {tl : List Oper} (ho : ops.toList.drop i = o :: tl) (hr : Region.ready md ops listed = [i]) (hl : lft U (listed.setIfInBounds i true) = false)
    (h : ∀ K' : Act → World → Prop, Shut (∀ a w, wpAnyL P md ops U Q S fuel (listed.setIfInBounds i true) a w → K' a w) → if Region.wanted o (yielded ops a.tmps) = true then Oper.wp P o a w K' Q else K' (a.put o.dst undef) w) : wpAnyL P md ops U Q S (fuel + 1) listed a w :=
  hlReady hr (by simp) fun j hj => by
    obtain rfl : j = i := by simpa using hj
    exact wpOp_step (get_of_drop ho) (fun K' hK => h K' (fun a w hW => hK a w ⟨fun h => (by rw [hl] at h; cases h), hW⟩))
theorem hlDone {listed : Array Bool} {a : Act} {w : World} (hr : Region.ready md ops listed = []) (h : Q .normal a w) : ∀ fuel, wpAnyL P md ops U Q S fuel listed a w
  | 0 => ⟨hr, h⟩
  | _ + 1 => ⟨fun _ => h, by rw [hr]; simp⟩
theorem wp_region_L (U : List Nat) {id : Nat} {a : Act} {w : World} (hm : P.follows .mixedOrders = true) (hS : S w.drew)
    (h : S w.drew → wpAnyL P .any ops U Q S ops.size (Array.replicate ops.size false) a w.drew) : (Code.region id ops true).wp P Q a w :=
  wp_region_any hm (wpAny_of_L _ _ _ _ (h hS))
end
end Go.Proofs.YtofcicomhnkocaaGreat
namespace Go.Proofs.YtofcicomhnkocaaGreat
open Go.RowKit Go.Sort
set_option maxRecDepth 100000

theorem Rd.keptM {w w' : World} {v : Value} {xs : List Int} {T T' : Nat → Prop} (h : Rd w v xs) (hm : Mv T T' w w') (hT : ∀ g, v.ownBlock = some g → ¬ T g) : Rd w' v xs := by
  rcases h with h | ⟨b, off, cap, rfl, h1, h2, h3, h4⟩
  · exact .inl h
  · refine .inr ⟨b, off, cap, rfl, h1, h2, Nat.lt_of_lt_of_le h3 hm.size, fun j hj => ?_⟩
    rw [World.cell?_of_block (w := w) (hm.block b h3 (hT b rfl))]; exact h4 j hj
theorem Rd.lt {w : World} {v : Value} {xs : List Int} (h : Rd w v xs) : ∀ g, v.ownBlock = some g → g < w.heap.size := fun g hg => by
  rcases h with ⟨rfl, _⟩ | ⟨b, off, cap, rfl, h1, h2, h3, h4⟩
  · cases hg
  · have : b = g := by simpa [Value.ownBlock] using hg
    subst this; exact h3
def rcs (st : Int) (ps : List (List Int × Value)) : List Value := ps.flatMap fun p => [.int .i64 st, p.2]
theorem rcs_app (st : Int) (ps qs : List (List Int × Value)) : rcs st (ps ++ qs) = rcs st ps ++ rcs st qs := by unfold rcs; rw [List.flatMap_append]
def TQ (q1 : Nat) (v : Value) : Nat → Prop := fun g => g = q1 ∨ v.ownBlock = some g
structure RbE (w : World) (q0 q1 q2 q3 q4 : Nat) (fr tn : Int) (u1 u2 : Value) : Prop where
  c0 : w.cell? ⟨q0, 0, none⟩ = some (.int .i64 tn)
  c2 : w.cell? ⟨q2, 0, none⟩ = some (.int .i64 fr)
  c3 : w.cell? ⟨q3, 0, none⟩ = some u1
  c5 : w.cell? ⟨q3, 1, none⟩ = some u2
  c4 : w.cell? ⟨q4, 0, none⟩ = some (.func (.func 238) #[] #[ptr q0, ptr q1, ptr q2, ptr q3, ptr q4])
structure RbS (w : World) (base q0 q1 q2 q3 q4 : Nat) (st : Int) (v : Value) (ps : List (List Int × Value)) : Prop where
  box : w.heap[q1]? = some (.cells #[v] 176 (0, 0))
  row : w.ownsRow base 82 2 v ps.length (rcs st ps)
  els : ∀ p ∈ ps, Rd w p.2 p.1 ∧ ∀ g, p.2.ownBlock = some g → ¬ TQ q1 v g
  vq : ∀ g, v.ownBlock = some g → g ≠ q0 ∧ g ≠ q1 ∧ g ≠ q2 ∧ g ≠ q3 ∧ g ≠ q4
  some_ : v.ownBlock ≠ none
theorem RbE.mv {w w' : World} {q0 q1 q2 q3 q4 : Nat} {fr tn : Int} {u1 u2 v : Value} {T' : Nat → Prop} (h : RbE w q0 q1 q2 q3 q4 fr tn u1 u2) (hm : Mv (TQ q1 v) T' w w') (hv : ∀ g, v.ownBlock = some g → g ≠ q0 ∧ g ≠ q1 ∧ g ≠ q2 ∧ g ≠ q3 ∧ g ≠ q4) (hd : q0 ≠ q1 ∧ q2 ≠ q1 ∧ q3 ≠ q1 ∧ q4 ≠ q1) :
    RbE w' q0 q1 q2 q3 q4 fr tn u1 u2 := by
  have key : ∀ (q j : Nat) (u : Value), q ≠ q1 → (∀ g, v.ownBlock = some g → g ≠ q) → w.cell? ⟨q, j, none⟩ = some u → w'.cell? ⟨q, j, none⟩ = some u := fun q j u h1 h2 hc => by
    rw [World.cell?_of_block (w := w) (hm.block q (World.block_lt_of_cell? _ _ hc) (fun e => e.elim h1 (fun e => h2 q e rfl)))]; exact hc
  exact ⟨key _ _ _ hd.1 (fun g e => (hv g e).1) h.c0, key _ _ _ hd.2.1 (fun g e => (hv g e).2.2.1) h.c2, key _ _ _ hd.2.2.1 (fun g e => (hv g e).2.2.2.1) h.c3, key _ _ _ hd.2.2.1 (fun g e => (hv g e).2.2.2.1) h.c5, key _ _ _ hd.2.2.2 (fun g e => (hv g e).2.2.2.2) h.c4⟩
theorem RbE.below {w w' : World} {q0 q1 q2 q3 q4 : Nat} {fr tn : Int} {u1 u2 : Value} (h : RbE w q0 q1 q2 q3 q4 fr tn u1 u2) (hb : Below w.heap.size w w') : RbE w' q0 q1 q2 q3 q4 fr tn u1 u2 := by
  have key : ∀ (q j : Nat) (u : Value), w.cell? ⟨q, j, none⟩ = some u → w'.cell? ⟨q, j, none⟩ = some u := fun q j u hc => by
    rw [hb.cell (p := ⟨q, j, none⟩) (World.block_lt_of_cell? _ _ hc)]; exact hc
  exact ⟨key _ _ _ h.c0, key _ _ _ h.c2, key _ _ _ h.c3, key _ _ _ h.c5, key _ _ _ h.c4⟩
theorem owr_below {w w' : World} {base n m : Nat} {T : TypeId} {v : Value} {us : List Value} (h : w.ownsRow base T m v n us) (hb : Below w.heap.size w w') : w'.ownsRow base T m v n us :=
  ⟨h.1, h.2.imp id fun ⟨g, cap, cur, k1, k2, k3, k4⟩ => ⟨g, cap, cur, k1, k2, by rw [hb.block g (Array.getElem?_eq_some_iff.1 k3).1]; exact k3, k4⟩⟩
theorem RbS.below {w w' : World} {base q0 q1 q2 q3 q4 : Nat} {st : Int} {v : Value} {ps : List (List Int × Value)} (h : RbS w base q0 q1 q2 q3 q4 st v ps) (hb : Below w.heap.size w w') : RbS w' base q0 q1 q2 q3 q4 st v ps :=
  ⟨by rw [hb.block q1 (Array.getElem?_eq_some_iff.1 h.box).1]; exact h.box, owr_below h.row hb, fun p hp => ⟨(h.els p hp).1.belowAll hb, (h.els p hp).2⟩, h.vq, h.some_⟩
theorem RbS.push {w W2 W3 : World} {base q0 q1 q2 q3 q4 lo : Nat} {st : Int} {v v' vc : Value} {ps : List (List Int × Value)} {fb : List Int} (h : RbS w base q0 q1 q2 q3 q4 st v ps) (hq : q0 < w.heap.size ∧ q2 < w.heap.size ∧ q3 < w.heap.size ∧ q4 < w.heap.size) (hb : Below w.heap.size w W2)
    (hr : W3.ownsRow base 82 2 v' (ps.length + 1) (rcs st ps ++ [.int .i64 st, vc])) (hg : W2.grownBy W3 v.ownBlock) (hl : v'.ownBlock = v.ownBlock ∨ v'.ownBlock = some W2.heap.size) (hc : Own W2 lo vc fb) (hlo : w.heap.size ≤ lo) :
    RbS (W3.setCell ⟨q1, 0, none⟩ v') base q0 q1 q2 q3 q4 st v' (ps ++ [(fb, vc)]) ∧ Mv (TQ q1 v) (TQ q1 v') w (W3.setCell ⟨q1, 0, none⟩ v') := by
  have hq1 : q1 < w.heap.size := (Array.getElem?_eq_some_iff.1 h.box).1
  have hv1 : ∀ g, v.ownBlock = some g → g < w.heap.size := fun g e => (h.row.lt g e).2
  have hs2 := hb.size
  have hs3 := hg.size
  have hne : ∀ g, v'.ownBlock = some g → g ≠ q0 ∧ g ≠ q1 ∧ g ≠ q2 ∧ g ≠ q3 ∧ g ≠ q4 := fun g e => by
    rcases hl with hl | hl
    · exact h.vq g (hl ▸ e)
    · rw [hl] at e
      have := Option.some.inj e
      omega
  have hset : ∀ g, g ≠ q1 → (W3.setCell ⟨q1, 0, none⟩ v').heap[g]? = W3.heap[g]? := fun g hg => heap_setCell_other W3 ⟨q1, 0, none⟩ g v' hg
  have hbox3 : W3.heap[q1]? = some (.cells #[v] 176 (0, 0)) := by
    rw [hg.block q1 (by omega) (fun e => (h.vq q1 e.symm).2.1 rfl), hb.block q1 hq1]; exact h.box
  have hold : ∀ g, g < w.heap.size → ¬ TQ q1 v g → (W3.setCell ⟨q1, 0, none⟩ v').heap[g]? = w.heap[g]? := fun g h1 h2 => by
    rw [hset g (fun e => h2 (.inl e)), hg.block g (by omega) (fun e => h2 (.inr e.symm)), hb.block g h1]
  have hMv : Mv (TQ q1 v) (TQ q1 v') w (W3.setCell ⟨q1, 0, none⟩ v') := by
    refine ⟨?_, ?_, ?_, ?_, hold, fun g e => ?_⟩
    · show W3.os = _; rw [hg.os, hb.os]
    · show W3.tape = _; rw [hg.tape, hb.tape]
    · show W3.output = _; rw [hg.output, hb.output]
    · show _ ≤ (W3.setCell ⟨q1, 0, none⟩ v').heap.size
      simp; omega
    · rcases e with e | e
      · exact .inl (.inl e)
      · rcases hl with hl | hl
        · exact .inl (.inr (hl ▸ e))
        · rw [hl] at e
          have := Option.some.inj e
          right; omega
  have hlen : (ps ++ [(fb, vc)]).length = ps.length + 1 := by simp
  refine ⟨⟨?_, ?_, fun p hp => ?_, hne, (by rcases hl with hl | hl <;> rw [hl]; exact h.some_; simp)⟩, hMv⟩
  · have := heap_setCell_same W3 q1 0 #[v] 176 v' hbox3
    simpa using this
  · rw [hlen, rcs_app]
    refine ⟨hr.1, hr.2.imp id fun ⟨g, cap, cur, k1, k2, k3, k4⟩ => ⟨g, cap, cur, k1, k2, ?_, k4⟩⟩
    rw [hset g (hne g (by rw [k1]; rfl)).2.1]; exact k3
  · rcases List.mem_append.1 hp with hp | hp
    · obtain ⟨e1, e2⟩ := h.els p hp
      refine ⟨e1.keptM hMv e2, fun g e3 e4 => ?_⟩
      rcases hMv.old g e4 with e5 | e5
      · exact e2 g e3 e5
      · have := e1.lt g e3; omega
    · obtain rfl := List.mem_singleton.1 hp
      have hcl : ∀ g, vc.ownBlock = some g → w.heap.size ≤ g ∧ g < W2.heap.size := fun g e => by
        have := hc.lt g e; omega
      have hm2 : Mv (TQ q1 v) (TQ q1 v') W2 (W3.setCell ⟨q1, 0, none⟩ v') := ⟨hg.os, hg.tape, hg.output, (by simp; omega), fun g h1 h2 => by rw [hset g (fun e => h2 (.inl e)), hg.block g h1 (fun e => h2 (.inr e.symm))], fun g e => by
        rcases e with e | e
        · exact .inl (.inl e)
        · rcases hl with hl | hl
          · exact .inl (.inr (hl ▸ e))
          · rw [hl] at e
            have := Option.some.inj e
            right; omega⟩
      refine ⟨hc.rd.keptM hm2 (fun g e3 e4 => ?_), fun g e3 e4 => ?_⟩
      · have h1 := hcl g e3
        rcases e4 with e4 | e4
        · omega
        · have := hv1 g e4; omega
      · have h1 := hcl g e3
        rcases e4 with e4 | e4
        · omega
        · rcases hl with hl | hl
          · rw [hl] at e4; have := hv1 g e4; omega
          · rw [hl] at e4; have := Option.some.inj e4; omega
theorem rowf {w : World} {base n : Nat} {T : TypeId} {v : Value} {us : List Value} {m : Nat} (h : w.ownsRow base T m v n us) : ∃ a c, v = .slice a n c := by
  rcases h.2 with ⟨rfl, rfl⟩ | ⟨g, cap, cur, rfl, _⟩
  · exact ⟨none, 0, rfl⟩
  · exact ⟨_, cap, rfl⟩
theorem new_cells {w : World} {us : List Value} {T : TypeId} : ∀ ad : Addr, (some ⟨w.heap.size, 0, none⟩ : Option Addr) = some ad → ∀ j u, us[j]? = some u → (w.alloc (.cells us.toArray T)).cell? (ad.add j) = some u := fun ad e j u hu => by
  cases e
  rw [addr_add, cell_of_row _ _ _ _ _ _ (heap_alloc_new w _), Nat.zero_add]
  simpa using hu
theorem own_slice {w : World} {base : Nat} {v : Value} {xs : List Int} (h : Own w base v xs) : ∃ a m c, v = .slice a m c := by
  obtain ⟨a, c, m, -, e, -⟩ := h.rd.opn
  exact ⟨a, m, c, e⟩
theorem Tryz.infoRou : (Tryz.prog.info? 82).map (fun i => (i.zero, i.size, i.bytes)) = some (some (.agg #[.int .i64 0, .slice none 0 0]), 2, 32) := by kernel_rfl
theorem extR_bd {n : Net} (hf : n.fs.length ≤ 14) {tn : Int} : ∀ (f : Nat) (t : Int) (seen fb : List Int), (extR n tn f t seen fb).length ≤ 14 ^ f
  | 0, _, _, _ => by simp [extR]
  | f + 1, t, seen, fb => by
    have h1 : 1 ≤ 14 ^ (f + 1) := Nat.pow_le_pow_right (n := 14) (by omega) (Nat.zero_le (f + 1))
    rw [extR]
    split
    · simpa using h1
    · rw [List.length_flatMap]
      have key : ∀ (l : List Nat), (List.map (fun i => (if 0 ≤ othE (fbA n i) t ∧ othE (fbA n i) t ∉ seen then extR n tn f (othE (fbA n i) t) (seen ++ [othE (fbA n i) t]) (fb ++ [(i : Int)]) else []).length) l).sum ≤ l.length * 14 ^ f := by
        intro l
        induction l with
        | nil => simp
        | cons i l ih =>
          rw [List.map_cons, List.sum_cons, List.length_cons, Nat.add_mul, Nat.one_mul]
          have : (if 0 ≤ othE (fbA n i) t ∧ othE (fbA n i) t ∉ seen then extR n tn f (othE (fbA n i) t) (seen ++ [othE (fbA n i) t]) (fb ++ [(i : Int)]) else []).length ≤ 14 ^ f := by
            split
            · exact extR_bd hf f _ _ _
            · simp
          omega
      refine Nat.le_trans (key _) ?_
      rw [List.length_range, Nat.pow_succ, Nat.mul_comm (14 ^ f)]
      exact Nat.mul_le_mul_right _ hf
end Go.Proofs.YtofcicomhnkocaaGreat
namespace Go.Proofs.YtofcicomhnkocaaGreat
open Go.RowKit Go.Sort
set_option maxRecDepth 100000

set_option maxHeartbeats 800000 in
theorem l1OwnE_any (v : Value) (xs : List Int) (w : World) (h : Rd w v xs) (hl : xs.length ≤ 900000) :
    Calls Tryz.prog 187 #[v] w fun e w' => ∃ v', e = .returned v' ∧ w'.ownsRow w.heap.size 3 1 v' xs.length (ints xs) ∧ Below w.heap.size w w' := by
  have hb0 := ((Below.refl w.heap.size w).alloc (Nat.le_refl _) (.cells #[] 3))
  have HOWN0 := Lib.hid (World.ownsRow_lit (base := w.heap.size) (e := 3) (size := 1) w #[] 0 (Nat.le_refl _) (by simp) rfl)
  have hrd := h.belowAll hb0
  obtain ⟨a, cap, n, HN, rfl, hcap, hnone⟩ := full_opn h
  obtain ⟨a', cap', n', HN', e, _, _, hc⟩ := hrd.opn
  simp only [Value.slice.injEq] at e
  obtain ⟨rfl, rfl, rfl⟩ := e
  have HC := Lib.hid (fun h0 => by
    obtain ⟨b, off, e1, e2, e3⟩ := hc h0
    exact (⟨b, off, e1, e3⟩ : ∃ b off, a = some ⟨b, off, none⟩ ∧ ∀ j, j < n → (w.alloc (.cells #[] 3)).cell? ⟨b, off + j, none⟩ = some (.int .i64 (xs[j]?.getD 0))))
  have HNO := Lib.hid hnone
  have HB0 := Lib.hid hb0
  have hn : n ≤ 900000 := by have := HN.out; omega
  rw [HN.out]
  clear hc hrd h hb0 hl HN' hnone
  go_enter Tryz.func187, Tryz.ntmps187
  go_wp2_with (at_builtin; go_loud (refine wpList_catA rfl (.tmp 3) (.tmp 4) 58 rfl Tryz.underlying58 Tryz.infoInt w.heap.size (.slice (some ⟨w.heap.size, 0, none⟩) 0 0) 0 [] rfl HOWN0.out a n cap xs rfl HN.out HNO.out HC.out (by omega) (by simp) ?_); intro v' w1 hown1 hgrow1)
  go_ret
  exact ⟨_, rfl, by simpa using hown1, HB0.out.grown hgrow1 (by simp) (fun k hk => by have e : w.heap.size = k := (by simpa [Value.ownBlock] using hk); exact Nat.le_of_eq e)⟩
end Go.Proofs.YtofcicomhnkocaaGreat
namespace Go.Proofs.YtofcicomhnkocaaGreat
open Go.RowKit Go.Sort
set_option maxRecDepth 100000

theorem slice_of_net {w : World} {u1 u2 : Value} {n : Net} (h : NetR w (.agg #[u1, u2]) n) : (∃ a m c, u1 = .slice a m c) ∧ ∃ a m c, u2 = .slice a m c := by
  obtain ⟨x1, x2, e, r1, r2, _⟩ := h
  simp only [Value.agg.injEq, Array.mk.injEq, List.cons.injEq, and_true] at e
  obtain ⟨rfl, rfl⟩ := e
  exact ⟨Rdt.slice' r1, Rdt.slice' r2⟩
end Go.Proofs.YtofcicomhnkocaaGreat
namespace Go.Proofs.YtofcicomhnkocaaGreat
open Go.RowKit Go.Sort
set_option maxRecDepth 100000

set_option maxHeartbeats 1600000 in
theorem lightAt_any (v : Value) (p : Pln) (id : Int) (w : World) (h : PlnR w v p) :
    Calls Tryz.prog 112 #[v, .int .i64 id] w fun e w' => e = .returned (.int .i64 (lix p id)) ∧ Below w.heap.size w w' := by
  obtain ⟨u1, u2, u3, rfl, r1, r2, r3, hsm⟩ := h
  have hnet : NetR w (.agg #[u1, u2]) p.n := ⟨u1, u2, rfl, r1, r2, hsm⟩
  obtain ⟨⟨a1, m1, c1, rfl⟩, a2, m2, c2, rfl⟩ := slice_of_net hnet
  have HR3 := Lib.hid r3
  obtain ⟨a3, m3, c3, rfl, -, -, -, -⟩ := lgt_opn r3
  obtain ⟨bx, bc, blt, -⟩ := box_facts w #[.slice a1 m1 c1, .slice a2 m2 c2, .slice a3 m3 c3] 75
  have q2 := bc 2 _ rfl
  have hs1 : (w.alloc (.cells #[.slice a1 m1 c1, .slice a2 m2 c2, .slice a3 m3 c3] 75)).heap.size = w.heap.size + 1 := by simp
  obtain ⟨by1, bd, bl2, -⟩ := box_facts (w.alloc (.cells #[.slice a1 m1 c1, .slice a2 m2 c2, .slice a3 m3 c3] 75)) #[.int .i64 id] 3
  have d0 := bd 0 _ rfl
  have e2 := (by1.cell (p := ⟨w.heap.size, 2, none⟩) blt).trans q2
  rw [hs1] at d0 bl2
  have HB0 := Lib.hid (bx.trans (by1.mono bx.size))
  have HFN := Lib.hid (show IsFn 154 from isFn_of rfl rfl rfl)
  have HL1 := Lib.hid (fun z u w' hu h0 => lightAt1_any z u id (w.heap.size + 1) w' hu h0)
  have HIX := Lib.hid (fun (w2 : World) (hb : Below w.heap.size w w2) hp => indexFuncLgt_any (.slice a3 m3 c3) p.ls 154 (w.heap.size + 1) (fun x => x.id == id) w2 (HR3.out.behind hb) HFN.out hp)
  unfold lix
  generalize idxG p.ls (fun x => x.id == id) = R at *
  clear bx bc by1 bd r1 r2 r3 hsm hnet hs1 q2 HR3
  go_enter Tryz.func112, Tryz.ntmps112
  go_wp2_with fail
  generalize (w.alloc (.cells #[.slice a1 m1 c1, .slice a2 m2 c2, .slice a3 m3 c3] 75)).alloc (.cells #[.int .i64 id] 3) = w2 at *
  refine (HIX.out w2 HB0.out (fun i w' hi hb z u hz hu => HL1.out z u w' hu ((hb.cell bl2).trans d0))).mono ?_
  rintro e w3 ⟨rfl, b3⟩
  have HB3 := Lib.hid (HB0.out.trans (b3.mono HB0.out.size))
  clear b3
  go_wp2
  go_ret
  exact ⟨rfl, HB3.out⟩
end Go.Proofs.YtofcicomhnkocaaGreat
namespace Go.Proofs.YtofcicomhnkocaaGreat
open Go.RowKit Go.Sort
set_option maxRecDepth 100000

set_option maxHeartbeats 1600000 in
theorem l9Find_any (v : Value) (p : Pln) (id : Int) (w : World) (h : PlnR w v p) :
    Calls Tryz.prog 103 #[v, .int .i64 id] w fun e w' => e = .returned (.int .i64 (lix p id)) ∧ Below w.heap.size w w' := by
  obtain ⟨u1, u2, u3, rfl, r1, r2, r3, hsm⟩ := h
  have hnet : NetR w (.agg #[u1, u2]) p.n := ⟨u1, u2, rfl, r1, r2, hsm⟩
  obtain ⟨⟨a1, m1, c1, rfl⟩, a2, m2, c2, rfl⟩ := slice_of_net hnet
  obtain ⟨a3, m3, c3, rfl, HN3, hc3, hm3, ha3⟩ := lgt_opn r3
  have HA := Lib.hid ha3
  have HI := Lib.hid (fun k hk h e => idxG_some (zs := p.ls) (p := fun x => x.id == id) (nil := nilL) (k := k) hk h e)
  have HO := Lib.hid (idxG_none (zs := p.ls) (p := fun x => x.id == id))
  have HM := Lib.hid (fun k hk h e => anyG_more (zs := p.ls) (p := fun x => x.id == id) (nil := nilL) (k := k) hk h e)
  rw [HN3.out] at HI HM
  have HTK := Lib.hid (show p.ls.take m3 = p.ls from List.take_of_length_le (Nat.le_of_eq HN3.out))
  unfold lix
  generalize idxG p.ls (fun x => x.id == id) = r at *
  obtain ⟨bx, bc, blt, -⟩ := box_facts w #[.slice a1 m1 c1, .slice a2 m2 c2, .slice a3 m3 c3] 75
  have q2 := bc 2 _ rfl
  have HBX := Lib.hid bx
  clear bx bc ha3 r1 r2 r3 hsm hnet
  go_enter Tryz.func103, Tryz.ntmps103
  go_wp2_with fail
  generalize w.alloc (.cells #[.slice a1 m1 c1, .slice a2 m2 c2, .slice a3 m3 c3] 75) = w1 at *
  go_loopw [5] (fun i wr => ∃ k : Nat, k ≤ m3 ∧ i = .int .i64 k ∧ Hid ((p.ls.take k).any (fun x => x.id == id) = false) ∧ Hid (Below w1.heap.size w1 wr)) (fun i _ => m3 - (intOf i).toNat)
  case atStart => exact ⟨0, Nat.zero_le _, rfl, by simp [Hid], Below.refl _ _⟩
  case round =>
    obtain ⟨k, hk, rfl, HT, HB⟩ := hrel
    have t2 := (HB.out.cell (p := ⟨w.heap.size, 2, none⟩) blt).trans q2
    by_cases hlt : k < m3
    · have hltI : (k : Int) < (m3 : Int) := by omega
      obtain ⟨b, off, rfl, hbs, hcs⟩ := HA.out (by omega)
      obtain ⟨u, x0, -⟩ := hcs k hlt
      have y0 := ((HBX.out.trans (HB.out.mono HBX.out.size)).cell (p := ⟨b, off + k * 5, none⟩) hbs).trans x0
      have HIK := Lib.hid (HI.out k hlt HT.out)
      have HMK := Lib.hid (HM.out k hlt HT.out)
      clear hcs x0
      generalize p.ls[k]?.getD nilL = x at *
      by_cases he : x.id = id
      · have heb : (x.id == id) = true := by simpa using he
        have HE := Lib.hid (HIK.out heb)
        clear he
        go_wp2
        go_ret
        exact ⟨by rw [HE.out]; rfl, HBX.out.trans (HB.out.mono HBX.out.size)⟩
      · have heb : (x.id == id) = false := by simpa using he
        have HE := Lib.hid (HMK.out heb)
        clear he
        go_wp2
        go_roundw
        case rel => exact ⟨k + 1, hlt, by go_num, HE.out, HB.out⟩
        case measure => simp [intOf]; omega
    · obtain rfl : m3 = k := by omega
      have hh := HT.out
      rw [HTK.out] at hh
      have HE := Lib.hid (HO.out hh)
      clear hh
      go_wp2
      go_ret
      exact ⟨by rw [HE.out]; rfl, HBX.out.trans (HB.out.mono HBX.out.size)⟩
end Go.Proofs.YtofcicomhnkocaaGreat
namespace Go.Proofs.YtofcicomhnkocaaGreat
open Go.RowKit Go.Sort

def Apt (u v : Value) : Prop := ∀ q, u.ownBlock = some q → v.ownBlock ≠ some q
/-! ### Counting, as the reference does -/
end Go.Proofs.YtofcicomhnkocaaGreat
namespace Go.Proofs.YtofcicomhnkocaaGreat
open Go.RowKit Go.Sort
set_option maxRecDepth 100000

theorem row_kept0 {w w' : World} {base : Nat} {e : TypeId} {size : Nat} {v : Value} {n : Nat} {xs : List Value} (h : w.ownsRow base e size v n xs) (hk : ∀ g, v.ownBlock = some g → w'.heap[g]? = w.heap[g]?) : w'.ownsRow base e size v n xs := by
  refine ⟨h.1, ?_⟩
  rcases h.2 with q | ⟨g, cap, cur, rfl, q1, q2, q3⟩
  · exact .inl q
  · exact .inr ⟨g, cap, cur, rfl, q1, by rw [hk g rfl]; exact q2, q3⟩
end Go.Proofs.YtofcicomhnkocaaGreat
namespace Go.Proofs.YtofcicomhnkocaaGreat
open Go.RowKit Go.Sort
set_option maxRecDepth 100000

theorem row_form0 {w : World} {base n : Nat} {T : TypeId} {v : Value} {us : List Value} {m : Nat} (h : w.ownsRow base T m v n us) : ∃ a c, v = .slice a n c := by
  rcases h.2 with ⟨h, h2⟩ | ⟨g, cap, cur, h, _⟩
  · exact ⟨none, 0, by rw [h, h2]⟩
  · exact ⟨_, _, h⟩
def OwR (w : World) (base : Nat) (v : Value) (xs : List Int) : Prop := w.ownsRow base 3 1 v xs.length (ints xs)
theorem OwR.kept {w w' : World} {base : Nat} {v : Value} {xs : List Int} (h : OwR w base v xs) (hk : ∀ g, v.ownBlock = some g → w'.heap[g]? = w.heap[g]?) : OwR w' base v xs := row_kept0 h hk
theorem OwR.lt {w : World} {base : Nat} {v : Value} {xs : List Int} (h : OwR w base v xs) : ∀ g, v.ownBlock = some g → base ≤ g ∧ g < w.heap.size := World.ownsRow.lt h
theorem OwR.own {w : World} {base : Nat} {v : Value} {xs : List Int} (h : OwR w base v xs) : Own w base v xs := own_of_row h
theorem OwR.below {w w' : World} {base : Nat} {v : Value} {xs : List Int} (h : OwR w base v xs) (hb : Below w.heap.size w w') : OwR w' base v xs := h.kept fun g hg => hb.block g (h.lt g hg).2
theorem OwR.base {w : World} {base base' : Nat} {v : Value} {xs : List Int} (h : OwR w base v xs) (hb : base' ≤ base) : OwR w base' v xs :=
  ⟨h.1, h.2.imp id fun ⟨g, cap, cur, k1, k2, k3⟩ => ⟨g, cap, cur, k1, Nat.le_trans hb k2, k3⟩⟩
theorem OwR.oth {w : World} {base b j : Nat} {v u : Value} {xs : List Int} (h : OwR w base v xs) (hb : ∀ k, v.ownBlock = some k → k ≠ b) : OwR (w.setCell ⟨b, j, none⟩ u) base v xs :=
  h.kept fun k hk => heap_setCell_other w ⟨b, j, none⟩ k u (hb k hk)
section
variable {b0 : Nat} {n : Net} {w wr w' : World} {B K K' b6 : Nat} {c u1 u2 v sv : Value} {st : Int} {xs sn : List Int}
end
end Go.Proofs.YtofcicomhnkocaaGreat
namespace Go.Proofs.YtofcicomhnkocaaGreat
open Go.RowKit Go.Sort
set_option maxRecDepth 100000

theorem Tryz.infoStrD : (Tryz.prog.info? 9).map (fun i => (i.zero, i.size, i.bytes)) = some (some (.string ⟨#[]⟩), 1, 16) := by kernel_rfl
section
variable {W w5 : World} {X : Obj} {T : TypeId} {m : Nat}
theorem mk_kept3 (g : ((W.drew.alloc X).alloc (.cells #[] T)).grownBy w5 (some W.heap.size)) : w5.ownsRow W.heap.size T m (.slice (some ⟨W.heap.size + 1, 0, none⟩) 0 0) 0 [] :=
  row_kept0 row_made3 fun q hq => g.block q (World.ownsRow.lt (row_made3 (X := X) (T := T) (m := m)) q hq).2 fun e => by
    have h1 : W.heap.size + 1 = q := Option.some.inj hq
    have h2 := Option.some.inj e
    omega
theorem mk_kept2 (g : ((W.drew.alloc (.cells #[] T)).alloc X).grownBy w5 (some (W.heap.size + 1))) : w5.ownsRow W.heap.size T m (.slice (some ⟨W.heap.size, 0, none⟩) 0 0) 0 [] :=
  row_kept0 row_made2 fun q hq => g.block q (World.ownsRow.lt (row_made2 (X := X) (T := T) (m := m)) q hq).2 fun e => by
    have h1 : W.heap.size = q := Option.some.inj hq
    have h2 := Option.some.inj e
    omega
end
theorem two_rows {w5 wA w10 : World} {base s3 b3 b7 m1 n1 : Nat} {T1 : TypeId} {us1 : List Value} {v5 v10 : Value} (o5 : w5.ownsRow base T1 m1 v5 n1 us1) (hA : Below w5.heap.size w5 wA) (g10 : wA.grownBy w10 (some b7)) (l10 : v10.ownBlock = some b7 ∨ v10.ownBlock = some wA.heap.size) (l5 : v5.ownBlock = some b3 ∨ v5.ownBlock = some s3) (hd : (b3 ≠ b7 ∧ s3 ≠ b7) ∨ w5.heap.size ≤ b7) : w10.ownsRow base T1 m1 v5 n1 us1 ∧ Apt v5 v10 := by
  have hlt := fun q hq => (World.ownsRow.lt o5 q hq).2
  have hne : ∀ q, v5.ownBlock = some q → q ≠ b7 := fun q hq => by
    have h1 := hlt q hq
    rcases hd with ⟨h2, h3⟩ | h2
    · rcases l5 with l | l
      · rw [l] at hq; have := Option.some.inj hq; omega
      · rw [l] at hq; have := Option.some.inj hq; omega
    · omega
  refine ⟨row_kept0 o5 fun q hq => (g10.block q (Nat.lt_of_lt_of_le (hlt q hq) hA.size) fun e => hne q hq (Option.some.inj e)).trans (hA.block q (hlt q hq)), fun q hq e => ?_⟩
  rcases l10 with l | l
  · rw [l] at e; exact hne q hq (Option.some.inj e).symm
  · rw [l] at e
    have h1 := Option.some.inj e
    have h2 := hlt q hq
    have h3 := hA.size
    omega
end Go.Proofs.YtofcicomhnkocaaGreat
