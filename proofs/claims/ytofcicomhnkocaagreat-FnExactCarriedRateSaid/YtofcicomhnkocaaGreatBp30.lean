/- Walks: the rate that a planning carries, both. -/
import Derived.Test.YtofcicomhnkocaaGreatBp29
set_option linter.unusedVariables false
namespace Go.Proofs.YtofcicomhnkocaaGreat
open Go.RowKit Go.Sort
set_option maxRecDepth 100000

def carX (g : Gro) : Int := g.d.r * (g.e - g.s + 1)
def carS (bl : List Int) (gs : List Gro) : Nat → Int
  | 0 => 0
  | k + 1 => if bl.contains (k : Int) then carS bl gs k else carS bl gs k + carX (gwA gs k)
theorem GrsP.bd {n : Net} {gs : List Gro} (h : GrsP n gs) {k : Nat} (hk : k < gs.length) : 1 ≤ (gwA gs k).d.r ∧ (gwA gs k).d.r ≤ 1000 ∧ 0 ≤ (gwA gs k).s ∧ (gwA gs k).s ≤ (gwA gs k).e ∧ (gwA gs k).e < 8 := by
  obtain ⟨h1, h2, h3, h4⟩ := h.2 k hk
  unfold demOk inB at h1
  simp only [Bool.and_eq_true, decide_eq_true_eq] at h1
  omega
theorem carX_bd {g : Gro} (h : 1 ≤ g.d.r ∧ g.d.r ≤ 1000 ∧ 0 ≤ g.s ∧ g.s ≤ g.e ∧ g.e < 8) : 0 ≤ carX g ∧ carX g ≤ 8000 := by
  unfold carX
  constructor
  · exact Int.mul_nonneg (by omega) (by omega)
  · have := Int.mul_le_mul (a := g.d.r) (c := 1000) (b := g.e - g.s + 1) (d := 8) (by omega) (by omega) (by omega) (by omega)
    omega
theorem carS_bd {n : Net} {gs : List Gro} (h : GrsP n gs) (bl : List Int) : ∀ k, k ≤ gs.length → 0 ≤ carS bl gs k ∧ carS bl gs k ≤ 8000 * (k : Int)
  | 0, _ => by simp [carS]
  | k + 1, hk => by
    have h1 := carS_bd h bl k (by omega)
    have h2 := carX_bd (h.bd (k := k) (by omega))
    rw [carS]
    split <;> omega
def planC (n : Net) (fs : List Fmt) (gs : List Gro) : Int := if planK n fs gs then carS (planB n fs gs) gs gs.length else 0
def CarP (n : Net) (fs : List Fmt) (gs : List Gro) (w : World) (e : Ending) (w' : World) : Prop := e = .returned (.tuple #[.int .i64 (planC n fs gs), .bool (planK n fs gs)]) ∧ Below w.heap.size w w'
theorem car_step {n : Net} {gs : List Gro} (h : GrsP n gs) (bl : List Int) {k : Nat} (hk : k < gs.length) : (∃ d d1 x s', IntKind.i64.wrap ((gwA gs k).e - (gwA gs k).s) = d ∧ wrap64 ((gwA gs k).e - (gwA gs k).s) = d ∧ IntKind.i64.wrap (d + 1) = d1 ∧ wrap64 (d + 1) = d1 ∧ IntKind.i64.wrap ((gwA gs k).d.r * d1) = x ∧ wrap64 ((gwA gs k).d.r * d1) = x ∧ IntKind.i64.wrap (carS bl gs k + x) = s' ∧ wrap64 (carS bl gs k + x) = s' ∧ Hid (bl.contains (k : Int) = false → carS bl gs (k + 1) = s')) ∧ Hid (bl.contains (k : Int) = true → carS bl gs (k + 1) = carS bl gs k) := by
  have h0 := h.1
  have h1 := carS_bd h bl k (by omega)
  have hb := h.bd (k := k) hk
  have h2 := carX_bd hb
  refine ⟨⟨(gwA gs k).e - (gwA gs k).s, (gwA gs k).e - (gwA gs k).s + 1, carX (gwA gs k), carS bl gs k + carX (gwA gs k), ?_, ?_, ?_, ?_, ?_, ?_, ?_, ?_, ?_⟩, ?_⟩
  · exact IntWalk.i64_in _ (by omega)
  · exact IntWalk.wrap64_in _ (by omega)
  · exact IntWalk.i64_in _ (by omega)
  · exact IntWalk.wrap64_in _ (by omega)
  · exact IntWalk.i64_in _ (by unfold carX at h2; omega)
  · exact IntWalk.wrap64_in _ (by unfold carX at h2; omega)
  · exact IntWalk.i64_in _ (by omega)
  · exact IntWalk.wrap64_in _ (by omega)
  · exact fun e => by rw [carS, e]; rfl
  · exact fun e => by rw [carS, e]; rfl
set_option maxHeartbeats 3200000 in
theorem implCarried_any (v vf vg : Value) (n : Net) (fs : List Fmt) (gs : List Gro) (w : World) (h : NetR w v n) (hf : Rdt w (flt 2 fmE fs) vf) (hg : Rdt w (flt 6 groE gs) vg) :
    Calls Tryz.prog 19 #[v, vf, vg] w (CarP n fs gs w) := by
  obtain ⟨NP, hNP⟩ : ∃ NP, NP = CarP n fs gs w := ⟨_, rfl⟩
  rw [← hNP]
  have HNP := Lib.hid hNP
  have HP := Lib.hid (fun w' (hb : Below w.heap.size w w') => planned_n v vf vg n fs gs w' (h.behind hb) (hf.behind hb) (hg.behind hb))
  have hnet := h
  obtain ⟨u1, u2, rfl, -, -, -⟩ := h
  obtain ⟨⟨a1, m1, c1, rfl⟩, a2, m2, c2, rfl⟩ := slice_of_net hnet
  obtain ⟨af, mf, cf, rfl, -, -, -, -⟩ := flt_opn (m := 2) (enc := fmE) (fun _ => rfl) (by omega) nilFm hf
  obtain ⟨ag, mg, cg, rfl, HGN, hcg, hmg, hag⟩ := flt_opn (m := 6) (enc := groE) (fun _ => rfl) (by omega) nilG hg
  have HAG := Lib.hid hag
  have HB1 := Lib.hid ((Below.refl w.heap.size w).alloc (Nat.le_refl _) (.cells #[.slice a1 m1 c1, .slice a2 m2 c2] 35))
  clear hnet hf hg hNP hag
  go_enter Tryz.func19, Tryz.ntmps19
  go_wp2_with fail
  generalize w.alloc (.cells #[.slice a1 m1 c1, .slice a2 m2 c2] 35) = w1 at *
  refine (HP.out w1 HB1.out).mono ?_
  rintro e w2 ⟨b2, aw, ms, cs, a, m, c, rfl, hpl, hno⟩
  have HB2 := Lib.hid (HB1.out.trans (b2.mono HB1.out.size))
  cases hO : planO n fs gs with
  | none =>
    have HE := Lib.hid (planB_no hO)
    rw [HE.out.2]
    clear b2 hpl hO hno
    go_wp2
    rw [HNP.out]
    exact ⟨by unfold planC; rw [HE.out.2]; rfl, HB2.out⟩
  | some x =>
    have HE := Lib.hid (planB_of hO).2.2
    have HG := Lib.hid (planO_some hO).2.2.1
    have HO := Lib.hid ((hpl x.1 x.2 hO).2.1.rd)
    have HRES := Lib.hid (show planC n fs gs = carS (planB n fs gs) gs gs.length by unfold planC; rw [HE.out]; rfl)
    rw [HE.out]
    clear b2 hpl hO hno
    generalize planB n fs gs = B at *
    have HC := Lib.hid (fun k w' (hb : Below w2.heap.size w2 w') => containsI_any (.slice a m c) B k w' (HO.out.belowAll hb))
    go_wp2_with fail
    go_loopw [11, 26] (fun s11 i wr => ∃ k : Nat, k ≤ mg ∧ i = .int .i64 k ∧ s11 = .int .i64 (carS B gs k) ∧ Hid (Below w2.heap.size w2 wr)) (fun _ i _ => mg - (intOf i).toNat)
    case atStart => exact ⟨0, by omega, rfl, rfl, Below.refl _ _⟩
    case round =>
      obtain ⟨k, hk, rfl, rfl, HB⟩ := hrel
      by_cases hlt : k < mg
      · have hltI : (k : Int) < (mg : Int) := by omega
        obtain ⟨b, off, rfl, hbs, hcs⟩ := HAG.out (by omega)
        have HBE := Lib.hid (HB2.out.trans (HB.out.mono HB2.out.size))
        have hcw := fun (r : Nat) (u : Value) (hu : (groE (gs[k]?.getD nilG))[r]? = some u) => (HBE.out.cell (p := ⟨b, off + k * 6 + r, none⟩) hbs).trans (hcs k hlt r u hu)
        have c0 := hcw 0 _ rfl
        have c1 := hcw 1 _ rfl
        have c2 := hcw 2 _ rfl
        have c3 := hcw 3 _ rfl
        have c4 := hcw 4 _ rfl
        have c5 := hcw 5 _ rfl
        simp only [Nat.add_zero] at c0
        obtain ⟨⟨d, d1, x, s', e1, e2, e3, e4, e5, e6, e7, e8, HS1⟩, HS2⟩ := car_step HG.out B (k := k) (by rw [HGN.out]; exact hlt)
        have HC1 := Lib.hid (fun w' (hb : Below wr.heap.size wr w') => HC.out (k : Int) w' (HB.out.trans (hb.mono HB.out.size)))
        obtain ⟨S, hS⟩ : ∃ S, S = carS B gs k := ⟨_, rfl⟩
        rw [← hS] at e7 e8 HS2 ⊢
        clear hcw hcs hS
        unfold gwA at e1 e2 e5 e6
        generalize gs[k]?.getD nilG = g at *
        go_upto_region 8 with fail
        have n2' := heap_alloc_new wr (.cells #[.int .i64 g.d.a, .int .i64 g.d.b, .int .i64 g.d.r, .int .i64 g.d.c, .int .i64 g.s, .int .i64 g.e] 55)
        have HB5 := Lib.hid ((Below.refl wr.heap.size wr).alloc (Nat.le_refl _) (.cells #[.int .i64 g.d.a, .int .i64 g.d.b, .int .i64 g.d.r, .int .i64 g.d.c, .int .i64 g.s, .int .i64 g.e] 55))
        obtain ⟨bq, hbq⟩ : ∃ bq, bq = wr.heap.size := ⟨_, rfl⟩
        rw [← hbq] at n2' ⊢
        clear hbq
        have HX5 := Lib.hid n2'
        clear n2' c0 c1 c2 c3 c4 c5
        generalize wr.alloc (.cells #[.int .i64 g.d.a, .int .i64 g.d.b, .int .i64 g.d.r, .int .i64 g.d.c, .int .i64 g.s, .int .i64 g.e] 55) = w5 at *
        have HB6 := Lib.hid (HB.out.trans (HB5.out.mono HB.out.size))
        have HC2 := Lib.hid (HC1.out w5 HB5.out)
        have z2 := blkc HX5.out (j := 2) (u := .int .i64 g.d.r) rfl
        have z4 := blkc HX5.out (j := 4) (u := .int .i64 g.s) rfl
        have z5 := blkc HX5.out (j := 5) (u := .int .i64 g.e) rfl
        generalize B.contains (k : Int) = q at *
        cases q with
        | false =>
          have HE1 := Lib.hid (HS1.out rfl)
          go_wp2_with (go_at_call 65; refine HC2.out.mono ?_; rintro e w' ⟨rfl, rfl⟩)
          go_roundw
          case rel => exact ⟨k + 1, by omega, by go_num, by rw [HE1.out], HB6.out⟩
          case measure => simp [intOf]; omega
        | true =>
          have HE1 := Lib.hid (HS2.out rfl)
          go_wp2_with (go_at_call 65; refine HC2.out.mono ?_; rintro e w' ⟨rfl, rfl⟩)
          go_roundw
          case rel => exact ⟨k + 1, by omega, by go_num, by rw [HE1.out], HB6.out⟩
          case measure => simp [intOf]; omega
      · obtain rfl : k = mg := by omega
        rw [HGN.out] at HRES
        generalize carS B gs k = S at *
        go_wp2_with fail
        rw [HNP.out]
        exact ⟨by rw [HRES.out, HE.out]; rfl, HB2.out.trans (HB.out.mono HB2.out.size)⟩
set_option maxHeartbeats 3200000 in
theorem specCarried_any (v vf vg : Value) (n : Net) (fs : List Fmt) (gs : List Gro) (w : World) (h : NetR w v n) (hf : Rdt w (flt 2 fmE fs) vf) (hg : Rdt w (flt 6 groE gs) vg) :
    Calls Tryz.prog 15 #[v, vf, vg] w (CarP n fs gs w) := by
  obtain ⟨NP, hNP⟩ : ∃ NP, NP = CarP n fs gs w := ⟨_, rfl⟩
  rw [← hNP]
  have HNP := Lib.hid hNP
  have HP := Lib.hid (fun w' (hb : Below w.heap.size w w') => l26Plan_n v vf vg n fs gs w' (h.behind hb) (hf.behind hb) (hg.behind hb))
  have hnet := h
  obtain ⟨u1, u2, rfl, -, -, -⟩ := h
  obtain ⟨⟨a1, m1, c1, rfl⟩, a2, m2, c2, rfl⟩ := slice_of_net hnet
  obtain ⟨af, mf, cf, rfl, -, -, -, -⟩ := flt_opn (m := 2) (enc := fmE) (fun _ => rfl) (by omega) nilFm hf
  obtain ⟨ag, mg, cg, rfl, HGN, hcg, hmg, hag⟩ := flt_opn (m := 6) (enc := groE) (fun _ => rfl) (by omega) nilG hg
  have HAG := Lib.hid hag
  have HB1 := Lib.hid ((Below.refl w.heap.size w).alloc (Nat.le_refl _) (.cells #[.slice a1 m1 c1, .slice a2 m2 c2] 35))
  clear hnet hf hg hNP hag
  go_enter Tryz.func15, Tryz.ntmps15
  go_wp2_with fail
  generalize w.alloc (.cells #[.slice a1 m1 c1, .slice a2 m2 c2] 35) = w1 at *
  refine (HP.out w1 HB1.out).mono ?_
  rintro e w2 ⟨b2, aw, ms, cs, a, m, c, rfl, hpl⟩
  have HB2 := Lib.hid (HB1.out.trans (b2.mono HB1.out.size))
  have HB3 := Lib.hid ((Below.refl w2.heap.size w2).alloc (Nat.le_refl _) (.cells #[.slice aw ms cs, .slice a m c] 95))
  have HX3 := Lib.hid (heap_alloc_new w2 (.cells #[.slice aw ms cs, .slice a m c] 95))
  cases hO : planO n fs gs with
  | none =>
    have HE := Lib.hid (planB_no hO)
    rw [HE.out.2]
    clear b2 hpl hO
    go_wp2
    rw [HNP.out]
    exact ⟨by unfold planC; rw [HE.out.2]; rfl, HB2.out.trans (HB3.out.mono HB2.out.size)⟩
  | some x =>
    have HE := Lib.hid (planB_of hO).2.2
    have HG := Lib.hid (planO_some hO).2.2.1
    have HO := Lib.hid ((hpl x.1 x.2 hO).2.1.rd.belowAll HB3.out)
    have HRES := Lib.hid (show planC n fs gs = carS (planB n fs gs) gs gs.length by unfold planC; rw [HE.out]; rfl)
    have HB4 := Lib.hid (HB2.out.trans (HB3.out.mono HB2.out.size))
    rw [HE.out]
    clear b2 hpl hO
    generalize planB n fs gs = B at *
    go_upto_region 2 with fail
    obtain ⟨bq, hbq⟩ : ∃ bq, bq = w2.heap.size := ⟨_, rfl⟩
    rw [← hbq] at HX3 ⊢
    clear hbq
    generalize w2.alloc (.cells #[.slice aw ms cs, .slice a m c] 95) = w3 at *
    have HC := Lib.hid (fun k w' (hb : Below w3.heap.size w3 w') => l1Has_any (.slice a m c) B k w' (HO.out.belowAll hb))
    go_wp2_with fail
    go_loopw [10, 11] (fun s10 i wr => ∃ k : Nat, k ≤ mg ∧ i = .int .i64 k ∧ s10 = .int .i64 (carS B gs k) ∧ Hid (Below w3.heap.size w3 wr)) (fun _ i _ => mg - (intOf i).toNat)
    case atStart => exact ⟨0, by omega, rfl, rfl, Below.refl _ _⟩
    case round =>
      obtain ⟨k, hk, rfl, rfl, HB⟩ := hrel
      by_cases hlt : k < mg
      · have hltI : (k : Int) < (mg : Int) := by omega
        obtain ⟨b, off, rfl, hbs, hcs⟩ := HAG.out (by omega)
        have HBE := Lib.hid (HB4.out.trans (HB.out.mono HB4.out.size))
        have hcw := fun (r : Nat) (u : Value) (hu : (groE (gs[k]?.getD nilG))[r]? = some u) => (HBE.out.cell (p := ⟨b, off + k * 6 + r, none⟩) hbs).trans (hcs k hlt r u hu)
        have c2 := hcw 2 _ rfl
        have c4 := hcw 4 _ rfl
        have c5 := hcw 5 _ rfl
        have z1 := blkc (kept_o' HX3.out HB.out) (j := 1) (u := .slice a m c) rfl
        obtain ⟨⟨d, d1, x, s', e1, e2, e3, e4, e5, e6, e7, e8, HS1⟩, HS2⟩ := car_step HG.out B (k := k) (by rw [HGN.out]; exact hlt)
        have HC2 := Lib.hid (HC.out (k : Int) wr HB.out)
        obtain ⟨S, hS⟩ : ∃ S, S = carS B gs k := ⟨_, rfl⟩
        rw [← hS] at e7 e8 HS2 ⊢
        clear hcw hcs hS
        unfold gwA at e1 e2 e5 e6
        generalize gs[k]?.getD nilG = g at *
        generalize B.contains (k : Int) = q at *
        cases q with
        | false =>
          have HE1 := Lib.hid (HS1.out rfl)
          go_wp2_with (go_at_call 59; refine HC2.out.mono ?_; rintro e w' ⟨rfl, rfl⟩)
          go_quiet (fail)
          rename_i nq
          have HB7 := Lib.hid (bel_drN HB.out nq)
          generalize wr.drewN nq = w7 at *
          go_wp2_with fail
          go_roundw
          case rel => exact ⟨k + 1, by omega, by go_num, by rw [HE1.out], HB7.out⟩
          case measure => simp [intOf]; omega
        | true =>
          have HE1 := Lib.hid (HS2.out rfl)
          go_wp2_with (go_at_call 59; refine HC2.out.mono ?_; rintro e w' ⟨rfl, rfl⟩)
          go_roundw
          case rel => exact ⟨k + 1, by omega, by go_num, by rw [HE1.out], HB.out⟩
          case measure => simp [intOf]; omega
      · have hltI : ¬ (k : Int) < (mg : Int) := by omega
        obtain rfl : k = mg := by omega
        rw [HGN.out] at HRES
        generalize carS B gs k = S at *
        go_wp2_with fail
        rw [HNP.out]
        exact ⟨by rw [HRES.out, HE.out], HB4.out.trans (HB.out.mono HB4.out.size)⟩
end Go.Proofs.YtofcicomhnkocaaGreat
