/- The law FnExactProbableCauses. (The law's walk is printed by genexact.py.) -/
import Derived.Test.YtmkkdenhjfjmgaaGreatBz22
import Derived.Test.YtmkkdenhjfjmgaaGreatBz13
import Derived.Test.YtmkkdenhjfjmgaaGreatBz11
namespace Go.Proofs.YtmkkdenhjfjmgaaGreat
open Go.RowKit Go.Sort
set_option maxRecDepth 100000

set_option maxHeartbeats 6400000 in
theorem FnExactProbableCauses_walk (vp : Value) (p : Pln) (vzs : Value) (zs : List Alm) (g : Int) (w : World) (hp : PlnW w vp p) (hzs : Rwt w (flt 2 almE zs) vzs) :
    Calls Tryz.prog 13 #[vp, vzs, .int .i64 g] w fun e w' => e = .returned (.bool true) ∧ Below w.heap.size w w' := by
  have HWp := Lib.hid (fun wx (hb : Below w.heap.size w wx) => hp.behind hb)
  have hsm0p : ∀ i : Nat, (nmA p.n i).size ≤ totS p.n.ns := fun i => totS_mem p.n.ns i
  have hlm0p : ∀ i : Nat, (lgA p i).fb.length ≤ totL p.ls := fun i => totL_mem p.ls i
  obtain ⟨ap1, ap2, ap3, evp⟩ : ∃ u1 u2 u3, vp = .agg #[u1, u2, u3] := by obtain ⟨u1, u2, u3, e, _⟩ := hp; exact ⟨u1, u2, u3, e⟩
  subst evp
  clear hp
  have HWzs := Lib.hid (fun wx (hb : Below w.heap.size w wx) => hzs.behind hb)
  clear hzs
  have b0 := Below.refl w.heap.size w
  have b1 := b0.alloc b0.size (.cells #[ap1, ap2, ap3] 28)
  have kap := heap_alloc_new w (.cells #[ap1, ap2, ap3] 28)
  have HAp := Lib.hid kap
  have hz0 : (w.alloc (.cells #[ap1, ap2, ap3] 28)).heap.size = w.heap.size + 1 := by simp
  have B0 := Lib.hid b1
  have SZ0 := Lib.hid hz0
  clear hz0 b0 b1 kap
  go_enter Tryz.func13, Tryz.ntmps13
  go_wp2_with fail
  generalize (w.alloc (.cells #[ap1, ap2, ap3] 28)) = w0 at *
  refine (szPlan_any _ p 1048576 _ (HWp.out _ B0.out) (by omega) (by omega)).mono ?_
  unfold SzQ
  rintro e w1 ⟨r0, rfl, b, hr0⟩
  have B1 := Lib.hid (B0.out.trans (b.mono B0.out.size))
  have SZ1 := Lib.hid b.size
  have HAp := Lib.hid (kept_o' HAp.out b)
  clear b
  by_cases hneg0 : r0 < 0
  · have hnb : decide (r0 < 0) = true := decide_eq_true hneg0
    clear hr0
    go_wp2
    go_ret
    exact ⟨rfl, B1.out⟩
  have hnb0 : decide (r0 < 0) = false := decide_eq_false hneg0
  have hq0 : ((szP p : Nat) : Int) ≤ 1048576 := by omega
  have hrp0 : 0 ≤ r0 := by omega
  have hrb0 : r0 ≤ 1048576 := by omega
  clear hr0
  go_wp2_with fail
  refine (szAlarmS_Q vzs zs r0 _ (HWzs.out _ B1.out) (by omega) (by omega)).mono ?_
  unfold SzQ
  rintro e w2 ⟨r1, rfl, b, hr1⟩
  have B2 := Lib.hid (B1.out.trans (b.mono B1.out.size))
  have SZ2 := Lib.hid b.size
  have HAp := Lib.hid (kept_o' HAp.out b)
  clear b
  by_cases hneg1 : r1 < 0
  · have hnb : decide (r1 < 0) = true := decide_eq_true hneg1
    clear hr1
    go_wp2
    go_ret
    exact ⟨rfl, B2.out⟩
  have hnb1 : decide (r1 < 0) = false := decide_eq_false hneg1
  have hq1 : ((zs.length : Nat) : Int) ≤ r0 := by omega
  have hrp1 : 0 ≤ r1 := by omega
  have hrb1 : r1 ≤ 1048576 := by omega
  clear hr1
  have HZp := Lib.hid (show p.n.ns.length ≤ 1048576 ∧ p.n.fs.length ≤ 1048576 ∧ NetSm p.n ∧ p.ls.length ≤ 1048576 ∧ (∀ i : Nat, (lgA p i).fb.length ≤ 1048576) ∧ totL p.ls ≤ 1048576 from ⟨by have : szP p = p.n.ns.length + totS p.n.ns + p.n.fs.length + (p.ls.length + totL p.ls) := rfl; omega, by have : szP p = p.n.ns.length + totS p.n.ns + p.n.fs.length + (p.ls.length + totL p.ls) := rfl; omega, fun i => Nat.le_trans (hsm0p i) (by have : szP p = p.n.ns.length + totS p.n.ns + p.n.fs.length + (p.ls.length + totL p.ls) := rfl; omega), by have : szP p = p.n.ns.length + totS p.n.ns + p.n.fs.length + (p.ls.length + totL p.ls) := rfl; omega, fun i => Nat.le_trans (hlm0p i) (by have : szP p = p.n.ns.length + totS p.n.ns + p.n.fs.length + (p.ls.length + totL p.ls) := rfl; omega), by have : szP p = p.n.ns.length + totS p.n.ns + p.n.fs.length + (p.ls.length + totL p.ls) := rfl; omega⟩)
  have HZzs := Lib.hid (show zs.length ≤ 1048576 ∧ True from ⟨by omega, trivial⟩)
  have HTOp := Lib.hid (fun wx (hb : Below w.heap.size w wx) => toPlan_any _ p wx (HWp.out _ hb) (HZp.out).1 (HZp.out).2.1 (HZp.out).2.2.2.1 (HZp.out).2.2.2.2.1)
  have HTOzs := Lib.hid (fun wx (hb : Below w.heap.size w wx) => toAlarmS_P vzs zs wx (HWzs.out _ hb) (HZzs.out).1)
  clear hq1
  clear hq0
  have hfb : ∀ i : Nat, (lgA p i).fb.length ≤ 1100000 := fun i => Nat.le_trans ((HZp.out).2.2.2.2.1 i) (by omega)
  have HRL := Lib.hid (@pcR_tot p zs g)
  have hsp := fun v u wx h h1 => specPrb_any v u p zs g wx h h1 hfb
  have him := fun v u wx h h1 => implPrb_any v u p zs g wx h h1 hfb
  unfold PcP at hsp him
  have HSP := Lib.hid hsp
  have HIM := Lib.hid him
  clear hsp him hfb
  generalize pcR p zs g = R at *
  generalize pcOk p zs g = ok at *
  have hne1 : (ok != ok) = false := by simp
  have c_p_0 := blkc HAp.out (j := 0) (u := ap1) rfl
  have c_p_1 := blkc HAp.out (j := 1) (u := ap2) rfl
  have c_p_2 := blkc HAp.out (j := 2) (u := ap3) rfl
  go_wp2_with fail
  clear c_p_0 c_p_1 c_p_2
  refine (HTOp.out _ B2.out).mono ?_
  unfold ToP
  rintro e w3 ⟨t1, f1, rfl, o1, n1, g1, b⟩
  have B3 := Lib.hid (B2.out.trans (b.mono B2.out.size))
  have SZ3 := Lib.hid b.size
  have HAp := Lib.hid (kept_o' HAp.out b)
  obtain ⟨t1a0, t1n0, t1c0, t1a1, t1n1, t1c1, t1a2, t1n2, t1c2, rfl⟩ := o1.form
  have O1 := Lib.hid o1
  have HI1 := Lib.hid o1.lt
  have LO1 := Lib.hid g1
  have ND1 := Lib.hid n1
  clear b o1 g1 n1
  go_wp2_with fail
  refine (HTOzs.out _ B3.out).mono ?_
  unfold ToP
  rintro e w4 ⟨t2, f2, rfl, o2, n2, g2, b⟩
  have B4 := Lib.hid (B3.out.trans (b.mono B3.out.size))
  have SZ4 := Lib.hid b.size
  have O1 := Lib.hid (O1.out.behind b)
  have HAp := Lib.hid (kept_o' HAp.out b)
  have O2 := Lib.hid o2
  have HI2 := Lib.hid o2.lt
  have LO2 := Lib.hid g2
  have ND2 := Lib.hid n2
  clear b o2 g2 n2
  go_wp2_with fail
  refine (HSP.out _ _ _ (O1.out.rd (HZp.out).2.2.1) O2.out.rd).mono ?_
  rintro e w5 ⟨y1_0, rfl, o1_0, b⟩
  obtain ⟨f3, u3, n3, g3⟩ := o1_0.open
  have B5 := Lib.hid (B4.out.trans (b.mono B4.out.size))
  have SZ5 := Lib.hid b.size
  have O1 := Lib.hid (O1.out.behind b)
  have O2 := Lib.hid (O2.out.behind b)
  have HAp := Lib.hid (kept_o' HAp.out b)
  have O3 := Lib.hid u3
  have HI3 := Lib.hid (fun k hk => (g3 k hk).2)
  have LO3 := Lib.hid (fun k hk => (g3 k hk).1)
  have ND3 := Lib.hid n3
  clear b u3 n3 g3 o1_0
  have c_p_0 := blkc HAp.out (j := 0) (u := ap1) rfl
  have c_p_1 := blkc HAp.out (j := 1) (u := ap2) rfl
  have c_p_2 := blkc HAp.out (j := 2) (u := ap3) rfl
  go_wp2_with fail
  clear c_p_0 c_p_1 c_p_2
  refine (HTOp.out _ B5.out).mono ?_
  unfold ToP
  rintro e w6 ⟨t4, f4, rfl, o4, n4, g4, b⟩
  have B6 := Lib.hid (B5.out.trans (b.mono B5.out.size))
  have SZ6 := Lib.hid b.size
  have O3 := Lib.hid (O3.out.behind b)
  have HAp := Lib.hid (kept_o' HAp.out b)
  obtain ⟨t4a0, t4n0, t4c0, t4a1, t4n1, t4c1, t4a2, t4n2, t4c2, rfl⟩ := o4.form
  have O4 := Lib.hid o4
  have HI4 := Lib.hid o4.lt
  have LO4 := Lib.hid g4
  have ND4 := Lib.hid n4
  clear b o4 g4 n4
  have c_p_0 := blkc HAp.out (j := 0) (u := ap1) rfl
  have c_p_1 := blkc HAp.out (j := 1) (u := ap2) rfl
  have c_p_2 := blkc HAp.out (j := 2) (u := ap3) rfl
  have ne_p : ¬ w.heap.size = w6.heap.size := by have h1 := (Array.getElem?_eq_some_iff.1 HAp.out).1; omega
  have b := (Below.refl w6.heap.size w6).alloc (Nat.le_refl _) (.cells #[(.slice t4a0 t4n0 t4c0), (.slice t4a1 t4n1 t4c1), (.slice t4a2 t4n2 t4c2)] 38)
  have kxp := heap_alloc_new w6 (.cells #[(.slice t4a0 t4n0 t4c0), (.slice t4a1 t4n1 t4c1), (.slice t4a2 t4n2 t4c2)] 38)
  have sx := (show w6.heap.size < (w6.alloc (.cells #[(.slice t4a0 t4n0 t4c0), (.slice t4a1 t4n1 t4c1), (.slice t4a2 t4n2 t4c2)] 38)).heap.size by simp)
  have NL3xp := Lib.hid (show ¬ (w6.heap.size ∈ f3) from fun hk => by have h1 := HI3.out _ hk; have s6 := SZ6.out; omega)
  have NL4xp := Lib.hid (show ¬ (w6.heap.size ∈ f4) from fun hk => by have h1 := HI4.out _ hk; skip; omega)
  have B7 := Lib.hid (B6.out.trans (b.mono B6.out.size))
  have SZ7 := Lib.hid b.size
  have O3 := Lib.hid (O3.out.behind b)
  have O4 := Lib.hid (O4.out.behind b)
  have HAp := Lib.hid (kept_o' HAp.out b)
  have HXp := Lib.hid kxp
  have SZX6 := Lib.hid sx
  clear b kxp sx
  go_wp2_with fail
  clear c_p_0 c_p_1 c_p_2 ne_p
  generalize w6.alloc (.cells #[(.slice t4a0 t4n0 t4c0), (.slice t4a1 t4n1 t4c1), (.slice t4a2 t4n2 t4c2)] 38) = w7 at *
  refine (HTOzs.out _ B7.out).mono ?_
  unfold ToP
  rintro e w8 ⟨t5, f5, rfl, o5, n5, g5, b⟩
  have B8 := Lib.hid (B7.out.trans (b.mono B7.out.size))
  have SZ8 := Lib.hid b.size
  have O3 := Lib.hid (O3.out.behind b)
  have O4 := Lib.hid (O4.out.behind b)
  have HAp := Lib.hid (kept_o' HAp.out b)
  have HXp := Lib.hid (kept_o' HXp.out b)
  have O5 := Lib.hid o5
  have HI5 := Lib.hid o5.lt
  have LO5 := Lib.hid g5
  have ND5 := Lib.hid n5
  clear b o5 g5 n5
  have NL5xp := Lib.hid (show ¬ (w6.heap.size ∈ f5) from fun hk => by have h1 := LO5.out _ hk; have sx := SZX6.out; skip; omega)
  have c_xp_0 := blkc HXp.out (j := 0) (u := (.slice t4a0 t4n0 t4c0)) rfl
  have c_xp_1 := blkc HXp.out (j := 1) (u := (.slice t4a1 t4n1 t4c1)) rfl
  have c_xp_2 := blkc HXp.out (j := 2) (u := (.slice t4a2 t4n2 t4c2)) rfl
  go_wp2_with fail
  clear c_xp_0 c_xp_1 c_xp_2
  refine (HIM.out _ _ _ (O4.out.rd (HZp.out).2.2.1) O5.out.rd).mono ?_
  rintro e w9 ⟨y2_0, rfl, o2_0, b⟩
  obtain ⟨f6, u6, n6, g6⟩ := o2_0.open
  have B9 := Lib.hid (B8.out.trans (b.mono B8.out.size))
  have SZ9 := Lib.hid b.size
  have O3 := Lib.hid (O3.out.behind b)
  have O4 := Lib.hid (O4.out.behind b)
  have O5 := Lib.hid (O5.out.behind b)
  have HAp := Lib.hid (kept_o' HAp.out b)
  have HXp := Lib.hid (kept_o' HXp.out b)
  have O6 := Lib.hid u6
  have HI6 := Lib.hid (fun k hk => (g6 k hk).2)
  have LO6 := Lib.hid (fun k hk => (g6 k hk).1)
  have ND6 := Lib.hid n6
  clear b u6 n6 g6 o2_0
  have NL6xp := Lib.hid (show ¬ (w6.heap.size ∈ f6) from fun hk => by have h1 := LO6.out _ hk; have sx := SZX6.out; have s8 := SZ8.out; omega)
  go_wp2_with fail
  refine (eqIntSS_same y2_0 y1_0 R _ O6.out.rd O3.out.rd).mono ?_
  rintro e w10 ⟨rfl, b⟩
  have B10 := Lib.hid (B9.out.trans (b.mono B9.out.size))
  have SZ10 := Lib.hid b.size
  have O3 := Lib.hid (O3.out.behind b)
  have O4 := Lib.hid (O4.out.behind b)
  have O5 := Lib.hid (O5.out.behind b)
  have O6 := Lib.hid (O6.out.behind b)
  have HAp := Lib.hid (kept_o' HAp.out b)
  have HXp := Lib.hid (kept_o' HXp.out b)
  clear b
  have d_p_0 := blkc HAp.out (j := 0) (u := ap1) rfl
  have d_p_1 := blkc HAp.out (j := 1) (u := ap2) rfl
  have d_p_2 := blkc HAp.out (j := 2) (u := ap3) rfl
  have d_xp_0 := blkc HXp.out (j := 0) (u := (.slice t4a0 t4n0 t4c0)) rfl
  have d_xp_1 := blkc HXp.out (j := 1) (u := (.slice t4a1 t4n1 t4c1)) rfl
  have d_xp_2 := blkc HXp.out (j := 2) (u := (.slice t4a2 t4n2 t4c2)) rfl
  go_wp2
  have dd0 : w10.drew.cell? ⟨w.heap.size, 0, none⟩ = some ap1 := d_p_0
  have dd1 : w10.drew.cell? ⟨w.heap.size, 1, none⟩ = some ap2 := d_p_1
  have dd2 : w10.drew.cell? ⟨w.heap.size, 2, none⟩ = some ap3 := d_p_2
  have dd3 : w10.drew.cell? ⟨w6.heap.size, 0, none⟩ = some (.slice t4a0 t4n0 t4c0) := d_xp_0
  have dd4 : w10.drew.cell? ⟨w6.heap.size, 1, none⟩ = some (.slice t4a1 t4n1 t4c1) := d_xp_1
  have dd5 : w10.drew.cell? ⟨w6.heap.size, 2, none⟩ = some (.slice t4a2 t4n2 t4c2) := d_xp_2
  have b := (Dr.refl w10).drew.below (Below.refl w10.heap.size w10)
  have B11 := Lib.hid (B10.out.trans (b.mono B10.out.size))
  have SZ11 := Lib.hid (show w10.heap.size ≤ w10.drew.heap.size from Nat.le_refl _)
  have O3 := Lib.hid (O3.out.behind b)
  have O4 := Lib.hid (O4.out.behind b)
  have O5 := Lib.hid (O5.out.behind b)
  have O6 := Lib.hid (O6.out.behind b)
  have HAp := Lib.hid (kept_o' HAp.out b)
  have HXp := Lib.hid (kept_o' HXp.out b)
  clear b d_p_0 d_p_1 d_p_2 d_xp_0 d_xp_1 d_xp_2
  go_region_held3 (fun w' => w'.cell? ⟨w.heap.size, 0, none⟩ = some ap1 ∧ w'.cell? ⟨w.heap.size, 1, none⟩ = some ap2 ∧ w'.cell? ⟨w.heap.size, 2, none⟩ = some ap3 ∧ w'.cell? ⟨w6.heap.size, 0, none⟩ = some (.slice t4a0 t4n0 t4c0) ∧ w'.cell? ⟨w6.heap.size, 1, none⟩ = some (.slice t4a1 t4n1 t4c1) ∧ w'.cell? ⟨w6.heap.size, 2, none⟩ = some (.slice t4a2 t4n2 t4c2)) (first | (with_reducible exact ⟨dd0, dd1, dd2, dd3, dd4, dd5⟩) | (with_reducible exact ⟨e_p_0, e_p_1, e_p_2, e_xp_0, e_xp_1, e_xp_2⟩) | (with_reducible exact ⟨h_p_0, h_p_1, h_p_2, h_xp_0, h_xp_1, h_xp_2⟩)) (first
    | (go_at_call 16; refine (HTOp.out _ B11.out).mono ?_; unfold ToP; rintro e w12 ⟨t7, f7, rfl, o7, n7, g7, b⟩; have B12 := Lib.hid (B11.out.trans (b.mono B11.out.size)); have SZ12 := Lib.hid b.size; have O3 := Lib.hid (O3.out.behind b); have O4 := Lib.hid (O4.out.behind b); have O5 := Lib.hid (O5.out.behind b); have O6 := Lib.hid (O6.out.behind b); have HAp := Lib.hid (kept_o' HAp.out b); have HXp := Lib.hid (kept_o' HXp.out b); obtain ⟨t7a0, t7n0, t7c0, t7a1, t7n1, t7c1, t7a2, t7n2, t7c2, rfl⟩ := o7.form; have O7 := Lib.hid o7; clear b o7 g7 n7; have e_p_0 := blkc HAp.out (j := 0) (u := ap1) rfl; have e_p_1 := blkc HAp.out (j := 1) (u := ap2) rfl; have e_p_2 := blkc HAp.out (j := 2) (u := ap3) rfl; have e_xp_0 := blkc HXp.out (j := 0) (u := (.slice t4a0 t4n0 t4c0)) rfl; have e_xp_1 := blkc HXp.out (j := 1) (u := (.slice t4a1 t4n1 t4c1)) rfl; have e_xp_2 := blkc HXp.out (j := 2) (u := (.slice t4a2 t4n2 t4c2)) rfl)
    | (go_at_call 19; refine (eqPlan_same _ _ p _ (O4.out.rd (HZp.out).2.2.1) (O7.out.rd (HZp.out).2.2.1)).mono ?_; rintro e w13 ⟨rfl, b⟩; have B13 := Lib.hid (B12.out.trans (b.mono B12.out.size)); have SZ13 := Lib.hid b.size; have O3 := Lib.hid (O3.out.behind b); have O4 := Lib.hid (O4.out.behind b); have O5 := Lib.hid (O5.out.behind b); have O6 := Lib.hid (O6.out.behind b); have HAp := Lib.hid (kept_o' HAp.out b); have HXp := Lib.hid (kept_o' HXp.out b); clear b; have h_p_0 := blkc HAp.out (j := 0) (u := ap1) rfl; have h_p_1 := blkc HAp.out (j := 1) (u := ap2) rfl; have h_p_2 := blkc HAp.out (j := 2) (u := ap3) rfl; have h_xp_0 := blkc HXp.out (j := 0) (u := (.slice t4a0 t4n0 t4c0)) rfl; have h_xp_1 := blkc HXp.out (j := 1) (u := (.slice t4a1 t4n1 t4c1)) rfl; have h_xp_2 := blkc HXp.out (j := 2) (u := (.slice t4a2 t4n2 t4c2)) rfl))
  clear e_p_0 e_p_1 e_p_2 e_xp_0 e_xp_1 e_xp_2 h_p_0 h_p_1 h_p_2 h_xp_0 h_xp_1 h_xp_2 dd0 dd1 dd2 dd3 dd4 dd5
  go_wp2_with fail
  refine (HTOzs.out _ B13.out).mono ?_
  unfold ToP
  rintro e w14 ⟨t8, f8, rfl, o8, n8, g8, b⟩
  have B14 := Lib.hid (B13.out.trans (b.mono B13.out.size))
  have SZ14 := Lib.hid b.size
  have O3 := Lib.hid (O3.out.behind b)
  have O4 := Lib.hid (O4.out.behind b)
  have O5 := Lib.hid (O5.out.behind b)
  have O6 := Lib.hid (O6.out.behind b)
  have HAp := Lib.hid (kept_o' HAp.out b)
  have HXp := Lib.hid (kept_o' HXp.out b)
  have O8 := Lib.hid o8
  have HI8 := Lib.hid o8.lt
  have LO8 := Lib.hid g8
  have ND8 := Lib.hid n8
  clear b o8 g8 n8
  go_wp2_with fail
  refine (eqAlarmS_same t5 t8 zs _ O5.out.rd O8.out.rd).mono ?_
  rintro e w15 ⟨rfl, b⟩
  have B15 := Lib.hid (B14.out.trans (b.mono B14.out.size))
  have SZ15 := Lib.hid b.size
  have O3 := Lib.hid (O3.out.behind b)
  have O4 := Lib.hid (O4.out.behind b)
  have O5 := Lib.hid (O5.out.behind b)
  have O6 := Lib.hid (O6.out.behind b)
  have HAp := Lib.hid (kept_o' HAp.out b)
  have HXp := Lib.hid (kept_o' HXp.out b)
  clear b
  obtain ⟨k0, hk0⟩ : ∃ m : Nat, m = 1 + mkP p := ⟨_, rfl⟩
  have hkp0 : 0 < k0 ∧ k0 ≤ 67108864 := by have : mkP p = p.n.ns.length + 4 * p.n.fs.length + (4 * p.ls.length + totL p.ls) := rfl; have := (HZp.out).1; have := (HZp.out).2.1; have := (HZp.out).2.2.2.1; have := (HZp.out).2.2.2.2.2; omega
  have c_xp_0 := blkc HXp.out (j := 0) (u := (.slice t4a0 t4n0 t4c0)) rfl
  have c_xp_1 := blkc HXp.out (j := 1) (u := (.slice t4a1 t4n1 t4c1)) rfl
  have c_xp_2 := blkc HXp.out (j := 2) (u := (.slice t4a2 t4n2 t4c2)) rfl
  go_wp2_with fail
  clear c_xp_0 c_xp_1 c_xp_2
  refine (markPlan_any _ p f4 1 _ O4.out ND4.out (HZp.out).1 (HZp.out).2.1 (by have := (HZp.out).2.2.2.1; have := (HZp.out).2.2.2.2.2; omega) (by omega) (by omega)).mono ?_
  rw [← hk0]
  rintro e w16 ⟨rfl, -, wr⟩
  have B16 := Lib.hid (wr.below B15.out B15.out.size (fun k hk => by have h1 := LO4.out k hk; have s0 := SZ0.out; have s1 := SZ1.out; have s2 := SZ2.out; have s3 := SZ3.out; have s4 := SZ4.out; have s5 := SZ5.out; omega))
  have SZ16 := Lib.hid wr.size
  have O3 := Lib.hid (O3.out.apart wr (fun k hk hk2 => by have h1 := HI3.out k hk; have h2 := LO4.out k hk2; skip; omega))
  have O5 := Lib.hid (O5.out.apart wr (fun k hk hk2 => by have h1 := HI4.out k hk2; have h2 := LO5.out k hk; have s7 := SZ7.out; omega))
  have O6 := Lib.hid (O6.out.apart wr (fun k hk hk2 => by have h1 := HI4.out k hk2; have h2 := LO6.out k hk; have s7 := SZ7.out; have s8 := SZ8.out; omega))
  have HAp := Lib.hid ((wr.block _ (Array.getElem?_eq_some_iff.1 HAp.out).1 (fun hk => by have h1 := LO4.out _ hk; have s0 := SZ0.out; have s1 := SZ1.out; have s2 := SZ2.out; have s3 := SZ3.out; have s4 := SZ4.out; have s5 := SZ5.out; omega)).trans HAp.out)
  have HXp := Lib.hid ((wr.block _ (Array.getElem?_eq_some_iff.1 HXp.out).1 (fun hk => by exact NL4xp.out hk)).trans HXp.out)
  clear wr hk0
  obtain ⟨k1, hk1⟩ : ∃ m : Nat, m = k0 + 2 * zs.length := ⟨_, rfl⟩
  have hkp1 : 0 < k1 ∧ k1 ≤ 134217728 := by have := (HZzs.out).1; omega
  go_wp2_with fail
  refine (markAlarmS_N t5 zs f5 k0 _ O5.out ND5.out (HZzs.out).1 (by omega) (by omega)).mono ?_
  rw [← hk1]
  rintro e w17 ⟨rfl, -, wr⟩
  have B17 := Lib.hid (wr.below B16.out B16.out.size (fun k hk => by have h1 := LO5.out k hk; have s0 := SZ0.out; have s1 := SZ1.out; have s2 := SZ2.out; have s3 := SZ3.out; have s4 := SZ4.out; have s5 := SZ5.out; have s6 := SZ6.out; have s7 := SZ7.out; omega))
  have SZ17 := Lib.hid wr.size
  have O3 := Lib.hid (O3.out.apart wr (fun k hk hk2 => by have h1 := HI3.out k hk; have h2 := LO5.out k hk2; have s6 := SZ6.out; have s7 := SZ7.out; omega))
  have O6 := Lib.hid (O6.out.apart wr (fun k hk hk2 => by have h1 := HI5.out k hk2; have h2 := LO6.out k hk; skip; omega))
  have HAp := Lib.hid ((wr.block _ (Array.getElem?_eq_some_iff.1 HAp.out).1 (fun hk => by have h1 := LO5.out _ hk; have s0 := SZ0.out; have s1 := SZ1.out; have s2 := SZ2.out; have s3 := SZ3.out; have s4 := SZ4.out; have s5 := SZ5.out; have s6 := SZ6.out; have s7 := SZ7.out; omega)).trans HAp.out)
  have HXp := Lib.hid ((wr.block _ (Array.getElem?_eq_some_iff.1 HXp.out).1 (fun hk => by exact NL5xp.out hk)).trans HXp.out)
  clear wr hk1
  have hkn : ¬ (k1 : Int) < 0 := by omega
  have hknb : decide ((k1 : Int) < 0) = false := decide_eq_false hkn
  go_wp2_with fail
  refine (eqIntSS_same y2_0 y1_0 R _ O6.out.rd O3.out.rd).mono ?_
  rintro e w18 ⟨rfl, b⟩
  have B18 := Lib.hid (B17.out.trans (b.mono B17.out.size))
  have SZ18 := Lib.hid b.size
  have O3 := Lib.hid (O3.out.behind b)
  have O6 := Lib.hid (O6.out.behind b)
  have HAp := Lib.hid (kept_o' HAp.out b)
  clear b
  clear hkn hknb
  obtain ⟨m0, hm0⟩ : ∃ m : Nat, m = 1 + tot R := ⟨_, rfl⟩
  have hmb0 : 1 ≤ m0 := by omega
  go_wp2_with fail
  refine (markIntSS_N1 y2_0 R f6 _ O6.out ND6.out HRL.out).mono ?_
  rw [← hm0]
  rintro e w19 ⟨rfl, om, wr⟩
  have B19 := Lib.hid (wr.below B18.out B18.out.size (fun k hk => by have h1 := LO6.out k hk; have s0 := SZ0.out; have s1 := SZ1.out; have s2 := SZ2.out; have s3 := SZ3.out; have s4 := SZ4.out; have s5 := SZ5.out; have s6 := SZ6.out; have s7 := SZ7.out; have s8 := SZ8.out; omega))
  have SZ19 := Lib.hid wr.size
  have O3 := Lib.hid (O3.out.apart wr (fun k hk hk2 => by have h1 := HI3.out k hk; have h2 := LO6.out k hk2; have s6 := SZ6.out; have s7 := SZ7.out; have s8 := SZ8.out; omega))
  have HAp := Lib.hid ((wr.block _ (Array.getElem?_eq_some_iff.1 HAp.out).1 (fun hk => by have h1 := LO6.out _ hk; have s0 := SZ0.out; have s1 := SZ1.out; have s2 := SZ2.out; have s3 := SZ3.out; have s4 := SZ4.out; have s5 := SZ5.out; have s6 := SZ6.out; have s7 := SZ7.out; have s8 := SZ8.out; omega)).trans HAp.out)
  have O6 := Lib.hid om
  have HM0 := Lib.hid hm0
  clear wr hm0 om
  have hmn : (m0 != m0) = false := by simp
  have hmi : ((m0 : Int) != (m0 : Int)) = false := by simp
  go_wp2_with fail
  refine (heldIntSS_N1 y2_0 R _ O6.out.rd HRL.out).mono ?_
  rw [← HM0.out]
  rintro e w20 ⟨rfl, b⟩
  have B20 := Lib.hid (B19.out.trans (b.mono B19.out.size))
  have SZ20 := Lib.hid b.size
  have O3 := Lib.hid (O3.out.behind b)
  have O6 := Lib.hid (O6.out.behind b)
  have HAp := Lib.hid (kept_o' HAp.out b)
  clear b
  have hqn0 : ¬ (m0 : Int) < 0 := by omega
  have hqb0 : decide ((m0 : Int) < 0) = false := decide_eq_false hqn0
  clear hqn0 hqb0
  have c_p_0 := blkc HAp.out (j := 0) (u := ap1) rfl
  have c_p_1 := blkc HAp.out (j := 1) (u := ap2) rfl
  have c_p_2 := blkc HAp.out (j := 2) (u := ap3) rfl
  go_wp2_with fail
  clear c_p_0 c_p_1 c_p_2
  refine (HTOp.out _ B20.out).mono ?_
  unfold ToP
  rintro e w21 ⟨t9, f9, rfl, o9, n9, g9, b⟩
  have B21 := Lib.hid (B20.out.trans (b.mono B20.out.size))
  have SZ21 := Lib.hid b.size
  have O3 := Lib.hid (O3.out.behind b)
  have O6 := Lib.hid (O6.out.behind b)
  have HAp := Lib.hid (kept_o' HAp.out b)
  obtain ⟨t9a0, t9n0, t9c0, t9a1, t9n1, t9c1, t9a2, t9n2, t9c2, rfl⟩ := o9.form
  have O9 := Lib.hid o9
  have HI9 := Lib.hid o9.lt
  have LO9 := Lib.hid g9
  have ND9 := Lib.hid n9
  clear b o9 g9 n9
  go_wp2_with fail
  refine (HTOzs.out _ B21.out).mono ?_
  unfold ToP
  rintro e w22 ⟨t10, f10, rfl, o10, n10, g10, b⟩
  have B22 := Lib.hid (B21.out.trans (b.mono B21.out.size))
  have SZ22 := Lib.hid b.size
  have O3 := Lib.hid (O3.out.behind b)
  have O6 := Lib.hid (O6.out.behind b)
  have O9 := Lib.hid (O9.out.behind b)
  have HAp := Lib.hid (kept_o' HAp.out b)
  have O10 := Lib.hid o10
  have HI10 := Lib.hid o10.lt
  have LO10 := Lib.hid g10
  have ND10 := Lib.hid n10
  clear b o10 g10 n10
  go_wp2_with fail
  refine (HIM.out _ _ _ (O9.out.rd (HZp.out).2.2.1) O10.out.rd).mono ?_
  rintro e w23 ⟨y3_0, rfl, o3_0, b⟩
  obtain ⟨f11, u11, n11, g11⟩ := o3_0.open
  have B23 := Lib.hid (B22.out.trans (b.mono B22.out.size))
  have SZ23 := Lib.hid b.size
  have O3 := Lib.hid (O3.out.behind b)
  have O6 := Lib.hid (O6.out.behind b)
  have O9 := Lib.hid (O9.out.behind b)
  have O10 := Lib.hid (O10.out.behind b)
  have HAp := Lib.hid (kept_o' HAp.out b)
  have O11 := Lib.hid u11
  have HI11 := Lib.hid (fun k hk => (g11 k hk).2)
  have LO11 := Lib.hid (fun k hk => (g11 k hk).1)
  have ND11 := Lib.hid n11
  clear b u11 n11 g11 o3_0
  go_wp2_with fail
  refine (eqIntSS_same y3_0 y1_0 R _ O11.out.rd O3.out.rd).mono ?_
  rintro e w24 ⟨rfl, b⟩
  have B24 := Lib.hid (B23.out.trans (b.mono B23.out.size))
  have SZ24 := Lib.hid b.size
  have O3 := Lib.hid (O3.out.behind b)
  have O6 := Lib.hid (O6.out.behind b)
  have O11 := Lib.hid (O11.out.behind b)
  have HAp := Lib.hid (kept_o' HAp.out b)
  clear b
  go_wp2_with fail
  refine (heldIntSS_N1 y2_0 R _ O6.out.rd HRL.out).mono ?_
  rw [← HM0.out]
  rintro e w25 ⟨rfl, b⟩
  have B25 := Lib.hid (B24.out.trans (b.mono B24.out.size))
  have SZ25 := Lib.hid b.size
  have O3 := Lib.hid (O3.out.behind b)
  have O6 := Lib.hid (O6.out.behind b)
  have O11 := Lib.hid (O11.out.behind b)
  have HAp := Lib.hid (kept_o' HAp.out b)
  clear b
  have hqn0 : ¬ (m0 : Int) < 0 := by omega
  have hqb0 : decide ((m0 : Int) < 0) = false := decide_eq_false hqn0
  go_wp2
  go_ret
  exact ⟨rfl, B25.out⟩
end Go.Proofs.YtmkkdenhjfjmgaaGreat
