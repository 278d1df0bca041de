/- The law FnExactPeakFiber. (The law's walk is printed by genexact.py.) -/
import Derived.Test.YtofcicomhnkocaaGreatBp04
import Derived.Test.YtofcicomhnkocaaGreatBp05
import Derived.Test.YtofcicomhnkocaaGreatBp06
import Derived.Test.YtofcicomhnkocaaGreatBp31
set_option linter.unusedVariables false
namespace Go.Proofs.YtofcicomhnkocaaGreat
open Go.RowKit Go.Sort
set_option maxRecDepth 100000

set_option maxHeartbeats 6400000 in
theorem FnExactPeakFiber_walk (vn : Value) (n : Net) (vfs : Value) (fs : List Fmt) (vgs : Value) (gs : List Gro) (w : World) (hn : NetW w vn n) (hfs : Rwt w (flt 2 fmE fs) vfs) (hgs : Rwt w (flt 6 groE gs) vgs) :
    Calls Tryz.prog 5 #[vn, vfs, vgs] w fun e w' => e = .returned (.bool true) ∧ Below w.heap.size w w' := by
  have HWn := Lib.hid (fun wx (hb : Below w.heap.size w wx) => hn.behind hb)
  have hsm0n : ∀ i : Nat, (nmA n i).size ≤ totS n.ns := fun i => totS_mem n.ns i
  obtain ⟨an1, an2, evn⟩ : ∃ u1 u2, vn = .agg #[u1, u2] := by obtain ⟨u1, u2, e, _⟩ := hn; exact ⟨u1, u2, e⟩
  subst evn
  clear hn
  have HWfs := Lib.hid (fun wx (hb : Below w.heap.size w wx) => hfs.behind hb)
  clear hfs
  have HWgs := Lib.hid (fun wx (hb : Below w.heap.size w wx) => hgs.behind hb)
  clear hgs
  have b0 := Below.refl w.heap.size w
  have b1 := b0.alloc b0.size (.cells #[an1, an2] 25)
  have kan := heap_alloc_new w (.cells #[an1, an2] 25)
  have HAn := Lib.hid kan
  have hz0 : (w.alloc (.cells #[an1, an2] 25)).heap.size = w.heap.size + 1 := by simp
  have B0 := Lib.hid b1
  have SZ0 := Lib.hid hz0
  clear hz0 b0 b1 kan
  go_enter Tryz.func5, Tryz.ntmps5
  go_wp2_with fail
  generalize (w.alloc (.cells #[an1, an2] 25)) = w0 at *
  refine (szNetwork_any _ n 1048576 _ (HWn.out _ B0.out) (by omega) (by omega)).mono ?_
  unfold SzQ
  rintro e w1 ⟨r0, rfl, b, hr0⟩
  have B1 := Lib.hid (B0.out.trans (b.mono B0.out.size))
  have SZ1 := Lib.hid b.size
  have HAn := Lib.hid (kept_o' HAn.out b)
  clear b
  by_cases hneg0 : r0 < 0
  · have hnb : decide (r0 < 0) = true := decide_eq_true hneg0
    clear hr0
    go_wp2
    go_ret
    exact ⟨rfl, B1.out⟩
  have hnb0 : decide (r0 < 0) = false := decide_eq_false hneg0
  have hq0 : ((szN n : Nat) : Int) ≤ 1048576 := by omega
  have hrp0 : 0 ≤ r0 := by omega
  have hrb0 : r0 ≤ 1048576 := by omega
  clear hr0
  go_wp2_with fail
  refine (szFormatS_Q vfs fs r0 _ (HWfs.out _ B1.out) (by omega) (by omega)).mono ?_
  unfold SzQ
  rintro e w2 ⟨r1, rfl, b, hr1⟩
  have B2 := Lib.hid (B1.out.trans (b.mono B1.out.size))
  have SZ2 := Lib.hid b.size
  have HAn := Lib.hid (kept_o' HAn.out b)
  clear b
  by_cases hneg1 : r1 < 0
  · have hnb : decide (r1 < 0) = true := decide_eq_true hneg1
    clear hr1
    go_wp2
    go_ret
    exact ⟨rfl, B2.out⟩
  have hnb1 : decide (r1 < 0) = false := decide_eq_false hneg1
  have hq1 : ((fs.length : Nat) : Int) ≤ r0 := by omega
  have hrp1 : 0 ≤ r1 := by omega
  have hrb1 : r1 ≤ 1048576 := by omega
  clear hr1
  go_wp2_with fail
  refine (szGrowthS_Q vgs gs r1 _ (HWgs.out _ B2.out) (by omega) (by omega)).mono ?_
  unfold SzQ
  rintro e w3 ⟨r2, rfl, b, hr2⟩
  have B3 := Lib.hid (B2.out.trans (b.mono B2.out.size))
  have SZ3 := Lib.hid b.size
  have HAn := Lib.hid (kept_o' HAn.out b)
  clear b
  by_cases hneg2 : r2 < 0
  · have hnb : decide (r2 < 0) = true := decide_eq_true hneg2
    clear hr2
    go_wp2
    go_ret
    exact ⟨rfl, B3.out⟩
  have hnb2 : decide (r2 < 0) = false := decide_eq_false hneg2
  have hq2 : ((gs.length : Nat) : Int) ≤ r1 := by omega
  have hrp2 : 0 ≤ r2 := by omega
  have hrb2 : r2 ≤ 1048576 := by omega
  clear hr2
  have HZn := Lib.hid (show n.ns.length ≤ 1048576 ∧ n.fs.length ≤ 1048576 ∧ NetSm n from ⟨by have : szN n = n.ns.length + totS n.ns + n.fs.length := rfl; omega, by have : szN n = n.ns.length + totS n.ns + n.fs.length := rfl; omega, fun i => Nat.le_trans (hsm0n i) (by have : szN n = n.ns.length + totS n.ns + n.fs.length := rfl; omega)⟩)
  have HZfs := Lib.hid (show fs.length ≤ 1048576 ∧ True from ⟨by omega, trivial⟩)
  have HZgs := Lib.hid (show gs.length ≤ 1048576 ∧ True from ⟨by omega, trivial⟩)
  have HTOn := Lib.hid (fun wx (hb : Below w.heap.size w wx) => toNetwork_any _ n wx (HWn.out _ hb) (HZn.out).1 (HZn.out).2.1)
  have HTOfs := Lib.hid (fun wx (hb : Below w.heap.size w wx) => toFormatS_P vfs fs wx (HWfs.out _ hb) (HZfs.out).1)
  have HTOgs := Lib.hid (fun wx (hb : Below w.heap.size w wx) => toGrowthS_P vgs gs wx (HWgs.out _ hb) (HZgs.out).1)
  clear hq2
  clear hq1
  clear hq0
  have hsp := fun v u u' wx h hf hg => specPeak_any v u u' n fs gs wx h hf hg
  have him := fun v u u' wx h hf hg => implPeak_any v u u' n fs gs wx h hf hg
  unfold PkP at hsp him
  have HSP := Lib.hid hsp
  have HIM := Lib.hid him
  clear hsp him
  generalize (pk3 n fs gs).1 = F at *
  generalize (pk3 n fs gs).2.1 = T at *
  generalize (pk3 n fs gs).2.2 = M at *
  generalize pkK n fs gs = ok at *
  have hne0 : (F != F) = false := by simp
  have hne1 : (T != T) = false := by simp
  have hne2 : (M != M) = false := by simp
  have hne3 : (ok != ok) = false := by simp
  have c_n_0 := blkc HAn.out (j := 0) (u := an1) rfl
  have c_n_1 := blkc HAn.out (j := 1) (u := an2) rfl
  go_wp2_with fail
  clear c_n_0 c_n_1
  refine (HTOn.out _ B3.out).mono ?_
  unfold ToP
  rintro e w4 ⟨t1, f1, rfl, o1, n1, g1, b⟩
  have B4 := Lib.hid (B3.out.trans (b.mono B3.out.size))
  have SZ4 := Lib.hid b.size
  have HAn := Lib.hid (kept_o' HAn.out b)
  obtain ⟨t1a0, t1n0, t1c0, t1a1, t1n1, t1c1, rfl⟩ := o1.form
  have O1 := Lib.hid o1
  have HI1 := Lib.hid o1.lt
  have LO1 := Lib.hid g1
  have ND1 := Lib.hid n1
  clear b o1 g1 n1
  go_wp2_with fail
  refine (HTOfs.out _ B4.out).mono ?_
  unfold ToP
  rintro e w5 ⟨t2, f2, rfl, o2, n2, g2, b⟩
  have B5 := Lib.hid (B4.out.trans (b.mono B4.out.size))
  have SZ5 := Lib.hid b.size
  have O1 := Lib.hid (O1.out.behind b)
  have HAn := Lib.hid (kept_o' HAn.out b)
  have O2 := Lib.hid o2
  have HI2 := Lib.hid o2.lt
  have LO2 := Lib.hid g2
  have ND2 := Lib.hid n2
  clear b o2 g2 n2
  go_wp2_with fail
  refine (HTOgs.out _ B5.out).mono ?_
  unfold ToP
  rintro e w6 ⟨t3, f3, rfl, o3, n3, g3, b⟩
  have B6 := Lib.hid (B5.out.trans (b.mono B5.out.size))
  have SZ6 := Lib.hid b.size
  have O1 := Lib.hid (O1.out.behind b)
  have O2 := Lib.hid (O2.out.behind b)
  have HAn := Lib.hid (kept_o' HAn.out b)
  have O3 := Lib.hid o3
  have HI3 := Lib.hid o3.lt
  have LO3 := Lib.hid g3
  have ND3 := Lib.hid n3
  clear b o3 g3 n3
  go_wp2_with fail
  refine (HSP.out _ _ _ _ (O1.out.rd (HZn.out).2.2) O2.out.rd O3.out.rd).mono ?_
  rintro e w7 ⟨rfl, b⟩
  have B7 := Lib.hid (B6.out.trans (b.mono B6.out.size))
  have SZ7 := Lib.hid b.size
  have O1 := Lib.hid (O1.out.behind b)
  have O2 := Lib.hid (O2.out.behind b)
  have O3 := Lib.hid (O3.out.behind b)
  have HAn := Lib.hid (kept_o' HAn.out b)
  clear b
  have c_n_0 := blkc HAn.out (j := 0) (u := an1) rfl
  have c_n_1 := blkc HAn.out (j := 1) (u := an2) rfl
  go_wp2_with fail
  clear c_n_0 c_n_1
  refine (HTOn.out _ B7.out).mono ?_
  unfold ToP
  rintro e w8 ⟨t4, f4, rfl, o4, n4, g4, b⟩
  have B8 := Lib.hid (B7.out.trans (b.mono B7.out.size))
  have SZ8 := Lib.hid b.size
  have HAn := Lib.hid (kept_o' HAn.out b)
  obtain ⟨t4a0, t4n0, t4c0, t4a1, t4n1, t4c1, rfl⟩ := o4.form
  have O4 := Lib.hid o4
  have HI4 := Lib.hid o4.lt
  have LO4 := Lib.hid g4
  have ND4 := Lib.hid n4
  clear b o4 g4 n4
  have c_n_0 := blkc HAn.out (j := 0) (u := an1) rfl
  have c_n_1 := blkc HAn.out (j := 1) (u := an2) rfl
  have ne_n : ¬ w.heap.size = w8.heap.size := by have h1 := (Array.getElem?_eq_some_iff.1 HAn.out).1; omega
  have b := (Below.refl w8.heap.size w8).alloc (Nat.le_refl _) (.cells #[(.slice t4a0 t4n0 t4c0), (.slice t4a1 t4n1 t4c1)] 35)
  have kxn := heap_alloc_new w8 (.cells #[(.slice t4a0 t4n0 t4c0), (.slice t4a1 t4n1 t4c1)] 35)
  have sx := (show w8.heap.size < (w8.alloc (.cells #[(.slice t4a0 t4n0 t4c0), (.slice t4a1 t4n1 t4c1)] 35)).heap.size by simp)
  have NL4xn := Lib.hid (show ¬ (w8.heap.size ∈ f4) from fun hk => by have h1 := HI4.out _ hk; skip; omega)
  have B9 := Lib.hid (B8.out.trans (b.mono B8.out.size))
  have SZ9 := Lib.hid b.size
  have O4 := Lib.hid (O4.out.behind b)
  have HAn := Lib.hid (kept_o' HAn.out b)
  have HXn := Lib.hid kxn
  have SZX8 := Lib.hid sx
  clear b kxn sx
  go_wp2_with fail
  clear c_n_0 c_n_1 ne_n
  generalize w8.alloc (.cells #[(.slice t4a0 t4n0 t4c0), (.slice t4a1 t4n1 t4c1)] 35) = w9 at *
  refine (HTOfs.out _ B9.out).mono ?_
  unfold ToP
  rintro e w10 ⟨t5, f5, rfl, o5, n5, g5, b⟩
  have B10 := Lib.hid (B9.out.trans (b.mono B9.out.size))
  have SZ10 := Lib.hid b.size
  have O4 := Lib.hid (O4.out.behind b)
  have HAn := Lib.hid (kept_o' HAn.out b)
  have HXn := Lib.hid (kept_o' HXn.out b)
  have O5 := Lib.hid o5
  have HI5 := Lib.hid o5.lt
  have LO5 := Lib.hid g5
  have ND5 := Lib.hid n5
  clear b o5 g5 n5
  have NL5xn := Lib.hid (show ¬ (w8.heap.size ∈ f5) from fun hk => by have h1 := LO5.out _ hk; have sx := SZX8.out; skip; omega)
  go_wp2_with fail
  refine (HTOgs.out _ B10.out).mono ?_
  unfold ToP
  rintro e w11 ⟨t6, f6, rfl, o6, n6, g6, b⟩
  have B11 := Lib.hid (B10.out.trans (b.mono B10.out.size))
  have SZ11 := Lib.hid b.size
  have O4 := Lib.hid (O4.out.behind b)
  have O5 := Lib.hid (O5.out.behind b)
  have HAn := Lib.hid (kept_o' HAn.out b)
  have HXn := Lib.hid (kept_o' HXn.out b)
  have O6 := Lib.hid o6
  have HI6 := Lib.hid o6.lt
  have LO6 := Lib.hid g6
  have ND6 := Lib.hid n6
  clear b o6 g6 n6
  have NL6xn := Lib.hid (show ¬ (w8.heap.size ∈ f6) from fun hk => by have h1 := LO6.out _ hk; have sx := SZX8.out; have s10 := SZ10.out; omega)
  have c_xn_0 := blkc HXn.out (j := 0) (u := (.slice t4a0 t4n0 t4c0)) rfl
  have c_xn_1 := blkc HXn.out (j := 1) (u := (.slice t4a1 t4n1 t4c1)) rfl
  go_wp2_with fail
  clear c_xn_0 c_xn_1
  refine (HIM.out _ _ _ _ (O4.out.rd (HZn.out).2.2) O5.out.rd O6.out.rd).mono ?_
  rintro e w12 ⟨rfl, b⟩
  have B12 := Lib.hid (B11.out.trans (b.mono B11.out.size))
  have SZ12 := Lib.hid b.size
  have O4 := Lib.hid (O4.out.behind b)
  have O5 := Lib.hid (O5.out.behind b)
  have O6 := Lib.hid (O6.out.behind b)
  have HAn := Lib.hid (kept_o' HAn.out b)
  have HXn := Lib.hid (kept_o' HXn.out b)
  clear b
  have d_n_0 := blkc HAn.out (j := 0) (u := an1) rfl
  have d_n_1 := blkc HAn.out (j := 1) (u := an2) rfl
  have d_xn_0 := blkc HXn.out (j := 0) (u := (.slice t4a0 t4n0 t4c0)) rfl
  have d_xn_1 := blkc HXn.out (j := 1) (u := (.slice t4a1 t4n1 t4c1)) rfl
  go_wp2
  have dd0 : w12.drew.cell? ⟨w.heap.size, 0, none⟩ = some an1 := d_n_0
  have dd1 : w12.drew.cell? ⟨w.heap.size, 1, none⟩ = some an2 := d_n_1
  have dd2 : w12.drew.cell? ⟨w8.heap.size, 0, none⟩ = some (.slice t4a0 t4n0 t4c0) := d_xn_0
  have dd3 : w12.drew.cell? ⟨w8.heap.size, 1, none⟩ = some (.slice t4a1 t4n1 t4c1) := d_xn_1
  have b := (Dr.refl w12).drew.below (Below.refl w12.heap.size w12)
  have B13 := Lib.hid (B12.out.trans (b.mono B12.out.size))
  have SZ13 := Lib.hid (show w12.heap.size ≤ w12.drew.heap.size from Nat.le_refl _)
  have O4 := Lib.hid (O4.out.behind b)
  have O5 := Lib.hid (O5.out.behind b)
  have O6 := Lib.hid (O6.out.behind b)
  have HAn := Lib.hid (kept_o' HAn.out b)
  have HXn := Lib.hid (kept_o' HXn.out b)
  clear b d_n_0 d_n_1 d_xn_0 d_xn_1
  go_region_held3 (fun w' => w'.cell? ⟨w.heap.size, 0, none⟩ = some an1 ∧ w'.cell? ⟨w.heap.size, 1, none⟩ = some an2 ∧ w'.cell? ⟨w8.heap.size, 0, none⟩ = some (.slice t4a0 t4n0 t4c0) ∧ w'.cell? ⟨w8.heap.size, 1, none⟩ = some (.slice t4a1 t4n1 t4c1)) (first | (with_reducible exact ⟨dd0, dd1, dd2, dd3⟩) | (with_reducible exact ⟨e_n_0, e_n_1, e_xn_0, e_xn_1⟩) | (with_reducible exact ⟨h_n_0, h_n_1, h_xn_0, h_xn_1⟩)) (first
    | (go_at_call 16; refine (HTOn.out _ B13.out).mono ?_; unfold ToP; rintro e w14 ⟨t7, f7, rfl, o7, n7, g7, b⟩; have B14 := Lib.hid (B13.out.trans (b.mono B13.out.size)); have SZ14 := Lib.hid b.size; have O4 := Lib.hid (O4.out.behind b); have O5 := Lib.hid (O5.out.behind b); have O6 := Lib.hid (O6.out.behind b); have HAn := Lib.hid (kept_o' HAn.out b); have HXn := Lib.hid (kept_o' HXn.out b); obtain ⟨t7a0, t7n0, t7c0, t7a1, t7n1, t7c1, rfl⟩ := o7.form; have O7 := Lib.hid o7; clear b o7 g7 n7; have e_n_0 := blkc HAn.out (j := 0) (u := an1) rfl; have e_n_1 := blkc HAn.out (j := 1) (u := an2) rfl; have e_xn_0 := blkc HXn.out (j := 0) (u := (.slice t4a0 t4n0 t4c0)) rfl; have e_xn_1 := blkc HXn.out (j := 1) (u := (.slice t4a1 t4n1 t4c1)) rfl)
    | (go_at_call 20; refine (eqNetwork_same _ _ n _ (O4.out.rd (HZn.out).2.2) (O7.out.rd (HZn.out).2.2)).mono ?_; rintro e w15 ⟨rfl, b⟩; have B15 := Lib.hid (B14.out.trans (b.mono B14.out.size)); have SZ15 := Lib.hid b.size; have O4 := Lib.hid (O4.out.behind b); have O5 := Lib.hid (O5.out.behind b); have O6 := Lib.hid (O6.out.behind b); have HAn := Lib.hid (kept_o' HAn.out b); have HXn := Lib.hid (kept_o' HXn.out b); clear b; have h_n_0 := blkc HAn.out (j := 0) (u := an1) rfl; have h_n_1 := blkc HAn.out (j := 1) (u := an2) rfl; have h_xn_0 := blkc HXn.out (j := 0) (u := (.slice t4a0 t4n0 t4c0)) rfl; have h_xn_1 := blkc HXn.out (j := 1) (u := (.slice t4a1 t4n1 t4c1)) rfl))
  clear e_n_0 e_n_1 e_xn_0 e_xn_1 h_n_0 h_n_1 h_xn_0 h_xn_1 dd0 dd1 dd2 dd3
  go_wp2_with fail
  refine (HTOfs.out _ B15.out).mono ?_
  unfold ToP
  rintro e w16 ⟨t8, f8, rfl, o8, n8, g8, b⟩
  have B16 := Lib.hid (B15.out.trans (b.mono B15.out.size))
  have SZ16 := Lib.hid b.size
  have O4 := Lib.hid (O4.out.behind b)
  have O5 := Lib.hid (O5.out.behind b)
  have O6 := Lib.hid (O6.out.behind b)
  have HAn := Lib.hid (kept_o' HAn.out b)
  have HXn := Lib.hid (kept_o' HXn.out b)
  have O8 := Lib.hid o8
  have HI8 := Lib.hid o8.lt
  have LO8 := Lib.hid g8
  have ND8 := Lib.hid n8
  clear b o8 g8 n8
  go_wp2_with fail
  refine (eqFormatS_same t5 t8 fs _ O5.out.rd O8.out.rd).mono ?_
  rintro e w17 ⟨rfl, b⟩
  have B17 := Lib.hid (B16.out.trans (b.mono B16.out.size))
  have SZ17 := Lib.hid b.size
  have O4 := Lib.hid (O4.out.behind b)
  have O5 := Lib.hid (O5.out.behind b)
  have O6 := Lib.hid (O6.out.behind b)
  have HAn := Lib.hid (kept_o' HAn.out b)
  have HXn := Lib.hid (kept_o' HXn.out b)
  clear b
  go_wp2_with fail
  refine (HTOgs.out _ B17.out).mono ?_
  unfold ToP
  rintro e w18 ⟨t9, f9, rfl, o9, n9, g9, b⟩
  have B18 := Lib.hid (B17.out.trans (b.mono B17.out.size))
  have SZ18 := Lib.hid b.size
  have O4 := Lib.hid (O4.out.behind b)
  have O5 := Lib.hid (O5.out.behind b)
  have O6 := Lib.hid (O6.out.behind b)
  have HAn := Lib.hid (kept_o' HAn.out b)
  have HXn := Lib.hid (kept_o' HXn.out b)
  have O9 := Lib.hid o9
  have HI9 := Lib.hid o9.lt
  have LO9 := Lib.hid g9
  have ND9 := Lib.hid n9
  clear b o9 g9 n9
  go_wp2_with fail
  refine (eqGrowthS_same t6 t9 gs _ O6.out.rd O9.out.rd).mono ?_
  rintro e w19 ⟨rfl, b⟩
  have B19 := Lib.hid (B18.out.trans (b.mono B18.out.size))
  have SZ19 := Lib.hid b.size
  have O4 := Lib.hid (O4.out.behind b)
  have O5 := Lib.hid (O5.out.behind b)
  have O6 := Lib.hid (O6.out.behind b)
  have HAn := Lib.hid (kept_o' HAn.out b)
  have HXn := Lib.hid (kept_o' HXn.out b)
  clear b
  go_wp2
  go_ret
  exact ⟨rfl, B19.out⟩
end Go.Proofs.YtofcicomhnkocaaGreat
