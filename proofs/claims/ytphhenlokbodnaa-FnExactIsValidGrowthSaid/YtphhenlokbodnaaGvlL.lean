/- The law FnExactIsValidGrowth. (The law's walk is printed by genexact.py.) -/
import Derived.Test.YtphhenlokbodnaaExb
import Derived.Test.YtphhenlokbodnaaOpg
namespace Go.Proofs.Ytphhenlokbodnaa
open Go.RowKit Go.Sort
set_option maxRecDepth 100000

theorem specIsValid_any (v u : Value) (n : Net) (gs : List Gro) (w : World) (h : NetR w v n) (hg : Rdt w (flt 6 groE gs) u) :
    Calls Try.prog 9 #[v, u] w fun e w' => e = .returned (.bool (grsOk n gs)) ∧ Below w.heap.size w w' := by
  have HG := Lib.hid (fun w' (hb : Below w.heap.size w w') => l26Good_any v u n gs w' (h.behind hb) (hg.behind hb))
  generalize grsOk n gs = q at *
  obtain ⟨u1, u2, rfl, r1, r2, -⟩ := h
  obtain ⟨a1, n1, c1, rfl⟩ := Rdt.slice (show Rdt w (.rows _ _) u1 from r1)
  obtain ⟨a2, n2, c2, rfl⟩ := Rdt.slice (show Rdt w (.rows _ _) u2 from r2)
  obtain ⟨a3, n3, c3, rfl⟩ := Rdt.slice (show Rdt w (.rows _ _) u from hg)
  obtain ⟨bx, -, -, -⟩ := box_facts w #[.slice a1 n1 c1, .slice a2 n2 c2] 32
  have HB := Lib.hid bx
  clear r1 r2 hg bx
  go_enter Try.func9, Try.ntmps9
  go_wp2_with fail
  refine (HG.out _ HB.out).mono ?_
  rintro e w2 ⟨rfl, b2⟩
  have HB2 := Lib.hid (HB.out.trans (b2.mono HB.out.size))
  clear b2
  go_wp2
  go_ret
  exact ⟨rfl, HB2.out⟩
set_option maxHeartbeats 6400000 in
theorem FnExactIsValidGrowth_walk (vn : Value) (n : Net) (vgs : Value) (gs : List Gro) (w : World) (hn : NetW w vn n) (hgs : Rwt w (flt 6 groE gs) vgs) :
    Calls Try.prog 3 #[vn, vgs] w fun e w' => e = .returned (.bool true) ∧ Below w.heap.size w w' := by
  have HWn := Lib.hid (fun wx (hb : Below w.heap.size w wx) => hn.behind hb)
  have hsm0n : ∀ i : Nat, (nmA n i).size ≤ totS n.ns := fun i => totS_mem n.ns i
  obtain ⟨an1, an2, evn⟩ : ∃ u1 u2, vn = .agg #[u1, u2] := by obtain ⟨u1, u2, e, _⟩ := hn; exact ⟨u1, u2, e⟩
  subst evn
  clear hn
  have HWgs := Lib.hid (fun wx (hb : Below w.heap.size w wx) => hgs.behind hb)
  clear hgs
  have b0 := Below.refl w.heap.size w
  have b1 := b0.alloc b0.size (.cells #[an1, an2] 25)
  have kan := heap_alloc_new w (.cells #[an1, an2] 25)
  have HAn := Lib.hid kan
  have hz0 : (w.alloc (.cells #[an1, an2] 25)).heap.size = w.heap.size + 1 := by simp
  have B0 := Lib.hid b1
  have SZ0 := Lib.hid hz0
  clear hz0 b0 b1 kan
  go_enter Try.func3, Try.ntmps3
  go_wp2_with fail
  generalize (w.alloc (.cells #[an1, an2] 25)) = w0 at *
  refine (szNetwork_any _ n 1048576 _ (HWn.out _ B0.out) (by omega) (by omega)).mono ?_
  unfold SzQ
  rintro e w1 ⟨r0, rfl, b, hr0⟩
  have B1 := Lib.hid (B0.out.trans (b.mono B0.out.size))
  have SZ1 := Lib.hid b.size
  have HAn := Lib.hid (kept_o' HAn.out b)
  clear b
  by_cases hneg0 : r0 < 0
  · have hnb : decide (r0 < 0) = true := decide_eq_true hneg0
    clear hr0
    go_wp2
    go_ret
    exact ⟨rfl, B1.out⟩
  have hnb0 : decide (r0 < 0) = false := decide_eq_false hneg0
  have hq0 : ((szN n : Nat) : Int) ≤ 1048576 := by omega
  have hrp0 : 0 ≤ r0 := by omega
  have hrb0 : r0 ≤ 1048576 := by omega
  clear hr0
  go_wp2_with fail
  refine (szGrowthS_Q vgs gs r0 _ (HWgs.out _ B1.out) (by omega) (by omega)).mono ?_
  unfold SzQ
  rintro e w2 ⟨r1, rfl, b, hr1⟩
  have B2 := Lib.hid (B1.out.trans (b.mono B1.out.size))
  have SZ2 := Lib.hid b.size
  have HAn := Lib.hid (kept_o' HAn.out b)
  clear b
  by_cases hneg1 : r1 < 0
  · have hnb : decide (r1 < 0) = true := decide_eq_true hneg1
    clear hr1
    go_wp2
    go_ret
    exact ⟨rfl, B2.out⟩
  have hnb1 : decide (r1 < 0) = false := decide_eq_false hneg1
  have hq1 : ((gs.length : Nat) : Int) ≤ r0 := by omega
  have hrp1 : 0 ≤ r1 := by omega
  have hrb1 : r1 ≤ 1048576 := by omega
  clear hr1
  have HZn := Lib.hid (show n.ns.length ≤ 1048576 ∧ n.fs.length ≤ 1048576 ∧ NetSm n from ⟨by have : szN n = n.ns.length + totS n.ns + n.fs.length := rfl; omega, by have : szN n = n.ns.length + totS n.ns + n.fs.length := rfl; omega, fun i => Nat.le_trans (hsm0n i) (by have : szN n = n.ns.length + totS n.ns + n.fs.length := rfl; omega)⟩)
  have HZgs := Lib.hid (show gs.length ≤ 1048576 ∧ True from ⟨by omega, trivial⟩)
  have HTOn := Lib.hid (fun wx (hb : Below w.heap.size w wx) => toNetwork_any _ n wx (HWn.out _ hb) (HZn.out).1 (HZn.out).2.1)
  have HTOgs := Lib.hid (fun wx (hb : Below w.heap.size w wx) => toGrowthS_P vgs gs wx (HWgs.out _ hb) (HZgs.out).1)
  clear hq1
  clear hq0
  have hne0 : ((grsOk n gs) != (grsOk n gs)) = false := by simp
  have c_n_0 := blkc HAn.out (j := 0) (u := an1) rfl
  have c_n_1 := blkc HAn.out (j := 1) (u := an2) rfl
  go_wp2_with fail
  clear c_n_0 c_n_1
  refine (HTOn.out _ B2.out).mono ?_
  unfold ToP
  rintro e w3 ⟨t1, f1, rfl, o1, n1, g1, b⟩
  have B3 := Lib.hid (B2.out.trans (b.mono B2.out.size))
  have SZ3 := Lib.hid b.size
  have HAn := Lib.hid (kept_o' HAn.out b)
  obtain ⟨t1a0, t1n0, t1c0, t1a1, t1n1, t1c1, rfl⟩ := o1.form
  have O1 := Lib.hid o1
  have HI1 := Lib.hid o1.lt
  have LO1 := Lib.hid g1
  have ND1 := Lib.hid n1
  clear b o1 g1 n1
  go_wp2_with fail
  refine (HTOgs.out _ B3.out).mono ?_
  unfold ToP
  rintro e w4 ⟨t2, f2, rfl, o2, n2, g2, b⟩
  have B4 := Lib.hid (B3.out.trans (b.mono B3.out.size))
  have SZ4 := Lib.hid b.size
  have O1 := Lib.hid (O1.out.behind b)
  have HAn := Lib.hid (kept_o' HAn.out b)
  have O2 := Lib.hid o2
  have HI2 := Lib.hid o2.lt
  have LO2 := Lib.hid g2
  have ND2 := Lib.hid n2
  clear b o2 g2 n2
  go_wp2_with fail
  refine (specIsValid_any _ _ n gs _ (O1.out.rd (HZn.out).2.2) O2.out.rd).mono ?_
  rintro e w5 ⟨rfl, b⟩
  have B5 := Lib.hid (B4.out.trans (b.mono B4.out.size))
  have SZ5 := Lib.hid b.size
  have O1 := Lib.hid (O1.out.behind b)
  have O2 := Lib.hid (O2.out.behind b)
  have HAn := Lib.hid (kept_o' HAn.out b)
  clear b
  have c_n_0 := blkc HAn.out (j := 0) (u := an1) rfl
  have c_n_1 := blkc HAn.out (j := 1) (u := an2) rfl
  go_wp2_with fail
  clear c_n_0 c_n_1
  refine (HTOn.out _ B5.out).mono ?_
  unfold ToP
  rintro e w6 ⟨t3, f3, rfl, o3, n3, g3, b⟩
  have B6 := Lib.hid (B5.out.trans (b.mono B5.out.size))
  have SZ6 := Lib.hid b.size
  have HAn := Lib.hid (kept_o' HAn.out b)
  obtain ⟨t3a0, t3n0, t3c0, t3a1, t3n1, t3c1, rfl⟩ := o3.form
  have O3 := Lib.hid o3
  have HI3 := Lib.hid o3.lt
  have LO3 := Lib.hid g3
  have ND3 := Lib.hid n3
  clear b o3 g3 n3
  have c_n_0 := blkc HAn.out (j := 0) (u := an1) rfl
  have c_n_1 := blkc HAn.out (j := 1) (u := an2) rfl
  have ne_n : ¬ w.heap.size = w6.heap.size := by have h1 := (Array.getElem?_eq_some_iff.1 HAn.out).1; omega
  have b := (Below.refl w6.heap.size w6).alloc (Nat.le_refl _) (.cells #[(.slice t3a0 t3n0 t3c0), (.slice t3a1 t3n1 t3c1)] 32)
  have kxn := heap_alloc_new w6 (.cells #[(.slice t3a0 t3n0 t3c0), (.slice t3a1 t3n1 t3c1)] 32)
  have sx := (show w6.heap.size < (w6.alloc (.cells #[(.slice t3a0 t3n0 t3c0), (.slice t3a1 t3n1 t3c1)] 32)).heap.size by simp)
  have NL3xn := Lib.hid (show ¬ (w6.heap.size ∈ f3) from fun hk => by have h1 := HI3.out _ hk; skip; omega)
  have B7 := Lib.hid (B6.out.trans (b.mono B6.out.size))
  have SZ7 := Lib.hid b.size
  have O3 := Lib.hid (O3.out.behind b)
  have HAn := Lib.hid (kept_o' HAn.out b)
  have HXn := Lib.hid kxn
  have SZX6 := Lib.hid sx
  clear b kxn sx
  go_wp2_with fail
  clear c_n_0 c_n_1 ne_n
  generalize w6.alloc (.cells #[(.slice t3a0 t3n0 t3c0), (.slice t3a1 t3n1 t3c1)] 32) = w7 at *
  refine (HTOgs.out _ B7.out).mono ?_
  unfold ToP
  rintro e w8 ⟨t4, f4, rfl, o4, n4, g4, b⟩
  have B8 := Lib.hid (B7.out.trans (b.mono B7.out.size))
  have SZ8 := Lib.hid b.size
  have O3 := Lib.hid (O3.out.behind b)
  have HAn := Lib.hid (kept_o' HAn.out b)
  have HXn := Lib.hid (kept_o' HXn.out b)
  have O4 := Lib.hid o4
  have HI4 := Lib.hid o4.lt
  have LO4 := Lib.hid g4
  have ND4 := Lib.hid n4
  clear b o4 g4 n4
  have NL4xn := Lib.hid (show ¬ (w6.heap.size ∈ f4) from fun hk => by have h1 := LO4.out _ hk; have sx := SZX6.out; skip; omega)
  have c_xn_0 := blkc HXn.out (j := 0) (u := (.slice t3a0 t3n0 t3c0)) rfl
  have c_xn_1 := blkc HXn.out (j := 1) (u := (.slice t3a1 t3n1 t3c1)) rfl
  go_wp2_with fail
  clear c_xn_0 c_xn_1
  refine (implGrowths_any _ _ n gs _ (O3.out.rd (HZn.out).2.2) O4.out.rd).mono ?_
  rintro e w9 ⟨rfl, b⟩
  have B9 := Lib.hid (B8.out.trans (b.mono B8.out.size))
  have SZ9 := Lib.hid b.size
  have O3 := Lib.hid (O3.out.behind b)
  have O4 := Lib.hid (O4.out.behind b)
  have HAn := Lib.hid (kept_o' HAn.out b)
  have HXn := Lib.hid (kept_o' HXn.out b)
  clear b
  have d_n_0 := blkc HAn.out (j := 0) (u := an1) rfl
  have d_n_1 := blkc HAn.out (j := 1) (u := an2) rfl
  have d_xn_0 := blkc HXn.out (j := 0) (u := (.slice t3a0 t3n0 t3c0)) rfl
  have d_xn_1 := blkc HXn.out (j := 1) (u := (.slice t3a1 t3n1 t3c1)) rfl
  go_wp2
  have dd0 : w9.drew.cell? ⟨w.heap.size, 0, none⟩ = some an1 := d_n_0
  have dd1 : w9.drew.cell? ⟨w.heap.size, 1, none⟩ = some an2 := d_n_1
  have dd2 : w9.drew.cell? ⟨w6.heap.size, 0, none⟩ = some (.slice t3a0 t3n0 t3c0) := d_xn_0
  have dd3 : w9.drew.cell? ⟨w6.heap.size, 1, none⟩ = some (.slice t3a1 t3n1 t3c1) := d_xn_1
  have b := (Dr.refl w9).drew.below (Below.refl w9.heap.size w9)
  have B10 := Lib.hid (B9.out.trans (b.mono B9.out.size))
  have SZ10 := Lib.hid (show w9.heap.size ≤ w9.drew.heap.size from Nat.le_refl _)
  have O3 := Lib.hid (O3.out.behind b)
  have O4 := Lib.hid (O4.out.behind b)
  have HAn := Lib.hid (kept_o' HAn.out b)
  have HXn := Lib.hid (kept_o' HXn.out b)
  clear b d_n_0 d_n_1 d_xn_0 d_xn_1
  go_region_held3 (fun w' => w'.cell? ⟨w.heap.size, 0, none⟩ = some an1 ∧ w'.cell? ⟨w.heap.size, 1, none⟩ = some an2 ∧ w'.cell? ⟨w6.heap.size, 0, none⟩ = some (.slice t3a0 t3n0 t3c0) ∧ w'.cell? ⟨w6.heap.size, 1, none⟩ = some (.slice t3a1 t3n1 t3c1)) (first | (with_reducible exact ⟨dd0, dd1, dd2, dd3⟩) | (with_reducible exact ⟨e_n_0, e_n_1, e_xn_0, e_xn_1⟩) | (with_reducible exact ⟨h_n_0, h_n_1, h_xn_0, h_xn_1⟩)) (first
    | (go_at_call 10; refine (HTOn.out _ B10.out).mono ?_; unfold ToP; rintro e w11 ⟨t5, f5, rfl, o5, n5, g5, b⟩; have B11 := Lib.hid (B10.out.trans (b.mono B10.out.size)); have SZ11 := Lib.hid b.size; have O3 := Lib.hid (O3.out.behind b); have O4 := Lib.hid (O4.out.behind b); have HAn := Lib.hid (kept_o' HAn.out b); have HXn := Lib.hid (kept_o' HXn.out b); obtain ⟨t5a0, t5n0, t5c0, t5a1, t5n1, t5c1, rfl⟩ := o5.form; have O5 := Lib.hid o5; clear b o5 g5 n5; have e_n_0 := blkc HAn.out (j := 0) (u := an1) rfl; have e_n_1 := blkc HAn.out (j := 1) (u := an2) rfl; have e_xn_0 := blkc HXn.out (j := 0) (u := (.slice t3a0 t3n0 t3c0)) rfl; have e_xn_1 := blkc HXn.out (j := 1) (u := (.slice t3a1 t3n1 t3c1)) rfl)
    | (go_at_call 13; refine (eqNetwork_same _ _ n _ (O3.out.rd (HZn.out).2.2) (O5.out.rd (HZn.out).2.2)).mono ?_; rintro e w12 ⟨rfl, b⟩; have B12 := Lib.hid (B11.out.trans (b.mono B11.out.size)); have SZ12 := Lib.hid b.size; have O3 := Lib.hid (O3.out.behind b); have O4 := Lib.hid (O4.out.behind b); have HAn := Lib.hid (kept_o' HAn.out b); have HXn := Lib.hid (kept_o' HXn.out b); clear b; have h_n_0 := blkc HAn.out (j := 0) (u := an1) rfl; have h_n_1 := blkc HAn.out (j := 1) (u := an2) rfl; have h_xn_0 := blkc HXn.out (j := 0) (u := (.slice t3a0 t3n0 t3c0)) rfl; have h_xn_1 := blkc HXn.out (j := 1) (u := (.slice t3a1 t3n1 t3c1)) rfl))
  clear e_n_0 e_n_1 e_xn_0 e_xn_1 h_n_0 h_n_1 h_xn_0 h_xn_1 dd0 dd1 dd2 dd3
  go_wp2_with fail
  refine (HTOgs.out _ B12.out).mono ?_
  unfold ToP
  rintro e w13 ⟨t6, f6, rfl, o6, n6, g6, b⟩
  have B13 := Lib.hid (B12.out.trans (b.mono B12.out.size))
  have SZ13 := Lib.hid b.size
  have O3 := Lib.hid (O3.out.behind b)
  have O4 := Lib.hid (O4.out.behind b)
  have HAn := Lib.hid (kept_o' HAn.out b)
  have HXn := Lib.hid (kept_o' HXn.out b)
  have O6 := Lib.hid o6
  have HI6 := Lib.hid o6.lt
  have LO6 := Lib.hid g6
  have ND6 := Lib.hid n6
  clear b o6 g6 n6
  go_wp2_with fail
  refine (eqGrowthS_same t4 t6 gs _ O4.out.rd O6.out.rd).mono ?_
  rintro e w14 ⟨rfl, b⟩
  have B14 := Lib.hid (B13.out.trans (b.mono B13.out.size))
  have SZ14 := Lib.hid b.size
  have O3 := Lib.hid (O3.out.behind b)
  have O4 := Lib.hid (O4.out.behind b)
  have HAn := Lib.hid (kept_o' HAn.out b)
  have HXn := Lib.hid (kept_o' HXn.out b)
  clear b
  go_wp2
  go_ret
  exact ⟨rfl, B14.out⟩
end Go.Proofs.Ytphhenlokbodnaa
