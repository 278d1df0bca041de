/- The law FnExactDelayGrowth. (The law's walk is printed by genexact.py.) -/
import Derived.Test.YtphhenlokbodnaaExb
import Derived.Test.YtphhenlokbodnaaOpg
import Derived.Test.YtphhenlokbodnaaGdlW
namespace Go.Proofs.Ytphhenlokbodnaa
open Go.RowKit Go.Sort
set_option maxRecDepth 100000

set_option maxHeartbeats 6400000 in
theorem FnExactDelayGrowth_walk (vn : Value) (n : Net) (vgs : Value) (gs : List Gro) (p : Int) (d : Int) (w : World) (hn : NetW w vn n) (hgs : Rwt w (flt 6 groE gs) vgs) :
    Calls Try.prog 5 #[vn, vgs, .int .i64 p, .int .i64 d] w fun e w' => e = .returned (.bool true) ∧ Below w.heap.size w w' := by
  have HWn := Lib.hid (fun wx (hb : Below w.heap.size w wx) => hn.behind hb)
  have hsm0n : ∀ i : Nat, (nmA n i).size ≤ totS n.ns := fun i => totS_mem n.ns i
  obtain ⟨an1, an2, evn⟩ : ∃ u1 u2, vn = .agg #[u1, u2] := by obtain ⟨u1, u2, e, _⟩ := hn; exact ⟨u1, u2, e⟩
  subst evn
  clear hn
  have HWgs := Lib.hid (fun wx (hb : Below w.heap.size w wx) => hgs.behind hb)
  clear hgs
  have b0 := Below.refl w.heap.size w
  have b1 := b0.alloc b0.size (.cells #[an1, an2] 25)
  have kan := heap_alloc_new w (.cells #[an1, an2] 25)
  have HAn := Lib.hid kan
  have hz0 : (w.alloc (.cells #[an1, an2] 25)).heap.size = w.heap.size + 1 := by simp
  have B0 := Lib.hid b1
  have SZ0 := Lib.hid hz0
  clear hz0 b0 b1 kan
  go_enter Try.func5, Try.ntmps5
  go_wp2_with fail
  generalize (w.alloc (.cells #[an1, an2] 25)) = w0 at *
  refine (szNetwork_any _ n 1048576 _ (HWn.out _ B0.out) (by omega) (by omega)).mono ?_
  unfold SzQ
  rintro e w1 ⟨r0, rfl, b, hr0⟩
  have B1 := Lib.hid (B0.out.trans (b.mono B0.out.size))
  have SZ1 := Lib.hid b.size
  have HAn := Lib.hid (kept_o' HAn.out b)
  clear b
  by_cases hneg0 : r0 < 0
  · have hnb : decide (r0 < 0) = true := decide_eq_true hneg0
    clear hr0
    go_wp2
    go_ret
    exact ⟨rfl, B1.out⟩
  have hnb0 : decide (r0 < 0) = false := decide_eq_false hneg0
  have hq0 : ((szN n : Nat) : Int) ≤ 1048576 := by omega
  have hrp0 : 0 ≤ r0 := by omega
  have hrb0 : r0 ≤ 1048576 := by omega
  clear hr0
  go_wp2_with fail
  refine (szGrowthS_Q vgs gs r0 _ (HWgs.out _ B1.out) (by omega) (by omega)).mono ?_
  unfold SzQ
  rintro e w2 ⟨r1, rfl, b, hr1⟩
  have B2 := Lib.hid (B1.out.trans (b.mono B1.out.size))
  have SZ2 := Lib.hid b.size
  have HAn := Lib.hid (kept_o' HAn.out b)
  clear b
  by_cases hneg1 : r1 < 0
  · have hnb : decide (r1 < 0) = true := decide_eq_true hneg1
    clear hr1
    go_wp2
    go_ret
    exact ⟨rfl, B2.out⟩
  have hnb1 : decide (r1 < 0) = false := decide_eq_false hneg1
  have hq1 : ((gs.length : Nat) : Int) ≤ r0 := by omega
  have hrp1 : 0 ≤ r1 := by omega
  have hrb1 : r1 ≤ 1048576 := by omega
  clear hr1
  have HZn := Lib.hid (show n.ns.length ≤ 1048576 ∧ n.fs.length ≤ 1048576 ∧ NetSm n from ⟨by have : szN n = n.ns.length + totS n.ns + n.fs.length := rfl; omega, by have : szN n = n.ns.length + totS n.ns + n.fs.length := rfl; omega, fun i => Nat.le_trans (hsm0n i) (by have : szN n = n.ns.length + totS n.ns + n.fs.length := rfl; omega)⟩)
  have HZgs := Lib.hid (show gs.length ≤ 1048576 ∧ True from ⟨by omega, trivial⟩)
  have HTOn := Lib.hid (fun wx (hb : Below w.heap.size w wx) => toNetwork_any _ n wx (HWn.out _ hb) (HZn.out).1 (HZn.out).2.1)
  have HTOgs := Lib.hid (fun wx (hb : Below w.heap.size w wx) => toGrowthS_P vgs gs wx (HWgs.out _ hb) (HZgs.out).1)
  clear hq1
  clear hq0
  have HRL := Lib.hid (show (delR n gs p d).length ≤ 1048576 from Nat.le_trans (delR_len n gs p d) (HZgs.out).1)
  have hsp := fun v u wx h hg => specDelay_any v u n gs p d wx h hg
  have him := fun v u wx h hg => implDelay_any v u n gs p d wx h hg
  unfold DelP at hsp him
  have HSP := Lib.hid hsp
  have HIM := Lib.hid him
  clear hsp him
  generalize delR n gs p d = R at *
  generalize delOk n gs p d = ok at *
  have hne1 : (ok != ok) = false := by simp
  have c_n_0 := blkc HAn.out (j := 0) (u := an1) rfl
  have c_n_1 := blkc HAn.out (j := 1) (u := an2) rfl
  go_wp2_with fail
  clear c_n_0 c_n_1
  refine (HTOn.out _ B2.out).mono ?_
  unfold ToP
  rintro e w3 ⟨t1, f1, rfl, o1, n1, g1, b⟩
  have B3 := Lib.hid (B2.out.trans (b.mono B2.out.size))
  have SZ3 := Lib.hid b.size
  have HAn := Lib.hid (kept_o' HAn.out b)
  obtain ⟨t1a0, t1n0, t1c0, t1a1, t1n1, t1c1, rfl⟩ := o1.form
  have O1 := Lib.hid o1
  have HI1 := Lib.hid o1.lt
  have LO1 := Lib.hid g1
  have ND1 := Lib.hid n1
  clear b o1 g1 n1
  go_wp2_with fail
  refine (HTOgs.out _ B3.out).mono ?_
  unfold ToP
  rintro e w4 ⟨t2, f2, rfl, o2, n2, g2, b⟩
  have B4 := Lib.hid (B3.out.trans (b.mono B3.out.size))
  have SZ4 := Lib.hid b.size
  have O1 := Lib.hid (O1.out.behind b)
  have HAn := Lib.hid (kept_o' HAn.out b)
  have O2 := Lib.hid o2
  have HI2 := Lib.hid o2.lt
  have LO2 := Lib.hid g2
  have ND2 := Lib.hid n2
  clear b o2 g2 n2
  go_wp2_with fail
  refine (HSP.out _ _ _ (O1.out.rd (HZn.out).2.2) O2.out.rd).mono ?_
  rintro e w5 ⟨y1_0, rfl, o1_0, b⟩
  obtain ⟨f3, u3, n3, g3⟩ := o1_0.open
  have B5 := Lib.hid (B4.out.trans (b.mono B4.out.size))
  have SZ5 := Lib.hid b.size
  have O1 := Lib.hid (O1.out.behind b)
  have O2 := Lib.hid (O2.out.behind b)
  have HAn := Lib.hid (kept_o' HAn.out b)
  have O3 := Lib.hid u3
  have HI3 := Lib.hid (fun k hk => (g3 k hk).2)
  have LO3 := Lib.hid (fun k hk => (g3 k hk).1)
  have ND3 := Lib.hid n3
  clear b u3 n3 g3 o1_0
  have c_n_0 := blkc HAn.out (j := 0) (u := an1) rfl
  have c_n_1 := blkc HAn.out (j := 1) (u := an2) rfl
  go_wp2_with fail
  clear c_n_0 c_n_1
  refine (HTOn.out _ B5.out).mono ?_
  unfold ToP
  rintro e w6 ⟨t4, f4, rfl, o4, n4, g4, b⟩
  have B6 := Lib.hid (B5.out.trans (b.mono B5.out.size))
  have SZ6 := Lib.hid b.size
  have O3 := Lib.hid (O3.out.behind b)
  have HAn := Lib.hid (kept_o' HAn.out b)
  obtain ⟨t4a0, t4n0, t4c0, t4a1, t4n1, t4c1, rfl⟩ := o4.form
  have O4 := Lib.hid o4
  have HI4 := Lib.hid o4.lt
  have LO4 := Lib.hid g4
  have ND4 := Lib.hid n4
  clear b o4 g4 n4
  have c_n_0 := blkc HAn.out (j := 0) (u := an1) rfl
  have c_n_1 := blkc HAn.out (j := 1) (u := an2) rfl
  have ne_n : ¬ w.heap.size = w6.heap.size := by have h1 := (Array.getElem?_eq_some_iff.1 HAn.out).1; omega
  have b := (Below.refl w6.heap.size w6).alloc (Nat.le_refl _) (.cells #[(.slice t4a0 t4n0 t4c0), (.slice t4a1 t4n1 t4c1)] 32)
  have kxn := heap_alloc_new w6 (.cells #[(.slice t4a0 t4n0 t4c0), (.slice t4a1 t4n1 t4c1)] 32)
  have sx := (show w6.heap.size < (w6.alloc (.cells #[(.slice t4a0 t4n0 t4c0), (.slice t4a1 t4n1 t4c1)] 32)).heap.size by simp)
  have NL3xn := Lib.hid (show ¬ (w6.heap.size ∈ f3) from fun hk => by have h1 := HI3.out _ hk; have s6 := SZ6.out; omega)
  have NL4xn := Lib.hid (show ¬ (w6.heap.size ∈ f4) from fun hk => by have h1 := HI4.out _ hk; skip; omega)
  have B7 := Lib.hid (B6.out.trans (b.mono B6.out.size))
  have SZ7 := Lib.hid b.size
  have O3 := Lib.hid (O3.out.behind b)
  have O4 := Lib.hid (O4.out.behind b)
  have HAn := Lib.hid (kept_o' HAn.out b)
  have HXn := Lib.hid kxn
  have SZX6 := Lib.hid sx
  clear b kxn sx
  go_wp2_with fail
  clear c_n_0 c_n_1 ne_n
  generalize w6.alloc (.cells #[(.slice t4a0 t4n0 t4c0), (.slice t4a1 t4n1 t4c1)] 32) = w7 at *
  refine (HTOgs.out _ B7.out).mono ?_
  unfold ToP
  rintro e w8 ⟨t5, f5, rfl, o5, n5, g5, b⟩
  have B8 := Lib.hid (B7.out.trans (b.mono B7.out.size))
  have SZ8 := Lib.hid b.size
  have O3 := Lib.hid (O3.out.behind b)
  have O4 := Lib.hid (O4.out.behind b)
  have HAn := Lib.hid (kept_o' HAn.out b)
  have HXn := Lib.hid (kept_o' HXn.out b)
  have O5 := Lib.hid o5
  have HI5 := Lib.hid o5.lt
  have LO5 := Lib.hid g5
  have ND5 := Lib.hid n5
  clear b o5 g5 n5
  have NL5xn := Lib.hid (show ¬ (w6.heap.size ∈ f5) from fun hk => by have h1 := LO5.out _ hk; have sx := SZX6.out; skip; omega)
  have c_xn_0 := blkc HXn.out (j := 0) (u := (.slice t4a0 t4n0 t4c0)) rfl
  have c_xn_1 := blkc HXn.out (j := 1) (u := (.slice t4a1 t4n1 t4c1)) rfl
  go_wp2_with fail
  clear c_xn_0 c_xn_1
  refine (HIM.out _ _ _ (O4.out.rd (HZn.out).2.2) O5.out.rd).mono ?_
  rintro e w9 ⟨y2_0, rfl, o2_0, b⟩
  obtain ⟨f6, u6, n6, g6⟩ := o2_0.open
  have B9 := Lib.hid (B8.out.trans (b.mono B8.out.size))
  have SZ9 := Lib.hid b.size
  have O3 := Lib.hid (O3.out.behind b)
  have O4 := Lib.hid (O4.out.behind b)
  have O5 := Lib.hid (O5.out.behind b)
  have HAn := Lib.hid (kept_o' HAn.out b)
  have HXn := Lib.hid (kept_o' HXn.out b)
  have O6 := Lib.hid u6
  have HI6 := Lib.hid (fun k hk => (g6 k hk).2)
  have LO6 := Lib.hid (fun k hk => (g6 k hk).1)
  have ND6 := Lib.hid n6
  clear b u6 n6 g6 o2_0
  have NL6xn := Lib.hid (show ¬ (w6.heap.size ∈ f6) from fun hk => by have h1 := LO6.out _ hk; have sx := SZX6.out; have s8 := SZ8.out; omega)
  go_wp2_with fail
  refine (eqGrowthS_same y2_0 y1_0 R _ O6.out.rd O3.out.rd).mono ?_
  rintro e w10 ⟨rfl, b⟩
  have B10 := Lib.hid (B9.out.trans (b.mono B9.out.size))
  have SZ10 := Lib.hid b.size
  have O3 := Lib.hid (O3.out.behind b)
  have O4 := Lib.hid (O4.out.behind b)
  have O5 := Lib.hid (O5.out.behind b)
  have O6 := Lib.hid (O6.out.behind b)
  have HAn := Lib.hid (kept_o' HAn.out b)
  have HXn := Lib.hid (kept_o' HXn.out b)
  clear b
  have d_n_0 := blkc HAn.out (j := 0) (u := an1) rfl
  have d_n_1 := blkc HAn.out (j := 1) (u := an2) rfl
  have d_xn_0 := blkc HXn.out (j := 0) (u := (.slice t4a0 t4n0 t4c0)) rfl
  have d_xn_1 := blkc HXn.out (j := 1) (u := (.slice t4a1 t4n1 t4c1)) rfl
  go_wp2
  have dd0 : w10.drew.cell? ⟨w.heap.size, 0, none⟩ = some an1 := d_n_0
  have dd1 : w10.drew.cell? ⟨w.heap.size, 1, none⟩ = some an2 := d_n_1
  have dd2 : w10.drew.cell? ⟨w6.heap.size, 0, none⟩ = some (.slice t4a0 t4n0 t4c0) := d_xn_0
  have dd3 : w10.drew.cell? ⟨w6.heap.size, 1, none⟩ = some (.slice t4a1 t4n1 t4c1) := d_xn_1
  have b := (Dr.refl w10).drew.below (Below.refl w10.heap.size w10)
  have B11 := Lib.hid (B10.out.trans (b.mono B10.out.size))
  have SZ11 := Lib.hid (show w10.heap.size ≤ w10.drew.heap.size from Nat.le_refl _)
  have O3 := Lib.hid (O3.out.behind b)
  have O4 := Lib.hid (O4.out.behind b)
  have O5 := Lib.hid (O5.out.behind b)
  have O6 := Lib.hid (O6.out.behind b)
  have HAn := Lib.hid (kept_o' HAn.out b)
  have HXn := Lib.hid (kept_o' HXn.out b)
  clear b d_n_0 d_n_1 d_xn_0 d_xn_1
  go_region_held3 (fun w' => w'.cell? ⟨w.heap.size, 0, none⟩ = some an1 ∧ w'.cell? ⟨w.heap.size, 1, none⟩ = some an2 ∧ w'.cell? ⟨w6.heap.size, 0, none⟩ = some (.slice t4a0 t4n0 t4c0) ∧ w'.cell? ⟨w6.heap.size, 1, none⟩ = some (.slice t4a1 t4n1 t4c1)) (first | (with_reducible exact ⟨dd0, dd1, dd2, dd3⟩) | (with_reducible exact ⟨e_n_0, e_n_1, e_xn_0, e_xn_1⟩) | (with_reducible exact ⟨h_n_0, h_n_1, h_xn_0, h_xn_1⟩)) (first
    | (go_at_call 10; refine (HTOn.out _ B11.out).mono ?_; unfold ToP; rintro e w12 ⟨t7, f7, rfl, o7, n7, g7, b⟩; have B12 := Lib.hid (B11.out.trans (b.mono B11.out.size)); have SZ12 := Lib.hid b.size; have O3 := Lib.hid (O3.out.behind b); have O4 := Lib.hid (O4.out.behind b); have O5 := Lib.hid (O5.out.behind b); have O6 := Lib.hid (O6.out.behind b); have HAn := Lib.hid (kept_o' HAn.out b); have HXn := Lib.hid (kept_o' HXn.out b); obtain ⟨t7a0, t7n0, t7c0, t7a1, t7n1, t7c1, rfl⟩ := o7.form; have O7 := Lib.hid o7; clear b o7 g7 n7; have e_n_0 := blkc HAn.out (j := 0) (u := an1) rfl; have e_n_1 := blkc HAn.out (j := 1) (u := an2) rfl; have e_xn_0 := blkc HXn.out (j := 0) (u := (.slice t4a0 t4n0 t4c0)) rfl; have e_xn_1 := blkc HXn.out (j := 1) (u := (.slice t4a1 t4n1 t4c1)) rfl)
    | (go_at_call 13; refine (eqNetwork_same _ _ n _ (O4.out.rd (HZn.out).2.2) (O7.out.rd (HZn.out).2.2)).mono ?_; rintro e w13 ⟨rfl, b⟩; have B13 := Lib.hid (B12.out.trans (b.mono B12.out.size)); have SZ13 := Lib.hid b.size; have O3 := Lib.hid (O3.out.behind b); have O4 := Lib.hid (O4.out.behind b); have O5 := Lib.hid (O5.out.behind b); have O6 := Lib.hid (O6.out.behind b); have HAn := Lib.hid (kept_o' HAn.out b); have HXn := Lib.hid (kept_o' HXn.out b); clear b; have h_n_0 := blkc HAn.out (j := 0) (u := an1) rfl; have h_n_1 := blkc HAn.out (j := 1) (u := an2) rfl; have h_xn_0 := blkc HXn.out (j := 0) (u := (.slice t4a0 t4n0 t4c0)) rfl; have h_xn_1 := blkc HXn.out (j := 1) (u := (.slice t4a1 t4n1 t4c1)) rfl))
  clear e_n_0 e_n_1 e_xn_0 e_xn_1 h_n_0 h_n_1 h_xn_0 h_xn_1 dd0 dd1 dd2 dd3
  go_wp2_with fail
  refine (HTOgs.out _ B13.out).mono ?_
  unfold ToP
  rintro e w14 ⟨t8, f8, rfl, o8, n8, g8, b⟩
  have B14 := Lib.hid (B13.out.trans (b.mono B13.out.size))
  have SZ14 := Lib.hid b.size
  have O3 := Lib.hid (O3.out.behind b)
  have O4 := Lib.hid (O4.out.behind b)
  have O5 := Lib.hid (O5.out.behind b)
  have O6 := Lib.hid (O6.out.behind b)
  have HAn := Lib.hid (kept_o' HAn.out b)
  have HXn := Lib.hid (kept_o' HXn.out b)
  have O8 := Lib.hid o8
  have HI8 := Lib.hid o8.lt
  have LO8 := Lib.hid g8
  have ND8 := Lib.hid n8
  clear b o8 g8 n8
  go_wp2_with fail
  refine (eqGrowthS_same t5 t8 gs _ O5.out.rd O8.out.rd).mono ?_
  rintro e w15 ⟨rfl, b⟩
  have B15 := Lib.hid (B14.out.trans (b.mono B14.out.size))
  have SZ15 := Lib.hid b.size
  have O3 := Lib.hid (O3.out.behind b)
  have O4 := Lib.hid (O4.out.behind b)
  have O5 := Lib.hid (O5.out.behind b)
  have O6 := Lib.hid (O6.out.behind b)
  have HAn := Lib.hid (kept_o' HAn.out b)
  have HXn := Lib.hid (kept_o' HXn.out b)
  clear b
  obtain ⟨k0, hk0⟩ : ∃ m : Nat, m = 1 + mkN n := ⟨_, rfl⟩
  have hkp0 : 0 < k0 ∧ k0 ≤ 67108864 := by have : mkN n = n.ns.length + 4 * n.fs.length := rfl; have := (HZn.out).1; have := (HZn.out).2.1; omega
  have c_xn_0 := blkc HXn.out (j := 0) (u := (.slice t4a0 t4n0 t4c0)) rfl
  have c_xn_1 := blkc HXn.out (j := 1) (u := (.slice t4a1 t4n1 t4c1)) rfl
  go_wp2_with fail
  clear c_xn_0 c_xn_1
  refine (markNetwork_any _ n f4 1 _ O4.out ND4.out (HZn.out).1 (HZn.out).2.1 (by omega) (by omega)).mono ?_
  rw [← hk0]
  rintro e w16 ⟨rfl, -, wr⟩
  have B16 := Lib.hid (wr.below B15.out B15.out.size (fun k hk => by have h1 := LO4.out k hk; have s0 := SZ0.out; have s1 := SZ1.out; have s2 := SZ2.out; have s3 := SZ3.out; have s4 := SZ4.out; have s5 := SZ5.out; omega))
  have SZ16 := Lib.hid wr.size
  have O3 := Lib.hid (O3.out.apart wr (fun k hk hk2 => by have h1 := HI3.out k hk; have h2 := LO4.out k hk2; skip; omega))
  have O5 := Lib.hid (O5.out.apart wr (fun k hk hk2 => by have h1 := HI4.out k hk2; have h2 := LO5.out k hk; have s7 := SZ7.out; omega))
  have O6 := Lib.hid (O6.out.apart wr (fun k hk hk2 => by have h1 := HI4.out k hk2; have h2 := LO6.out k hk; have s7 := SZ7.out; have s8 := SZ8.out; omega))
  have HAn := Lib.hid ((wr.block _ (Array.getElem?_eq_some_iff.1 HAn.out).1 (fun hk => by have h1 := LO4.out _ hk; have s0 := SZ0.out; have s1 := SZ1.out; have s2 := SZ2.out; have s3 := SZ3.out; have s4 := SZ4.out; have s5 := SZ5.out; omega)).trans HAn.out)
  have HXn := Lib.hid ((wr.block _ (Array.getElem?_eq_some_iff.1 HXn.out).1 (fun hk => by exact NL4xn.out hk)).trans HXn.out)
  clear wr hk0
  obtain ⟨k1, hk1⟩ : ∃ m : Nat, m = k0 + 6 * gs.length := ⟨_, rfl⟩
  have hkp1 : 0 < k1 ∧ k1 ≤ 134217728 := by have := (HZgs.out).1; omega
  go_wp2_with fail
  refine (markGrowthS_N t5 gs f5 k0 _ O5.out ND5.out (HZgs.out).1 (by omega) (by omega)).mono ?_
  rw [← hk1]
  rintro e w17 ⟨rfl, -, wr⟩
  have B17 := Lib.hid (wr.below B16.out B16.out.size (fun k hk => by have h1 := LO5.out k hk; have s0 := SZ0.out; have s1 := SZ1.out; have s2 := SZ2.out; have s3 := SZ3.out; have s4 := SZ4.out; have s5 := SZ5.out; have s6 := SZ6.out; have s7 := SZ7.out; omega))
  have SZ17 := Lib.hid wr.size
  have O3 := Lib.hid (O3.out.apart wr (fun k hk hk2 => by have h1 := HI3.out k hk; have h2 := LO5.out k hk2; have s6 := SZ6.out; have s7 := SZ7.out; omega))
  have O6 := Lib.hid (O6.out.apart wr (fun k hk hk2 => by have h1 := HI5.out k hk2; have h2 := LO6.out k hk; skip; omega))
  have HAn := Lib.hid ((wr.block _ (Array.getElem?_eq_some_iff.1 HAn.out).1 (fun hk => by have h1 := LO5.out _ hk; have s0 := SZ0.out; have s1 := SZ1.out; have s2 := SZ2.out; have s3 := SZ3.out; have s4 := SZ4.out; have s5 := SZ5.out; have s6 := SZ6.out; have s7 := SZ7.out; omega)).trans HAn.out)
  have HXn := Lib.hid ((wr.block _ (Array.getElem?_eq_some_iff.1 HXn.out).1 (fun hk => by exact NL5xn.out hk)).trans HXn.out)
  clear wr hk1
  have hkn : ¬ (k1 : Int) < 0 := by omega
  have hknb : decide ((k1 : Int) < 0) = false := decide_eq_false hkn
  go_wp2_with fail
  refine (eqGrowthS_same y2_0 y1_0 R _ O6.out.rd O3.out.rd).mono ?_
  rintro e w18 ⟨rfl, b⟩
  have B18 := Lib.hid (B17.out.trans (b.mono B17.out.size))
  have SZ18 := Lib.hid b.size
  have O3 := Lib.hid (O3.out.behind b)
  have O6 := Lib.hid (O6.out.behind b)
  have HAn := Lib.hid (kept_o' HAn.out b)
  clear b
  clear hkn hknb
  obtain ⟨m0, hm0⟩ : ∃ m : Nat, m = 1 + 6 * R.length := ⟨_, rfl⟩
  have hmb0 : 1 ≤ m0 := by omega
  go_wp2_with fail
  refine (markGrowthS_N y2_0 R f6 1 _ O6.out ND6.out (by have := HRL.out; omega) (by omega) (by omega)).mono ?_
  rw [← hm0]
  rintro e w19 ⟨rfl, om, wr⟩
  have B19 := Lib.hid (wr.below B18.out B18.out.size (fun k hk => by have h1 := LO6.out k hk; have s0 := SZ0.out; have s1 := SZ1.out; have s2 := SZ2.out; have s3 := SZ3.out; have s4 := SZ4.out; have s5 := SZ5.out; have s6 := SZ6.out; have s7 := SZ7.out; have s8 := SZ8.out; omega))
  have SZ19 := Lib.hid wr.size
  have O3 := Lib.hid (O3.out.apart wr (fun k hk hk2 => by have h1 := HI3.out k hk; have h2 := LO6.out k hk2; have s6 := SZ6.out; have s7 := SZ7.out; have s8 := SZ8.out; omega))
  have HAn := Lib.hid ((wr.block _ (Array.getElem?_eq_some_iff.1 HAn.out).1 (fun hk => by have h1 := LO6.out _ hk; have s0 := SZ0.out; have s1 := SZ1.out; have s2 := SZ2.out; have s3 := SZ3.out; have s4 := SZ4.out; have s5 := SZ5.out; have s6 := SZ6.out; have s7 := SZ7.out; have s8 := SZ8.out; omega)).trans HAn.out)
  have O6 := Lib.hid om
  have HM0 := Lib.hid hm0
  clear wr hm0 om
  have hmn : (m0 != m0) = false := by simp
  have hmi : ((m0 : Int) != (m0 : Int)) = false := by simp
  go_wp2_with fail
  refine (heldGrowthS_N y2_0 R.length 1 _ O6.out.rd (by have := HRL.out; omega) (by omega) (by omega)).mono ?_
  rw [← HM0.out]
  rintro e w20 ⟨rfl, b⟩
  have B20 := Lib.hid (B19.out.trans (b.mono B19.out.size))
  have SZ20 := Lib.hid b.size
  have O3 := Lib.hid (O3.out.behind b)
  have O6 := Lib.hid (O6.out.behind b)
  have HAn := Lib.hid (kept_o' HAn.out b)
  clear b
  have hqn0 : ¬ (m0 : Int) < 0 := by omega
  have hqb0 : decide ((m0 : Int) < 0) = false := decide_eq_false hqn0
  clear hqn0 hqb0
  have c_n_0 := blkc HAn.out (j := 0) (u := an1) rfl
  have c_n_1 := blkc HAn.out (j := 1) (u := an2) rfl
  go_wp2_with fail
  clear c_n_0 c_n_1
  refine (HTOn.out _ B20.out).mono ?_
  unfold ToP
  rintro e w21 ⟨t9, f9, rfl, o9, n9, g9, b⟩
  have B21 := Lib.hid (B20.out.trans (b.mono B20.out.size))
  have SZ21 := Lib.hid b.size
  have O3 := Lib.hid (O3.out.behind b)
  have O6 := Lib.hid (O6.out.behind b)
  have HAn := Lib.hid (kept_o' HAn.out b)
  obtain ⟨t9a0, t9n0, t9c0, t9a1, t9n1, t9c1, rfl⟩ := o9.form
  have O9 := Lib.hid o9
  have HI9 := Lib.hid o9.lt
  have LO9 := Lib.hid g9
  have ND9 := Lib.hid n9
  clear b o9 g9 n9
  go_wp2_with fail
  refine (HTOgs.out _ B21.out).mono ?_
  unfold ToP
  rintro e w22 ⟨t10, f10, rfl, o10, n10, g10, b⟩
  have B22 := Lib.hid (B21.out.trans (b.mono B21.out.size))
  have SZ22 := Lib.hid b.size
  have O3 := Lib.hid (O3.out.behind b)
  have O6 := Lib.hid (O6.out.behind b)
  have O9 := Lib.hid (O9.out.behind b)
  have HAn := Lib.hid (kept_o' HAn.out b)
  have O10 := Lib.hid o10
  have HI10 := Lib.hid o10.lt
  have LO10 := Lib.hid g10
  have ND10 := Lib.hid n10
  clear b o10 g10 n10
  go_wp2_with fail
  refine (HIM.out _ _ _ (O9.out.rd (HZn.out).2.2) O10.out.rd).mono ?_
  rintro e w23 ⟨y3_0, rfl, o3_0, b⟩
  obtain ⟨f11, u11, n11, g11⟩ := o3_0.open
  have B23 := Lib.hid (B22.out.trans (b.mono B22.out.size))
  have SZ23 := Lib.hid b.size
  have O3 := Lib.hid (O3.out.behind b)
  have O6 := Lib.hid (O6.out.behind b)
  have O9 := Lib.hid (O9.out.behind b)
  have O10 := Lib.hid (O10.out.behind b)
  have HAn := Lib.hid (kept_o' HAn.out b)
  have O11 := Lib.hid u11
  have HI11 := Lib.hid (fun k hk => (g11 k hk).2)
  have LO11 := Lib.hid (fun k hk => (g11 k hk).1)
  have ND11 := Lib.hid n11
  clear b u11 n11 g11 o3_0
  go_wp2_with fail
  refine (eqGrowthS_same y3_0 y1_0 R _ O11.out.rd O3.out.rd).mono ?_
  rintro e w24 ⟨rfl, b⟩
  have B24 := Lib.hid (B23.out.trans (b.mono B23.out.size))
  have SZ24 := Lib.hid b.size
  have O3 := Lib.hid (O3.out.behind b)
  have O6 := Lib.hid (O6.out.behind b)
  have O11 := Lib.hid (O11.out.behind b)
  have HAn := Lib.hid (kept_o' HAn.out b)
  clear b
  go_wp2_with fail
  refine (heldGrowthS_N y2_0 R.length 1 _ O6.out.rd (by have := HRL.out; omega) (by omega) (by omega)).mono ?_
  rw [← HM0.out]
  rintro e w25 ⟨rfl, b⟩
  have B25 := Lib.hid (B24.out.trans (b.mono B24.out.size))
  have SZ25 := Lib.hid b.size
  have O3 := Lib.hid (O3.out.behind b)
  have O6 := Lib.hid (O6.out.behind b)
  have O11 := Lib.hid (O11.out.behind b)
  have HAn := Lib.hid (kept_o' HAn.out b)
  clear b
  have hqn0 : ¬ (m0 : Int) < 0 := by omega
  have hqb0 : decide ((m0 : Int) < 0) = false := decide_eq_false hqn0
  go_wp2
  go_ret
  exact ⟨rfl, B25.out⟩
end Go.Proofs.Ytphhenlokbodnaa
