/- The law FnExactNewConsole. (The law's walk is printed by genexact.py.) -/
import Derived.Test.YtonpcgdnfclidaaGreatDoorBh15
import Derived.Test.YtonpcgdnfclidaaGreatDoorBh16
import Derived.Test.YtonpcgdnfclidaaGreatDoorBh13
namespace Go.Proofs.YtonpcgdnfclidaaGreatDoor
open Go.RowKit Go.Sort
set_option maxRecDepth 100000

set_option maxHeartbeats 6400000 in
theorem FnExactNewConsole_walk (vn : Value) (n : Net) (vfs : Value) (fs : List Fmt) (w : World) (hn : NetW w vn n) (hfs : Rwt w (flt 2 fmE fs) vfs) (ht : TabOk w) (hmx : MaxOk w) :
    Calls Tryz.prog 4 #[vn, vfs] w fun e w' => e = .returned (.bool true) ∧ Below w.heap.size w w' := by
  have HTW := Lib.hid (fun w' (hb : Below w.heap.size w w') => ht.below hb)
  have HMW := Lib.hid (fun w' (hb : Below w.heap.size w w') => hmx.below hb)
  clear ht hmx
  have HWn := Lib.hid (fun wx (hb : Below w.heap.size w wx) => hn.behind hb)
  have hsm0n : ∀ i : Nat, (nmA n i).size ≤ totS n.ns := fun i => totS_mem n.ns i
  obtain ⟨an1, an2, evn⟩ : ∃ u1 u2, vn = .agg #[u1, u2] := by obtain ⟨u1, u2, e, _⟩ := hn; exact ⟨u1, u2, e⟩
  subst evn
  clear hn
  have HWfs := Lib.hid (fun wx (hb : Below w.heap.size w wx) => hfs.behind hb)
  clear hfs
  have b0 := Below.refl w.heap.size w
  have b1 := b0.alloc b0.size (.cells #[an1, an2] 25)
  have kan := heap_alloc_new w (.cells #[an1, an2] 25)
  have HAn := Lib.hid kan
  have hz0 : (w.alloc (.cells #[an1, an2] 25)).heap.size = w.heap.size + 1 := by simp
  have B0 := Lib.hid b1
  have SZ0 := Lib.hid hz0
  clear hz0 b0 b1 kan
  go_enter Tryz.func4, Tryz.ntmps4
  go_wp2_with fail
  generalize (w.alloc (.cells #[an1, an2] 25)) = w0 at *
  refine (szNetwork_any _ n 1048576 _ (HWn.out _ B0.out) (by omega) (by omega)).mono ?_
  unfold SzQ
  rintro e w1 ⟨r0, rfl, b, hr0⟩
  have B1 := Lib.hid (B0.out.trans (b.mono B0.out.size))
  have SZ1 := Lib.hid b.size
  have HAn := Lib.hid (kept_o' HAn.out b)
  clear b
  by_cases hneg0 : r0 < 0
  · have hnb : decide (r0 < 0) = true := decide_eq_true hneg0
    clear hr0
    go_wp2
    go_ret
    exact ⟨rfl, B1.out⟩
  have hnb0 : decide (r0 < 0) = false := decide_eq_false hneg0
  have hq0 : ((szN n : Nat) : Int) ≤ 1048576 := by omega
  have hrp0 : 0 ≤ r0 := by omega
  have hrb0 : r0 ≤ 1048576 := by omega
  clear hr0
  go_wp2_with fail
  refine (szFormatS_Q vfs fs r0 _ (HWfs.out _ B1.out) (by omega) (by omega)).mono ?_
  unfold SzQ
  rintro e w2 ⟨r1, rfl, b, hr1⟩
  have B2 := Lib.hid (B1.out.trans (b.mono B1.out.size))
  have SZ2 := Lib.hid b.size
  have HAn := Lib.hid (kept_o' HAn.out b)
  clear b
  by_cases hneg1 : r1 < 0
  · have hnb : decide (r1 < 0) = true := decide_eq_true hneg1
    clear hr1
    go_wp2
    go_ret
    exact ⟨rfl, B2.out⟩
  have hnb1 : decide (r1 < 0) = false := decide_eq_false hneg1
  have hq1 : ((fs.length : Nat) : Int) ≤ r0 := by omega
  have hrp1 : 0 ≤ r1 := by omega
  have hrb1 : r1 ≤ 1048576 := by omega
  clear hr1
  have HZn := Lib.hid (show n.ns.length ≤ 1048576 ∧ n.fs.length ≤ 1048576 ∧ NetSm n from ⟨by have : szN n = n.ns.length + totS n.ns + n.fs.length := rfl; omega, by have : szN n = n.ns.length + totS n.ns + n.fs.length := rfl; omega, fun i => Nat.le_trans (hsm0n i) (by have : szN n = n.ns.length + totS n.ns + n.fs.length := rfl; omega)⟩)
  have HZfs := Lib.hid (show fs.length ≤ 1048576 ∧ True from ⟨by omega, trivial⟩)
  have HTOn := Lib.hid (fun wx (hb : Below w.heap.size w wx) => toNetwork_any _ n wx (HWn.out _ hb) (HZn.out).1 (HZn.out).2.1)
  have HTOfs := Lib.hid (fun wx (hb : Below w.heap.size w wx) => toFormatS_P vfs fs wx (HWfs.out _ hb) (HZfs.out).1)
  clear hq1
  clear hq0
  have HSP := Lib.hid (fun u1 u2 v wx (h : NetR wx (.agg #[u1, u2]) n) (h2 : Rdt wx (flt 2 fmE fs) v) => specNco_any u1 u2 v n fs wx h h2 (HZn.out).1 (HZn.out).2.1 (HZfs.out).1)
  have HIM := Lib.hid (fun u1 u2 v wx (hb : Below w.heap.size w wx) (h : NetR wx (.agg #[u1, u2]) n) (h2 : Rdt wx (flt 2 fmE fs) v) => implNco_any u1 u2 v n fs wx h h2 (HZn.out).1 (HZn.out).2.1 (HZfs.out).1 (HTW.out wx hb) (HMW.out wx hb))
  unfold NcoP at HSP HIM
  obtain ⟨n2, fs2, d2, e2, m2, hR, hbd⟩ := ncR_shape (HZn.out).1 (HZn.out).2.1 (HZn.out).2.2 (HZfs.out).1
  have HRB := Lib.hid hbd
  rw [hR] at HSP HIM
  clear hR hbd
  generalize ncOk n fs = ok at *
  have hne1 : (ok != ok) = false := by simp
  have c_n_0 := blkc HAn.out (j := 0) (u := an1) rfl
  have c_n_1 := blkc HAn.out (j := 1) (u := an2) rfl
  go_wp2_with fail
  clear c_n_0 c_n_1
  refine (HTOn.out _ B2.out).mono ?_
  unfold ToP
  rintro e w3 ⟨t1, f1, rfl, o1, n1, g1, b⟩
  have B3 := Lib.hid (B2.out.trans (b.mono B2.out.size))
  have SZ3 := Lib.hid b.size
  have HAn := Lib.hid (kept_o' HAn.out b)
  obtain ⟨t1a0, t1n0, t1c0, t1a1, t1n1, t1c1, rfl⟩ := o1.form
  have O1 := Lib.hid o1
  have HI1 := Lib.hid o1.lt
  have LO1 := Lib.hid g1
  have ND1 := Lib.hid n1
  clear b o1 g1 n1
  go_wp2_with fail
  refine (HTOfs.out _ B3.out).mono ?_
  unfold ToP
  rintro e w4 ⟨t2, f2, rfl, o2, n2, g2, b⟩
  have B4 := Lib.hid (B3.out.trans (b.mono B3.out.size))
  have SZ4 := Lib.hid b.size
  have O1 := Lib.hid (O1.out.behind b)
  have HAn := Lib.hid (kept_o' HAn.out b)
  have O2 := Lib.hid o2
  have HI2 := Lib.hid o2.lt
  have LO2 := Lib.hid g2
  have ND2 := Lib.hid n2
  clear b o2 g2 n2
  go_wp2_with fail
  refine (HSP.out _ _ _ _ (O1.out.rd (HZn.out).2.2) O2.out.rd).mono ?_
  rintro e w5 ⟨y1, f3, rfl, u3, n3, g3, b⟩
  obtain ⟨r1a0, r1n0, r1c0, r1a1, r1n1, r1c1, r1a2, r1n2, r1c2, r1a3, r1n3, r1c3, ev⟩ := u3.form
  have ev2 : y1 = .agg #[(.slice r1a0 r1n0 r1c0), (.slice r1a1 r1n1 r1c1), (.slice r1a2 r1n2 r1c2), (.slice r1a3 r1n3 r1c3), (.string d2), (.string e2), (.int .i64 m2)] := ev
  clear ev
  subst ev2
  have B5 := Lib.hid (B4.out.trans (b.mono B4.out.size))
  have SZ5 := Lib.hid b.size
  have O1 := Lib.hid (O1.out.behind b)
  have O2 := Lib.hid (O2.out.behind b)
  have HAn := Lib.hid (kept_o' HAn.out b)
  have O3 := Lib.hid u3
  have HI3 := Lib.hid (fun k hk => (g3 k hk).2)
  have LO3 := Lib.hid (fun k hk => (g3 k hk).1)
  have ND3 := Lib.hid n3
  clear b u3 n3 g3
  have c_n_0 := blkc HAn.out (j := 0) (u := an1) rfl
  have c_n_1 := blkc HAn.out (j := 1) (u := an2) rfl
  have ne_n : ¬ w.heap.size = w5.heap.size := by have h1 := (Array.getElem?_eq_some_iff.1 HAn.out).1; omega
  have b := (Below.refl w5.heap.size w5).alloc (Nat.le_refl _) (.cells #[(.slice r1a0 r1n0 r1c0), (.slice r1a1 r1n1 r1c1), (.slice r1a2 r1n2 r1c2), (.slice r1a3 r1n3 r1c3), (.string d2), (.string e2), (.int .i64 m2)] 45)
  have kx := heap_alloc_new w5 (.cells #[(.slice r1a0 r1n0 r1c0), (.slice r1a1 r1n1 r1c1), (.slice r1a2 r1n2 r1c2), (.slice r1a3 r1n3 r1c3), (.string d2), (.string e2), (.int .i64 m2)] 45)
  have sx := (show w5.heap.size < (w5.alloc (.cells #[(.slice r1a0 r1n0 r1c0), (.slice r1a1 r1n1 r1c1), (.slice r1a2 r1n2 r1c2), (.slice r1a3 r1n3 r1c3), (.string d2), (.string e2), (.int .i64 m2)] 45)).heap.size by simp)
  have NL1w0v := Lib.hid (show ¬ (w5.heap.size ∈ f1) from fun hk => by have h1 := HI1.out _ hk; have s4 := SZ4.out; have s5 := SZ5.out; omega)
  have NL2w0v := Lib.hid (show ¬ (w5.heap.size ∈ f2) from fun hk => by have h1 := HI2.out _ hk; have s5 := SZ5.out; omega)
  have NL3w0v := Lib.hid (show ¬ (w5.heap.size ∈ f3) from fun hk => by have h1 := HI3.out _ hk; skip; omega)
  have B6 := Lib.hid (B5.out.trans (b.mono B5.out.size))
  have SZ6 := Lib.hid b.size
  have O1 := Lib.hid (O1.out.behind b)
  have O2 := Lib.hid (O2.out.behind b)
  have O3 := Lib.hid (O3.out.behind b)
  have HAn := Lib.hid (kept_o' HAn.out b)
  have d_n_0 := blkc HAn.out (j := 0) (u := an1) rfl
  have d_n_1 := blkc HAn.out (j := 1) (u := an2) rfl
  have HXw0v := Lib.hid kx
  have SZX5 := Lib.hid sx
  clear b kx sx
  go_wp2_with fail
  clear c_n_0 c_n_1 ne_n d_n_0 d_n_1
  generalize w5.alloc (.cells #[(.slice r1a0 r1n0 r1c0), (.slice r1a1 r1n1 r1c1), (.slice r1a2 r1n2 r1c2), (.slice r1a3 r1n3 r1c3), (.string d2), (.string e2), (.int .i64 m2)] 45) = w6 at *
  refine (HTOn.out _ B6.out).mono ?_
  unfold ToP
  rintro e w7 ⟨t4, f4, rfl, o4, n4, g4, b⟩
  have B7 := Lib.hid (B6.out.trans (b.mono B6.out.size))
  have SZ7 := Lib.hid b.size
  have O3 := Lib.hid (O3.out.behind b)
  have HAn := Lib.hid (kept_o' HAn.out b)
  have HXw0v := Lib.hid (kept_o' HXw0v.out b)
  obtain ⟨t4a0, t4n0, t4c0, t4a1, t4n1, t4c1, rfl⟩ := o4.form
  have O4 := Lib.hid o4
  have HI4 := Lib.hid o4.lt
  have LO4 := Lib.hid g4
  have ND4 := Lib.hid n4
  clear b o4 g4 n4
  have NL4w0v := Lib.hid (show ¬ (w5.heap.size ∈ f4) from fun hk => by have h1 := LO4.out _ hk; have sx := SZX5.out; skip; omega)
  have c_n_0 := blkc HAn.out (j := 0) (u := an1) rfl
  have c_n_1 := blkc HAn.out (j := 1) (u := an2) rfl
  have c_w0v_0 := blkc HXw0v.out (j := 0) (u := (.slice r1a0 r1n0 r1c0)) rfl
  have c_w0v_1 := blkc HXw0v.out (j := 1) (u := (.slice r1a1 r1n1 r1c1)) rfl
  have c_w0v_2 := blkc HXw0v.out (j := 2) (u := (.slice r1a2 r1n2 r1c2)) rfl
  have c_w0v_3 := blkc HXw0v.out (j := 3) (u := (.slice r1a3 r1n3 r1c3)) rfl
  have c_w0v_4 := blkc HXw0v.out (j := 4) (u := (.string d2)) rfl
  have c_w0v_5 := blkc HXw0v.out (j := 5) (u := (.string e2)) rfl
  have c_w0v_6 := blkc HXw0v.out (j := 6) (u := (.int .i64 m2)) rfl
  have ne_n : ¬ w.heap.size = w7.heap.size := by have h1 := (Array.getElem?_eq_some_iff.1 HAn.out).1; omega
  have ne_w0v : ¬ w5.heap.size = w7.heap.size := by have h1 := (Array.getElem?_eq_some_iff.1 HXw0v.out).1; omega
  have b := (Below.refl w7.heap.size w7).alloc (Nat.le_refl _) (.cells #[(.slice t4a0 t4n0 t4c0), (.slice t4a1 t4n1 t4c1)] 38)
  have kxn := heap_alloc_new w7 (.cells #[(.slice t4a0 t4n0 t4c0), (.slice t4a1 t4n1 t4c1)] 38)
  have sx := (show w7.heap.size < (w7.alloc (.cells #[(.slice t4a0 t4n0 t4c0), (.slice t4a1 t4n1 t4c1)] 38)).heap.size by simp)
  have NL3xn := Lib.hid (show ¬ (w7.heap.size ∈ f3) from fun hk => by have h1 := HI3.out _ hk; have s6 := SZ6.out; have s7 := SZ7.out; omega)
  have NL4xn := Lib.hid (show ¬ (w7.heap.size ∈ f4) from fun hk => by have h1 := HI4.out _ hk; skip; omega)
  have B8 := Lib.hid (B7.out.trans (b.mono B7.out.size))
  have SZ8 := Lib.hid b.size
  have O3 := Lib.hid (O3.out.behind b)
  have O4 := Lib.hid (O4.out.behind b)
  have HAn := Lib.hid (kept_o' HAn.out b)
  have HXw0v := Lib.hid (kept_o' HXw0v.out b)
  have HXn := Lib.hid kxn
  have SZX7 := Lib.hid sx
  clear b kxn sx
  go_wp2_with fail
  clear c_n_0 c_n_1 c_w0v_0 c_w0v_1 c_w0v_2 c_w0v_3 c_w0v_4 c_w0v_5 c_w0v_6 ne_n ne_w0v
  generalize w7.alloc (.cells #[(.slice t4a0 t4n0 t4c0), (.slice t4a1 t4n1 t4c1)] 38) = w8 at *
  refine (HTOfs.out _ B8.out).mono ?_
  unfold ToP
  rintro e w9 ⟨t5, f5, rfl, o5, n5, g5, b⟩
  have B9 := Lib.hid (B8.out.trans (b.mono B8.out.size))
  have SZ9 := Lib.hid b.size
  have O3 := Lib.hid (O3.out.behind b)
  have O4 := Lib.hid (O4.out.behind b)
  have HAn := Lib.hid (kept_o' HAn.out b)
  have HXw0v := Lib.hid (kept_o' HXw0v.out b)
  have HXn := Lib.hid (kept_o' HXn.out b)
  have O5 := Lib.hid o5
  have HI5 := Lib.hid o5.lt
  have LO5 := Lib.hid g5
  have ND5 := Lib.hid n5
  clear b o5 g5 n5
  have NL5w0v := Lib.hid (show ¬ (w5.heap.size ∈ f5) from fun hk => by have h1 := LO5.out _ hk; have sx := SZX5.out; have s7 := SZ7.out; have s8 := SZ8.out; omega)
  have NL5xn := Lib.hid (show ¬ (w7.heap.size ∈ f5) from fun hk => by have h1 := LO5.out _ hk; have sx := SZX7.out; skip; omega)
  have c_w0v_0 := blkc HXw0v.out (j := 0) (u := (.slice r1a0 r1n0 r1c0)) rfl
  have c_w0v_1 := blkc HXw0v.out (j := 1) (u := (.slice r1a1 r1n1 r1c1)) rfl
  have c_w0v_2 := blkc HXw0v.out (j := 2) (u := (.slice r1a2 r1n2 r1c2)) rfl
  have c_w0v_3 := blkc HXw0v.out (j := 3) (u := (.slice r1a3 r1n3 r1c3)) rfl
  have c_w0v_4 := blkc HXw0v.out (j := 4) (u := (.string d2)) rfl
  have c_w0v_5 := blkc HXw0v.out (j := 5) (u := (.string e2)) rfl
  have c_w0v_6 := blkc HXw0v.out (j := 6) (u := (.int .i64 m2)) rfl
  have c_xn_0 := blkc HXn.out (j := 0) (u := (.slice t4a0 t4n0 t4c0)) rfl
  have c_xn_1 := blkc HXn.out (j := 1) (u := (.slice t4a1 t4n1 t4c1)) rfl
  go_wp2_with fail
  clear c_w0v_0 c_w0v_1 c_w0v_2 c_w0v_3 c_w0v_4 c_w0v_5 c_w0v_6 c_xn_0 c_xn_1
  refine (HIM.out _ _ _ _ B9.out (O4.out.rd (HZn.out).2.2) O5.out.rd).mono ?_
  rintro e w10 ⟨y2, f6, rfl, u6, n6, g6, b⟩
  obtain ⟨r2a0, r2n0, r2c0, r2a1, r2n1, r2c1, r2a2, r2n2, r2c2, r2a3, r2n3, r2c3, ev⟩ := u6.form
  have ev2 : y2 = .agg #[(.slice r2a0 r2n0 r2c0), (.slice r2a1 r2n1 r2c1), (.slice r2a2 r2n2 r2c2), (.slice r2a3 r2n3 r2c3), (.string d2), (.string e2), (.int .i64 m2)] := ev
  clear ev
  subst ev2
  have B10 := Lib.hid (B9.out.trans (b.mono B9.out.size))
  have SZ10 := Lib.hid b.size
  have O3 := Lib.hid (O3.out.behind b)
  have O4 := Lib.hid (O4.out.behind b)
  have O5 := Lib.hid (O5.out.behind b)
  have HAn := Lib.hid (kept_o' HAn.out b)
  have HXw0v := Lib.hid (kept_o' HXw0v.out b)
  have HXn := Lib.hid (kept_o' HXn.out b)
  have O6 := Lib.hid u6
  have HI6 := Lib.hid (fun k hk => (g6 k hk).2)
  have LO6 := Lib.hid (fun k hk => (g6 k hk).1)
  have ND6 := Lib.hid n6
  clear b u6 n6 g6
  have NL6w0v := Lib.hid (show ¬ (w5.heap.size ∈ f6) from fun hk => by have h1 := LO6.out _ hk; have sx := SZX5.out; have s7 := SZ7.out; have s8 := SZ8.out; have s9 := SZ9.out; omega)
  have NL6xn := Lib.hid (show ¬ (w7.heap.size ∈ f6) from fun hk => by have h1 := LO6.out _ hk; have sx := SZX7.out; have s9 := SZ9.out; omega)
  have c_n_0 := blkc HAn.out (j := 0) (u := an1) rfl
  have c_n_1 := blkc HAn.out (j := 1) (u := an2) rfl
  have c_w0v_0 := blkc HXw0v.out (j := 0) (u := (.slice r1a0 r1n0 r1c0)) rfl
  have c_w0v_1 := blkc HXw0v.out (j := 1) (u := (.slice r1a1 r1n1 r1c1)) rfl
  have c_w0v_2 := blkc HXw0v.out (j := 2) (u := (.slice r1a2 r1n2 r1c2)) rfl
  have c_w0v_3 := blkc HXw0v.out (j := 3) (u := (.slice r1a3 r1n3 r1c3)) rfl
  have c_w0v_4 := blkc HXw0v.out (j := 4) (u := (.string d2)) rfl
  have c_w0v_5 := blkc HXw0v.out (j := 5) (u := (.string e2)) rfl
  have c_w0v_6 := blkc HXw0v.out (j := 6) (u := (.int .i64 m2)) rfl
  have c_xn_0 := blkc HXn.out (j := 0) (u := (.slice t4a0 t4n0 t4c0)) rfl
  have c_xn_1 := blkc HXn.out (j := 1) (u := (.slice t4a1 t4n1 t4c1)) rfl
  have ne_n : ¬ w.heap.size = w10.heap.size := by have h1 := (Array.getElem?_eq_some_iff.1 HAn.out).1; omega
  have ne_w0v : ¬ w5.heap.size = w10.heap.size := by have h1 := (Array.getElem?_eq_some_iff.1 HXw0v.out).1; omega
  have ne_xn : ¬ w7.heap.size = w10.heap.size := by have h1 := (Array.getElem?_eq_some_iff.1 HXn.out).1; omega
  have b := (Below.refl w10.heap.size w10).alloc (Nat.le_refl _) (.cells #[(.slice r2a0 r2n0 r2c0), (.slice r2a1 r2n1 r2c1), (.slice r2a2 r2n2 r2c2), (.slice r2a3 r2n3 r2c3), (.string d2), (.string e2), (.int .i64 m2)] 45)
  have kx := heap_alloc_new w10 (.cells #[(.slice r2a0 r2n0 r2c0), (.slice r2a1 r2n1 r2c1), (.slice r2a2 r2n2 r2c2), (.slice r2a3 r2n3 r2c3), (.string d2), (.string e2), (.int .i64 m2)] 45)
  have sx := (show w10.heap.size < (w10.alloc (.cells #[(.slice r2a0 r2n0 r2c0), (.slice r2a1 r2n1 r2c1), (.slice r2a2 r2n2 r2c2), (.slice r2a3 r2n3 r2c3), (.string d2), (.string e2), (.int .i64 m2)] 45)).heap.size by simp)
  have NL3g0v := Lib.hid (show ¬ (w10.heap.size ∈ f3) from fun hk => by have h1 := HI3.out _ hk; have s6 := SZ6.out; have s7 := SZ7.out; have s8 := SZ8.out; have s9 := SZ9.out; have s10 := SZ10.out; omega)
  have NL4g0v := Lib.hid (show ¬ (w10.heap.size ∈ f4) from fun hk => by have h1 := HI4.out _ hk; have s8 := SZ8.out; have s9 := SZ9.out; have s10 := SZ10.out; omega)
  have NL5g0v := Lib.hid (show ¬ (w10.heap.size ∈ f5) from fun hk => by have h1 := HI5.out _ hk; have s10 := SZ10.out; omega)
  have NL6g0v := Lib.hid (show ¬ (w10.heap.size ∈ f6) from fun hk => by have h1 := HI6.out _ hk; skip; omega)
  have B11 := Lib.hid (B10.out.trans (b.mono B10.out.size))
  have SZ11 := Lib.hid b.size
  have O3 := Lib.hid (O3.out.behind b)
  have O4 := Lib.hid (O4.out.behind b)
  have O5 := Lib.hid (O5.out.behind b)
  have O6 := Lib.hid (O6.out.behind b)
  have HAn := Lib.hid (kept_o' HAn.out b)
  have HXw0v := Lib.hid (kept_o' HXw0v.out b)
  have HXn := Lib.hid (kept_o' HXn.out b)
  have d_n_0 := blkc HAn.out (j := 0) (u := an1) rfl
  have d_n_1 := blkc HAn.out (j := 1) (u := an2) rfl
  have d_w0v_0 := blkc HXw0v.out (j := 0) (u := (.slice r1a0 r1n0 r1c0)) rfl
  have d_w0v_1 := blkc HXw0v.out (j := 1) (u := (.slice r1a1 r1n1 r1c1)) rfl
  have d_w0v_2 := blkc HXw0v.out (j := 2) (u := (.slice r1a2 r1n2 r1c2)) rfl
  have d_w0v_3 := blkc HXw0v.out (j := 3) (u := (.slice r1a3 r1n3 r1c3)) rfl
  have d_w0v_4 := blkc HXw0v.out (j := 4) (u := (.string d2)) rfl
  have d_w0v_5 := blkc HXw0v.out (j := 5) (u := (.string e2)) rfl
  have d_w0v_6 := blkc HXw0v.out (j := 6) (u := (.int .i64 m2)) rfl
  have d_xn_0 := blkc HXn.out (j := 0) (u := (.slice t4a0 t4n0 t4c0)) rfl
  have d_xn_1 := blkc HXn.out (j := 1) (u := (.slice t4a1 t4n1 t4c1)) rfl
  have HXg0v := Lib.hid kx
  have SZX10 := Lib.hid sx
  clear b kx sx
  go_wp2_with fail
  clear c_n_0 c_n_1 c_w0v_0 c_w0v_1 c_w0v_2 c_w0v_3 c_w0v_4 c_w0v_5 c_w0v_6 c_xn_0 c_xn_1 ne_n ne_w0v ne_xn d_n_0 d_n_1 d_w0v_0 d_w0v_1 d_w0v_2 d_w0v_3 d_w0v_4 d_w0v_5 d_w0v_6 d_xn_0 d_xn_1
  generalize w10.alloc (.cells #[(.slice r2a0 r2n0 r2c0), (.slice r2a1 r2n1 r2c1), (.slice r2a2 r2n2 r2c2), (.slice r2a3 r2n3 r2c3), (.string d2), (.string e2), (.int .i64 m2)] 45) = w11 at *
  refine (eqConsole_same _ _ (⟨⟨n2, []⟩, fs2, d2, e2, m2⟩ : Con) _ (O6.out.rd HRB.out.1) (O3.out.rd HRB.out.1)).mono ?_
  rintro e w12 ⟨rfl, b⟩
  have B12 := Lib.hid (B11.out.trans (b.mono B11.out.size))
  have SZ12 := Lib.hid b.size
  have O3 := Lib.hid (O3.out.behind b)
  have O4 := Lib.hid (O4.out.behind b)
  have O5 := Lib.hid (O5.out.behind b)
  have O6 := Lib.hid (O6.out.behind b)
  have HAn := Lib.hid (kept_o' HAn.out b)
  have HXw0v := Lib.hid (kept_o' HXw0v.out b)
  have HXn := Lib.hid (kept_o' HXn.out b)
  have HXg0v := Lib.hid (kept_o' HXg0v.out b)
  clear b
  have d_n_0 := blkc HAn.out (j := 0) (u := an1) rfl
  have d_n_1 := blkc HAn.out (j := 1) (u := an2) rfl
  have d_xn_0 := blkc HXn.out (j := 0) (u := (.slice t4a0 t4n0 t4c0)) rfl
  have d_xn_1 := blkc HXn.out (j := 1) (u := (.slice t4a1 t4n1 t4c1)) rfl
  go_wp2
  have dd0 : w12.drew.cell? ⟨w.heap.size, 0, none⟩ = some an1 := d_n_0
  have dd1 : w12.drew.cell? ⟨w.heap.size, 1, none⟩ = some an2 := d_n_1
  have dd2 : w12.drew.cell? ⟨w7.heap.size, 0, none⟩ = some (.slice t4a0 t4n0 t4c0) := d_xn_0
  have dd3 : w12.drew.cell? ⟨w7.heap.size, 1, none⟩ = some (.slice t4a1 t4n1 t4c1) := d_xn_1
  have b := (Dr.refl w12).drew.below (Below.refl w12.heap.size w12)
  have B13 := Lib.hid (B12.out.trans (b.mono B12.out.size))
  have SZ13 := Lib.hid (show w12.heap.size ≤ w12.drew.heap.size from Nat.le_refl _)
  have O3 := Lib.hid (O3.out.behind b)
  have O4 := Lib.hid (O4.out.behind b)
  have O5 := Lib.hid (O5.out.behind b)
  have O6 := Lib.hid (O6.out.behind b)
  have HAn := Lib.hid (kept_o' HAn.out b)
  have HXw0v := Lib.hid (kept_o' HXw0v.out b)
  have HXn := Lib.hid (kept_o' HXn.out b)
  have HXg0v := Lib.hid (kept_o' HXg0v.out b)
  clear b d_n_0 d_n_1 d_xn_0 d_xn_1
  go_region_held3 (fun w' => w'.cell? ⟨w.heap.size, 0, none⟩ = some an1 ∧ w'.cell? ⟨w.heap.size, 1, none⟩ = some an2 ∧ w'.cell? ⟨w7.heap.size, 0, none⟩ = some (.slice t4a0 t4n0 t4c0) ∧ w'.cell? ⟨w7.heap.size, 1, none⟩ = some (.slice t4a1 t4n1 t4c1)) (first | (with_reducible exact ⟨dd0, dd1, dd2, dd3⟩) | (with_reducible exact ⟨e_n_0, e_n_1, e_xn_0, e_xn_1⟩) | (with_reducible exact ⟨h_n_0, h_n_1, h_xn_0, h_xn_1⟩)) (first
    | (go_at_call 14; refine (HTOn.out _ B13.out).mono ?_; unfold ToP; rintro e w14 ⟨t7, f7, rfl, o7, n7, g7, b⟩; have B14 := Lib.hid (B13.out.trans (b.mono B13.out.size)); have SZ14 := Lib.hid b.size; have O3 := Lib.hid (O3.out.behind b); have O4 := Lib.hid (O4.out.behind b); have O5 := Lib.hid (O5.out.behind b); have O6 := Lib.hid (O6.out.behind b); have HAn := Lib.hid (kept_o' HAn.out b); have HXw0v := Lib.hid (kept_o' HXw0v.out b); have HXn := Lib.hid (kept_o' HXn.out b); have HXg0v := Lib.hid (kept_o' HXg0v.out b); obtain ⟨t7a0, t7n0, t7c0, t7a1, t7n1, t7c1, rfl⟩ := o7.form; have O7 := Lib.hid o7; clear b o7 g7 n7; have e_n_0 := blkc HAn.out (j := 0) (u := an1) rfl; have e_n_1 := blkc HAn.out (j := 1) (u := an2) rfl; have e_xn_0 := blkc HXn.out (j := 0) (u := (.slice t4a0 t4n0 t4c0)) rfl; have e_xn_1 := blkc HXn.out (j := 1) (u := (.slice t4a1 t4n1 t4c1)) rfl)
    | (go_at_call 17; refine (eqNetwork_same _ _ n _ (O4.out.rd (HZn.out).2.2) (O7.out.rd (HZn.out).2.2)).mono ?_; rintro e w15 ⟨rfl, b⟩; have B15 := Lib.hid (B14.out.trans (b.mono B14.out.size)); have SZ15 := Lib.hid b.size; have O3 := Lib.hid (O3.out.behind b); have O4 := Lib.hid (O4.out.behind b); have O5 := Lib.hid (O5.out.behind b); have O6 := Lib.hid (O6.out.behind b); have HAn := Lib.hid (kept_o' HAn.out b); have HXw0v := Lib.hid (kept_o' HXw0v.out b); have HXn := Lib.hid (kept_o' HXn.out b); have HXg0v := Lib.hid (kept_o' HXg0v.out b); clear b; have h_n_0 := blkc HAn.out (j := 0) (u := an1) rfl; have h_n_1 := blkc HAn.out (j := 1) (u := an2) rfl; have h_xn_0 := blkc HXn.out (j := 0) (u := (.slice t4a0 t4n0 t4c0)) rfl; have h_xn_1 := blkc HXn.out (j := 1) (u := (.slice t4a1 t4n1 t4c1)) rfl))
  clear e_n_0 e_n_1 e_xn_0 e_xn_1 h_n_0 h_n_1 h_xn_0 h_xn_1 dd0 dd1 dd2 dd3
  go_wp2_with fail
  refine (HTOfs.out _ B15.out).mono ?_
  unfold ToP
  rintro e w16 ⟨t8, f8, rfl, o8, n8, g8, b⟩
  have B16 := Lib.hid (B15.out.trans (b.mono B15.out.size))
  have SZ16 := Lib.hid b.size
  have O3 := Lib.hid (O3.out.behind b)
  have O4 := Lib.hid (O4.out.behind b)
  have O5 := Lib.hid (O5.out.behind b)
  have O6 := Lib.hid (O6.out.behind b)
  have HAn := Lib.hid (kept_o' HAn.out b)
  have HXw0v := Lib.hid (kept_o' HXw0v.out b)
  have HXn := Lib.hid (kept_o' HXn.out b)
  have HXg0v := Lib.hid (kept_o' HXg0v.out b)
  have O8 := Lib.hid o8
  have HI8 := Lib.hid o8.lt
  have LO8 := Lib.hid g8
  have ND8 := Lib.hid n8
  clear b o8 g8 n8
  go_wp2_with fail
  refine (eqFormatS_same t5 t8 fs _ O5.out.rd O8.out.rd).mono ?_
  rintro e w17 ⟨rfl, b⟩
  have B17 := Lib.hid (B16.out.trans (b.mono B16.out.size))
  have SZ17 := Lib.hid b.size
  have O3 := Lib.hid (O3.out.behind b)
  have O4 := Lib.hid (O4.out.behind b)
  have O5 := Lib.hid (O5.out.behind b)
  have O6 := Lib.hid (O6.out.behind b)
  have HAn := Lib.hid (kept_o' HAn.out b)
  have HXw0v := Lib.hid (kept_o' HXw0v.out b)
  have HXn := Lib.hid (kept_o' HXn.out b)
  have HXg0v := Lib.hid (kept_o' HXg0v.out b)
  clear b
  obtain ⟨k0, hk0⟩ : ∃ m : Nat, m = 1 + mkN n := ⟨_, rfl⟩
  have hkp0 : 0 < k0 ∧ k0 ≤ 67108864 := by have : mkN n = n.ns.length + 4 * n.fs.length := rfl; have := (HZn.out).1; have := (HZn.out).2.1; omega
  have c_xn_0 := blkc HXn.out (j := 0) (u := (.slice t4a0 t4n0 t4c0)) rfl
  have c_xn_1 := blkc HXn.out (j := 1) (u := (.slice t4a1 t4n1 t4c1)) rfl
  go_wp2_with fail
  clear c_xn_0 c_xn_1
  refine (markNetwork_any _ n f4 1 _ O4.out ND4.out (HZn.out).1 (HZn.out).2.1 (by omega) (by omega)).mono ?_
  rw [← hk0]
  rintro e w18 ⟨rfl, -, wr⟩
  have B18 := Lib.hid (wr.below B17.out B17.out.size (fun k hk => by have h1 := LO4.out k hk; have s0 := SZ0.out; have s1 := SZ1.out; have s2 := SZ2.out; have s3 := SZ3.out; have s4 := SZ4.out; have s5 := SZ5.out; have s6 := SZ6.out; omega))
  have SZ18 := Lib.hid wr.size
  have O3 := Lib.hid (O3.out.apart wr (fun k hk hk2 => by have h1 := HI3.out k hk; have h2 := LO4.out k hk2; have s6 := SZ6.out; omega))
  have O5 := Lib.hid (O5.out.apart wr (fun k hk hk2 => by have h1 := HI4.out k hk2; have h2 := LO5.out k hk; have s8 := SZ8.out; omega))
  have O6 := Lib.hid (O6.out.apart wr (fun k hk hk2 => by have h1 := HI4.out k hk2; have h2 := LO6.out k hk; have s8 := SZ8.out; have s9 := SZ9.out; omega))
  have HAn := Lib.hid ((wr.block _ (Array.getElem?_eq_some_iff.1 HAn.out).1 (fun hk => by have h1 := LO4.out _ hk; have s0 := SZ0.out; have s1 := SZ1.out; have s2 := SZ2.out; have s3 := SZ3.out; have s4 := SZ4.out; have s5 := SZ5.out; have s6 := SZ6.out; omega)).trans HAn.out)
  have HXw0v := Lib.hid ((wr.block _ (Array.getElem?_eq_some_iff.1 HXw0v.out).1 (fun hk => by exact NL4w0v.out hk)).trans HXw0v.out)
  have HXn := Lib.hid ((wr.block _ (Array.getElem?_eq_some_iff.1 HXn.out).1 (fun hk => by exact NL4xn.out hk)).trans HXn.out)
  have HXg0v := Lib.hid ((wr.block _ (Array.getElem?_eq_some_iff.1 HXg0v.out).1 (fun hk => by exact NL4g0v.out hk)).trans HXg0v.out)
  clear wr hk0
  obtain ⟨k1, hk1⟩ : ∃ m : Nat, m = k0 + 2 * fs.length := ⟨_, rfl⟩
  have hkp1 : 0 < k1 ∧ k1 ≤ 134217728 := by have := (HZfs.out).1; omega
  go_wp2_with fail
  refine (markFormatS_N t5 fs f5 k0 _ O5.out ND5.out (HZfs.out).1 (by omega) (by omega)).mono ?_
  rw [← hk1]
  rintro e w19 ⟨rfl, -, wr⟩
  have B19 := Lib.hid (wr.below B18.out B18.out.size (fun k hk => by have h1 := LO5.out k hk; have s0 := SZ0.out; have s1 := SZ1.out; have s2 := SZ2.out; have s3 := SZ3.out; have s4 := SZ4.out; have s5 := SZ5.out; have s6 := SZ6.out; have s7 := SZ7.out; have s8 := SZ8.out; omega))
  have SZ19 := Lib.hid wr.size
  have O3 := Lib.hid (O3.out.apart wr (fun k hk hk2 => by have h1 := HI3.out k hk; have h2 := LO5.out k hk2; have s6 := SZ6.out; have s7 := SZ7.out; have s8 := SZ8.out; omega))
  have O6 := Lib.hid (O6.out.apart wr (fun k hk hk2 => by have h1 := HI5.out k hk2; have h2 := LO6.out k hk; skip; omega))
  have HAn := Lib.hid ((wr.block _ (Array.getElem?_eq_some_iff.1 HAn.out).1 (fun hk => by have h1 := LO5.out _ hk; have s0 := SZ0.out; have s1 := SZ1.out; have s2 := SZ2.out; have s3 := SZ3.out; have s4 := SZ4.out; have s5 := SZ5.out; have s6 := SZ6.out; have s7 := SZ7.out; have s8 := SZ8.out; omega)).trans HAn.out)
  have HXw0v := Lib.hid ((wr.block _ (Array.getElem?_eq_some_iff.1 HXw0v.out).1 (fun hk => by exact NL5w0v.out hk)).trans HXw0v.out)
  have HXn := Lib.hid ((wr.block _ (Array.getElem?_eq_some_iff.1 HXn.out).1 (fun hk => by exact NL5xn.out hk)).trans HXn.out)
  have HXg0v := Lib.hid ((wr.block _ (Array.getElem?_eq_some_iff.1 HXg0v.out).1 (fun hk => by exact NL5g0v.out hk)).trans HXg0v.out)
  clear wr hk1
  have hkn : ¬ (k1 : Int) < 0 := by omega
  have hknb : decide ((k1 : Int) < 0) = false := decide_eq_false hkn
  have c_g0v_0 := blkc HXg0v.out (j := 0) (u := (.slice r2a0 r2n0 r2c0)) rfl
  have c_g0v_1 := blkc HXg0v.out (j := 1) (u := (.slice r2a1 r2n1 r2c1)) rfl
  have c_g0v_2 := blkc HXg0v.out (j := 2) (u := (.slice r2a2 r2n2 r2c2)) rfl
  have c_g0v_3 := blkc HXg0v.out (j := 3) (u := (.slice r2a3 r2n3 r2c3)) rfl
  have c_g0v_4 := blkc HXg0v.out (j := 4) (u := (.string d2)) rfl
  have c_g0v_5 := blkc HXg0v.out (j := 5) (u := (.string e2)) rfl
  have c_g0v_6 := blkc HXg0v.out (j := 6) (u := (.int .i64 m2)) rfl
  have c_w0v_0 := blkc HXw0v.out (j := 0) (u := (.slice r1a0 r1n0 r1c0)) rfl
  have c_w0v_1 := blkc HXw0v.out (j := 1) (u := (.slice r1a1 r1n1 r1c1)) rfl
  have c_w0v_2 := blkc HXw0v.out (j := 2) (u := (.slice r1a2 r1n2 r1c2)) rfl
  have c_w0v_3 := blkc HXw0v.out (j := 3) (u := (.slice r1a3 r1n3 r1c3)) rfl
  have c_w0v_4 := blkc HXw0v.out (j := 4) (u := (.string d2)) rfl
  have c_w0v_5 := blkc HXw0v.out (j := 5) (u := (.string e2)) rfl
  have c_w0v_6 := blkc HXw0v.out (j := 6) (u := (.int .i64 m2)) rfl
  go_wp2_with fail
  clear c_g0v_0 c_g0v_1 c_g0v_2 c_g0v_3 c_g0v_4 c_g0v_5 c_g0v_6 c_w0v_0 c_w0v_1 c_w0v_2 c_w0v_3 c_w0v_4 c_w0v_5 c_w0v_6
  refine (eqConsole_same _ _ (⟨⟨n2, []⟩, fs2, d2, e2, m2⟩ : Con) _ (O6.out.rd HRB.out.1) (O3.out.rd HRB.out.1)).mono ?_
  rintro e w20 ⟨rfl, b⟩
  have B20 := Lib.hid (B19.out.trans (b.mono B19.out.size))
  have SZ20 := Lib.hid b.size
  have O3 := Lib.hid (O3.out.behind b)
  have O6 := Lib.hid (O6.out.behind b)
  have HAn := Lib.hid (kept_o' HAn.out b)
  have HXw0v := Lib.hid (kept_o' HXw0v.out b)
  have HXg0v := Lib.hid (kept_o' HXg0v.out b)
  clear b
  clear hkn hknb
  obtain ⟨m0, hm0⟩ : ∃ m : Nat, m = 1 + mkC (⟨⟨n2, []⟩, fs2, d2, e2, m2⟩ : Con) := ⟨_, rfl⟩
  have hmb0 : 1 ≤ m0 := by omega
  have c_g0v_0 := blkc HXg0v.out (j := 0) (u := (.slice r2a0 r2n0 r2c0)) rfl
  have c_g0v_1 := blkc HXg0v.out (j := 1) (u := (.slice r2a1 r2n1 r2c1)) rfl
  have c_g0v_2 := blkc HXg0v.out (j := 2) (u := (.slice r2a2 r2n2 r2c2)) rfl
  have c_g0v_3 := blkc HXg0v.out (j := 3) (u := (.slice r2a3 r2n3 r2c3)) rfl
  have c_g0v_4 := blkc HXg0v.out (j := 4) (u := (.string d2)) rfl
  have c_g0v_5 := blkc HXg0v.out (j := 5) (u := (.string e2)) rfl
  have c_g0v_6 := blkc HXg0v.out (j := 6) (u := (.int .i64 m2)) rfl
  go_wp2_with fail
  clear c_g0v_0 c_g0v_1 c_g0v_2 c_g0v_3 c_g0v_4 c_g0v_5 c_g0v_6
  refine (markConsole_any _ (⟨⟨n2, []⟩, fs2, d2, e2, m2⟩ : Con) f6 1 _ O6.out ND6.out HRB.out.2.1 HRB.out.2.2.1 (by simp [totL]) HRB.out.2.2.2.1 (by omega) (by omega)).mono ?_
  rw [← hm0]
  rintro e w21 ⟨rfl, om, wr⟩
  have B21 := Lib.hid (wr.below B20.out B20.out.size (fun k hk => by have h1 := LO6.out k hk; have s0 := SZ0.out; have s1 := SZ1.out; have s2 := SZ2.out; have s3 := SZ3.out; have s4 := SZ4.out; have s5 := SZ5.out; have s6 := SZ6.out; have s7 := SZ7.out; have s8 := SZ8.out; have s9 := SZ9.out; omega))
  have SZ21 := Lib.hid wr.size
  have O3 := Lib.hid (O3.out.apart wr (fun k hk hk2 => by have h1 := HI3.out k hk; have h2 := LO6.out k hk2; have s6 := SZ6.out; have s7 := SZ7.out; have s8 := SZ8.out; have s9 := SZ9.out; omega))
  have HAn := Lib.hid ((wr.block _ (Array.getElem?_eq_some_iff.1 HAn.out).1 (fun hk => by have h1 := LO6.out _ hk; have s0 := SZ0.out; have s1 := SZ1.out; have s2 := SZ2.out; have s3 := SZ3.out; have s4 := SZ4.out; have s5 := SZ5.out; have s6 := SZ6.out; have s7 := SZ7.out; have s8 := SZ8.out; have s9 := SZ9.out; omega)).trans HAn.out)
  have HXw0v := Lib.hid ((wr.block _ (Array.getElem?_eq_some_iff.1 HXw0v.out).1 (fun hk => by exact NL6w0v.out hk)).trans HXw0v.out)
  have HXg0v := Lib.hid ((wr.block _ (Array.getElem?_eq_some_iff.1 HXg0v.out).1 (fun hk => by exact NL6g0v.out hk)).trans HXg0v.out)
  have O6 := Lib.hid om
  have HM0 := Lib.hid hm0
  clear wr hm0 om
  have hmn : (m0 != m0) = false := by simp
  have hmi : ((m0 : Int) != (m0 : Int)) = false := by simp
  have c_g0v_0 := blkc HXg0v.out (j := 0) (u := (.slice r2a0 r2n0 r2c0)) rfl
  have c_g0v_1 := blkc HXg0v.out (j := 1) (u := (.slice r2a1 r2n1 r2c1)) rfl
  have c_g0v_2 := blkc HXg0v.out (j := 2) (u := (.slice r2a2 r2n2 r2c2)) rfl
  have c_g0v_3 := blkc HXg0v.out (j := 3) (u := (.slice r2a3 r2n3 r2c3)) rfl
  have c_g0v_4 := blkc HXg0v.out (j := 4) (u := (.string d2)) rfl
  have c_g0v_5 := blkc HXg0v.out (j := 5) (u := (.string e2)) rfl
  have c_g0v_6 := blkc HXg0v.out (j := 6) (u := (.int .i64 m2)) rfl
  go_wp2_with fail
  clear c_g0v_0 c_g0v_1 c_g0v_2 c_g0v_3 c_g0v_4 c_g0v_5 c_g0v_6
  refine (heldConsole_N _ n2 fs2 d2 e2 m2 f6 1 _ O6.out HRB.out.2.1 HRB.out.2.2.1 HRB.out.2.2.2.1 (by omega) (by omega)).mono ?_
  rw [← HM0.out]
  rintro e w22 ⟨rfl, b⟩
  have B22 := Lib.hid (B21.out.trans (b.mono B21.out.size))
  have SZ22 := Lib.hid b.size
  have O3 := Lib.hid (O3.out.behind b)
  have O6 := Lib.hid (O6.out.behind b)
  have HAn := Lib.hid (kept_o' HAn.out b)
  have HXw0v := Lib.hid (kept_o' HXw0v.out b)
  have HXg0v := Lib.hid (kept_o' HXg0v.out b)
  clear b
  have hqn0 : ¬ (m0 : Int) < 0 := by omega
  have hqb0 : decide ((m0 : Int) < 0) = false := decide_eq_false hqn0
  clear hqn0 hqb0
  have c_n_0 := blkc HAn.out (j := 0) (u := an1) rfl
  have c_n_1 := blkc HAn.out (j := 1) (u := an2) rfl
  go_wp2_with fail
  clear c_n_0 c_n_1
  refine (HTOn.out _ B22.out).mono ?_
  unfold ToP
  rintro e w23 ⟨t9, f9, rfl, o9, n9, g9, b⟩
  have B23 := Lib.hid (B22.out.trans (b.mono B22.out.size))
  have SZ23 := Lib.hid b.size
  have O3 := Lib.hid (O3.out.behind b)
  have O6 := Lib.hid (O6.out.behind b)
  have HAn := Lib.hid (kept_o' HAn.out b)
  have HXw0v := Lib.hid (kept_o' HXw0v.out b)
  have HXg0v := Lib.hid (kept_o' HXg0v.out b)
  obtain ⟨t9a0, t9n0, t9c0, t9a1, t9n1, t9c1, rfl⟩ := o9.form
  have O9 := Lib.hid o9
  have HI9 := Lib.hid o9.lt
  have LO9 := Lib.hid g9
  have ND9 := Lib.hid n9
  clear b o9 g9 n9
  go_wp2_with fail
  refine (HTOfs.out _ B23.out).mono ?_
  unfold ToP
  rintro e w24 ⟨t10, f10, rfl, o10, n10, g10, b⟩
  have B24 := Lib.hid (B23.out.trans (b.mono B23.out.size))
  have SZ24 := Lib.hid b.size
  have O3 := Lib.hid (O3.out.behind b)
  have O6 := Lib.hid (O6.out.behind b)
  have O9 := Lib.hid (O9.out.behind b)
  have HAn := Lib.hid (kept_o' HAn.out b)
  have HXw0v := Lib.hid (kept_o' HXw0v.out b)
  have HXg0v := Lib.hid (kept_o' HXg0v.out b)
  have O10 := Lib.hid o10
  have HI10 := Lib.hid o10.lt
  have LO10 := Lib.hid g10
  have ND10 := Lib.hid n10
  clear b o10 g10 n10
  go_wp2_with fail
  refine (HIM.out _ _ _ _ B24.out (O9.out.rd (HZn.out).2.2) O10.out.rd).mono ?_
  rintro e w25 ⟨y3, f11, rfl, u11, n11, g11, b⟩
  obtain ⟨r3a0, r3n0, r3c0, r3a1, r3n1, r3c1, r3a2, r3n2, r3c2, r3a3, r3n3, r3c3, ev⟩ := u11.form
  have ev2 : y3 = .agg #[(.slice r3a0 r3n0 r3c0), (.slice r3a1 r3n1 r3c1), (.slice r3a2 r3n2 r3c2), (.slice r3a3 r3n3 r3c3), (.string d2), (.string e2), (.int .i64 m2)] := ev
  clear ev
  subst ev2
  have B25 := Lib.hid (B24.out.trans (b.mono B24.out.size))
  have SZ25 := Lib.hid b.size
  have O3 := Lib.hid (O3.out.behind b)
  have O6 := Lib.hid (O6.out.behind b)
  have O9 := Lib.hid (O9.out.behind b)
  have O10 := Lib.hid (O10.out.behind b)
  have HAn := Lib.hid (kept_o' HAn.out b)
  have HXw0v := Lib.hid (kept_o' HXw0v.out b)
  have HXg0v := Lib.hid (kept_o' HXg0v.out b)
  have O11 := Lib.hid u11
  have HI11 := Lib.hid (fun k hk => (g11 k hk).2)
  have LO11 := Lib.hid (fun k hk => (g11 k hk).1)
  have ND11 := Lib.hid n11
  clear b u11 n11 g11
  have c_n_0 := blkc HAn.out (j := 0) (u := an1) rfl
  have c_n_1 := blkc HAn.out (j := 1) (u := an2) rfl
  have c_w0v_0 := blkc HXw0v.out (j := 0) (u := (.slice r1a0 r1n0 r1c0)) rfl
  have c_w0v_1 := blkc HXw0v.out (j := 1) (u := (.slice r1a1 r1n1 r1c1)) rfl
  have c_w0v_2 := blkc HXw0v.out (j := 2) (u := (.slice r1a2 r1n2 r1c2)) rfl
  have c_w0v_3 := blkc HXw0v.out (j := 3) (u := (.slice r1a3 r1n3 r1c3)) rfl
  have c_w0v_4 := blkc HXw0v.out (j := 4) (u := (.string d2)) rfl
  have c_w0v_5 := blkc HXw0v.out (j := 5) (u := (.string e2)) rfl
  have c_w0v_6 := blkc HXw0v.out (j := 6) (u := (.int .i64 m2)) rfl
  have c_g0v_0 := blkc HXg0v.out (j := 0) (u := (.slice r2a0 r2n0 r2c0)) rfl
  have c_g0v_1 := blkc HXg0v.out (j := 1) (u := (.slice r2a1 r2n1 r2c1)) rfl
  have c_g0v_2 := blkc HXg0v.out (j := 2) (u := (.slice r2a2 r2n2 r2c2)) rfl
  have c_g0v_3 := blkc HXg0v.out (j := 3) (u := (.slice r2a3 r2n3 r2c3)) rfl
  have c_g0v_4 := blkc HXg0v.out (j := 4) (u := (.string d2)) rfl
  have c_g0v_5 := blkc HXg0v.out (j := 5) (u := (.string e2)) rfl
  have c_g0v_6 := blkc HXg0v.out (j := 6) (u := (.int .i64 m2)) rfl
  have ne_n : ¬ w.heap.size = w25.heap.size := by have h1 := (Array.getElem?_eq_some_iff.1 HAn.out).1; omega
  have ne_w0v : ¬ w5.heap.size = w25.heap.size := by have h1 := (Array.getElem?_eq_some_iff.1 HXw0v.out).1; omega
  have ne_g0v : ¬ w10.heap.size = w25.heap.size := by have h1 := (Array.getElem?_eq_some_iff.1 HXg0v.out).1; omega
  have b := (Below.refl w25.heap.size w25).alloc (Nat.le_refl _) (.cells #[(.slice r3a0 r3n0 r3c0), (.slice r3a1 r3n1 r3c1), (.slice r3a2 r3n2 r3c2), (.slice r3a3 r3n3 r3c3), (.string d2), (.string e2), (.int .i64 m2)] 45)
  have kx := heap_alloc_new w25 (.cells #[(.slice r3a0 r3n0 r3c0), (.slice r3a1 r3n1 r3c1), (.slice r3a2 r3n2 r3c2), (.slice r3a3 r3n3 r3c3), (.string d2), (.string e2), (.int .i64 m2)] 45)
  have sx := (show w25.heap.size < (w25.alloc (.cells #[(.slice r3a0 r3n0 r3c0), (.slice r3a1 r3n1 r3c1), (.slice r3a2 r3n2 r3c2), (.slice r3a3 r3n3 r3c3), (.string d2), (.string e2), (.int .i64 m2)] 45)).heap.size by simp)
  have NL3h0v := Lib.hid (show ¬ (w25.heap.size ∈ f3) from fun hk => by have h1 := HI3.out _ hk; have s6 := SZ6.out; have s7 := SZ7.out; have s8 := SZ8.out; have s9 := SZ9.out; have s10 := SZ10.out; have s11 := SZ11.out; have s12 := SZ12.out; have s13 := SZ13.out; have s14 := SZ14.out; have s15 := SZ15.out; have s16 := SZ16.out; have s17 := SZ17.out; have s18 := SZ18.out; have s19 := SZ19.out; have s20 := SZ20.out; have s21 := SZ21.out; have s22 := SZ22.out; have s23 := SZ23.out; have s24 := SZ24.out; have s25 := SZ25.out; omega)
  have NL6h0v := Lib.hid (show ¬ (w25.heap.size ∈ f6) from fun hk => by have h1 := HI6.out _ hk; have s11 := SZ11.out; have s12 := SZ12.out; have s13 := SZ13.out; have s14 := SZ14.out; have s15 := SZ15.out; have s16 := SZ16.out; have s17 := SZ17.out; have s18 := SZ18.out; have s19 := SZ19.out; have s20 := SZ20.out; have s21 := SZ21.out; have s22 := SZ22.out; have s23 := SZ23.out; have s24 := SZ24.out; have s25 := SZ25.out; omega)
  have NL9h0v := Lib.hid (show ¬ (w25.heap.size ∈ f9) from fun hk => by have h1 := HI9.out _ hk; have s24 := SZ24.out; have s25 := SZ25.out; omega)
  have NL10h0v := Lib.hid (show ¬ (w25.heap.size ∈ f10) from fun hk => by have h1 := HI10.out _ hk; have s25 := SZ25.out; omega)
  have NL11h0v := Lib.hid (show ¬ (w25.heap.size ∈ f11) from fun hk => by have h1 := HI11.out _ hk; skip; omega)
  have B26 := Lib.hid (B25.out.trans (b.mono B25.out.size))
  have SZ26 := Lib.hid b.size
  have O3 := Lib.hid (O3.out.behind b)
  have O6 := Lib.hid (O6.out.behind b)
  have O9 := Lib.hid (O9.out.behind b)
  have O10 := Lib.hid (O10.out.behind b)
  have O11 := Lib.hid (O11.out.behind b)
  have HAn := Lib.hid (kept_o' HAn.out b)
  have HXw0v := Lib.hid (kept_o' HXw0v.out b)
  have HXg0v := Lib.hid (kept_o' HXg0v.out b)
  have d_n_0 := blkc HAn.out (j := 0) (u := an1) rfl
  have d_n_1 := blkc HAn.out (j := 1) (u := an2) rfl
  have d_w0v_0 := blkc HXw0v.out (j := 0) (u := (.slice r1a0 r1n0 r1c0)) rfl
  have d_w0v_1 := blkc HXw0v.out (j := 1) (u := (.slice r1a1 r1n1 r1c1)) rfl
  have d_w0v_2 := blkc HXw0v.out (j := 2) (u := (.slice r1a2 r1n2 r1c2)) rfl
  have d_w0v_3 := blkc HXw0v.out (j := 3) (u := (.slice r1a3 r1n3 r1c3)) rfl
  have d_w0v_4 := blkc HXw0v.out (j := 4) (u := (.string d2)) rfl
  have d_w0v_5 := blkc HXw0v.out (j := 5) (u := (.string e2)) rfl
  have d_w0v_6 := blkc HXw0v.out (j := 6) (u := (.int .i64 m2)) rfl
  have d_g0v_0 := blkc HXg0v.out (j := 0) (u := (.slice r2a0 r2n0 r2c0)) rfl
  have d_g0v_1 := blkc HXg0v.out (j := 1) (u := (.slice r2a1 r2n1 r2c1)) rfl
  have d_g0v_2 := blkc HXg0v.out (j := 2) (u := (.slice r2a2 r2n2 r2c2)) rfl
  have d_g0v_3 := blkc HXg0v.out (j := 3) (u := (.slice r2a3 r2n3 r2c3)) rfl
  have d_g0v_4 := blkc HXg0v.out (j := 4) (u := (.string d2)) rfl
  have d_g0v_5 := blkc HXg0v.out (j := 5) (u := (.string e2)) rfl
  have d_g0v_6 := blkc HXg0v.out (j := 6) (u := (.int .i64 m2)) rfl
  have HXh0v := Lib.hid kx
  have SZX25 := Lib.hid sx
  clear b kx sx
  go_wp2_with fail
  clear c_n_0 c_n_1 c_w0v_0 c_w0v_1 c_w0v_2 c_w0v_3 c_w0v_4 c_w0v_5 c_w0v_6 c_g0v_0 c_g0v_1 c_g0v_2 c_g0v_3 c_g0v_4 c_g0v_5 c_g0v_6 ne_n ne_w0v ne_g0v d_n_0 d_n_1 d_w0v_0 d_w0v_1 d_w0v_2 d_w0v_3 d_w0v_4 d_w0v_5 d_w0v_6 d_g0v_0 d_g0v_1 d_g0v_2 d_g0v_3 d_g0v_4 d_g0v_5 d_g0v_6
  generalize w25.alloc (.cells #[(.slice r3a0 r3n0 r3c0), (.slice r3a1 r3n1 r3c1), (.slice r3a2 r3n2 r3c2), (.slice r3a3 r3n3 r3c3), (.string d2), (.string e2), (.int .i64 m2)] 45) = w26 at *
  refine (eqConsole_same _ _ (⟨⟨n2, []⟩, fs2, d2, e2, m2⟩ : Con) _ (O11.out.rd HRB.out.1) (O3.out.rd HRB.out.1)).mono ?_
  rintro e w27 ⟨rfl, b⟩
  have B27 := Lib.hid (B26.out.trans (b.mono B26.out.size))
  have SZ27 := Lib.hid b.size
  have O3 := Lib.hid (O3.out.behind b)
  have O6 := Lib.hid (O6.out.behind b)
  have O11 := Lib.hid (O11.out.behind b)
  have HAn := Lib.hid (kept_o' HAn.out b)
  have HXw0v := Lib.hid (kept_o' HXw0v.out b)
  have HXg0v := Lib.hid (kept_o' HXg0v.out b)
  have HXh0v := Lib.hid (kept_o' HXh0v.out b)
  clear b
  have c_g0v_0 := blkc HXg0v.out (j := 0) (u := (.slice r2a0 r2n0 r2c0)) rfl
  have c_g0v_1 := blkc HXg0v.out (j := 1) (u := (.slice r2a1 r2n1 r2c1)) rfl
  have c_g0v_2 := blkc HXg0v.out (j := 2) (u := (.slice r2a2 r2n2 r2c2)) rfl
  have c_g0v_3 := blkc HXg0v.out (j := 3) (u := (.slice r2a3 r2n3 r2c3)) rfl
  have c_g0v_4 := blkc HXg0v.out (j := 4) (u := (.string d2)) rfl
  have c_g0v_5 := blkc HXg0v.out (j := 5) (u := (.string e2)) rfl
  have c_g0v_6 := blkc HXg0v.out (j := 6) (u := (.int .i64 m2)) rfl
  go_wp2_with fail
  clear c_g0v_0 c_g0v_1 c_g0v_2 c_g0v_3 c_g0v_4 c_g0v_5 c_g0v_6
  refine (heldConsole_N _ n2 fs2 d2 e2 m2 f6 1 _ O6.out HRB.out.2.1 HRB.out.2.2.1 HRB.out.2.2.2.1 (by omega) (by omega)).mono ?_
  rw [← HM0.out]
  rintro e w28 ⟨rfl, b⟩
  have B28 := Lib.hid (B27.out.trans (b.mono B27.out.size))
  have SZ28 := Lib.hid b.size
  have O3 := Lib.hid (O3.out.behind b)
  have O6 := Lib.hid (O6.out.behind b)
  have O11 := Lib.hid (O11.out.behind b)
  have HAn := Lib.hid (kept_o' HAn.out b)
  have HXw0v := Lib.hid (kept_o' HXw0v.out b)
  have HXg0v := Lib.hid (kept_o' HXg0v.out b)
  have HXh0v := Lib.hid (kept_o' HXh0v.out b)
  clear b
  have hqn0 : ¬ (m0 : Int) < 0 := by omega
  have hqb0 : decide ((m0 : Int) < 0) = false := decide_eq_false hqn0
  go_wp2
  go_ret
  exact ⟨rfl, B28.out⟩
end Go.Proofs.YtonpcgdnfclidaaGreatDoor
