/- The law FnExactFormatConsole. (The law's walk is printed by genexact.py.) -/
import Derived.Test.YtonpcgdnfclidaaGreatDoorBh18
import Derived.Test.YtonpcgdnfclidaaGreatDoorBh13
namespace Go.Proofs.YtonpcgdnfclidaaGreatDoor
open Go.RowKit Go.Sort
set_option maxRecDepth 100000

set_option maxHeartbeats 6400000 in
theorem FnExactFormatConsole_walk (vc : Value) (c : Con) (w : World) (hc : ConW w vc c) (ht : TabOk w) (hmx : MaxOk w) :
    Calls Tryz.prog 5 #[vc] w fun e w' => e = .returned (.bool true) ∧ Below w.heap.size w w' := by
  have HTW := Lib.hid (fun w' (hb : Below w.heap.size w w') => ht.below hb)
  have HMW := Lib.hid (fun w' (hb : Below w.heap.size w w') => hmx.below hb)
  clear ht hmx
  have HWc := Lib.hid (fun wx (hb : Below w.heap.size w wx) => hc.behind hb)
  have hsm0c : ∀ i : Nat, (nmA c.p.n i).size ≤ totS c.p.n.ns := fun i => totS_mem c.p.n.ns i
  have hlm0c : ∀ i : Nat, (lgA c.p i).fb.length ≤ totL c.p.ls := fun i => totL_mem c.p.ls i
  obtain ⟨ac1, ac2, ac3, ac4, evc⟩ : ∃ u1 u2 u3 u4, vc = .agg #[u1, u2, u3, u4, .string c.d, .string c.e, .int .i64 c.n] := by obtain ⟨u1, u2, u3, u4, e, _⟩ := hc; exact ⟨u1, u2, u3, u4, e⟩
  subst evc
  clear hc
  have b0 := Below.refl w.heap.size w
  have b1 := b0.alloc b0.size (.cells #[ac1, ac2, ac3, ac4, (.string c.d), (.string c.e), (.int .i64 c.n)] 33)
  have kac := heap_alloc_new w (.cells #[ac1, ac2, ac3, ac4, (.string c.d), (.string c.e), (.int .i64 c.n)] 33)
  have HAc := Lib.hid kac
  have hz0 : (w.alloc (.cells #[ac1, ac2, ac3, ac4, (.string c.d), (.string c.e), (.int .i64 c.n)] 33)).heap.size = w.heap.size + 1 := by simp
  have B0 := Lib.hid b1
  have SZ0 := Lib.hid hz0
  clear hz0 b0 b1 kac
  go_enter Tryz.func5, Tryz.ntmps5
  go_wp2_with fail
  generalize (w.alloc (.cells #[ac1, ac2, ac3, ac4, (.string c.d), (.string c.e), (.int .i64 c.n)] 33)) = w0 at *
  refine (szConsole_any _ c 1048576 _ (HWc.out _ B0.out) (by omega) (by omega)).mono ?_
  unfold SzQ
  rintro e w1 ⟨r0, rfl, b, hr0⟩
  have B1 := Lib.hid (B0.out.trans (b.mono B0.out.size))
  have SZ1 := Lib.hid b.size
  have HAc := Lib.hid (kept_o' HAc.out b)
  clear b
  by_cases hneg0 : r0 < 0
  · have hnb : decide (r0 < 0) = true := decide_eq_true hneg0
    clear hr0
    go_wp2
    go_ret
    exact ⟨rfl, B1.out⟩
  have hnb0 : decide (r0 < 0) = false := decide_eq_false hneg0
  have hq0 : ((szC c : Nat) : Int) ≤ 1048576 := by omega
  have hrp0 : 0 ≤ r0 := by omega
  have hrb0 : r0 ≤ 1048576 := by omega
  clear hr0
  have HZc := Lib.hid (show c.p.n.ns.length ≤ 1048576 ∧ c.p.n.fs.length ≤ 1048576 ∧ NetSm c.p.n ∧ c.p.ls.length ≤ 1048576 ∧ (∀ i : Nat, (lgA c.p i).fb.length ≤ 1048576) ∧ totL c.p.ls ≤ 1048576 ∧ c.fm.length ≤ 1048576 ∧ c.d.size + c.e.size ≤ 1048576 from ⟨by have : szC c = c.p.n.ns.length + totS c.p.n.ns + c.p.n.fs.length + (c.p.ls.length + totL c.p.ls) + (c.fm.length + (c.d.size + c.e.size)) := rfl; omega, by have : szC c = c.p.n.ns.length + totS c.p.n.ns + c.p.n.fs.length + (c.p.ls.length + totL c.p.ls) + (c.fm.length + (c.d.size + c.e.size)) := rfl; omega, fun i => Nat.le_trans (hsm0c i) (by have : szC c = c.p.n.ns.length + totS c.p.n.ns + c.p.n.fs.length + (c.p.ls.length + totL c.p.ls) + (c.fm.length + (c.d.size + c.e.size)) := rfl; omega), by have : szC c = c.p.n.ns.length + totS c.p.n.ns + c.p.n.fs.length + (c.p.ls.length + totL c.p.ls) + (c.fm.length + (c.d.size + c.e.size)) := rfl; omega, fun i => Nat.le_trans (hlm0c i) (by have : szC c = c.p.n.ns.length + totS c.p.n.ns + c.p.n.fs.length + (c.p.ls.length + totL c.p.ls) + (c.fm.length + (c.d.size + c.e.size)) := rfl; omega), by have : szC c = c.p.n.ns.length + totS c.p.n.ns + c.p.n.fs.length + (c.p.ls.length + totL c.p.ls) + (c.fm.length + (c.d.size + c.e.size)) := rfl; omega, by have : szC c = c.p.n.ns.length + totS c.p.n.ns + c.p.n.fs.length + (c.p.ls.length + totL c.p.ls) + (c.fm.length + (c.d.size + c.e.size)) := rfl; omega, by have : szC c = c.p.n.ns.length + totS c.p.n.ns + c.p.n.fs.length + (c.p.ls.length + totL c.p.ls) + (c.fm.length + (c.d.size + c.e.size)) := rfl; omega⟩)
  have HTOc := Lib.hid (fun wx (hb : Below w.heap.size w wx) => toConsole_any _ c wx (HWc.out _ hb) (HZc.out).1 (HZc.out).2.1 (HZc.out).2.2.2.1 (HZc.out).2.2.2.2.1 (HZc.out).2.2.2.2.2.2.1)
  clear hq0
  have hfb : ∀ i : Nat, (lgA c.p i).fb.length ≤ 1100000 := fun i => Nat.le_trans ((HZc.out).2.2.2.2.1 i) (by omega)
  have hs : c.d.size + c.e.size ≤ 1048576 := (HZc.out).2.2.2.2.2.2.2
  have HSP := Lib.hid (fun v wx (h : ConR wx v c) => specFco_any v c wx h hfb hs)
  have HIM := Lib.hid (fun v wx (hb : Below w.heap.size w wx) (h : ConR wx v c) => implFco_any v c wx h hfb hs (HTW.out wx hb) (HMW.out wx hb))
  clear hfb hs
  generalize fcoS c = S at *
  generalize conOk c = R at *
  have hne0 : (S.toList != S.toList) = false := by simp
  have hnf0 : (S.toList == S.toList) = true := by simp
  have hne1 : (R != R) = false := by simp
  have c_c_0 := blkc HAc.out (j := 0) (u := ac1) rfl
  have c_c_1 := blkc HAc.out (j := 1) (u := ac2) rfl
  have c_c_2 := blkc HAc.out (j := 2) (u := ac3) rfl
  have c_c_3 := blkc HAc.out (j := 3) (u := ac4) rfl
  have c_c_4 := blkc HAc.out (j := 4) (u := (.string c.d)) rfl
  have c_c_5 := blkc HAc.out (j := 5) (u := (.string c.e)) rfl
  have c_c_6 := blkc HAc.out (j := 6) (u := (.int .i64 c.n)) rfl
  go_wp2_with fail
  clear c_c_0 c_c_1 c_c_2 c_c_3 c_c_4 c_c_5 c_c_6
  refine (HTOc.out _ B1.out).mono ?_
  unfold ToP
  rintro e w2 ⟨t1, f1, rfl, o1, n1, g1, b⟩
  have B2 := Lib.hid (B1.out.trans (b.mono B1.out.size))
  have SZ2 := Lib.hid b.size
  have HAc := Lib.hid (kept_o' HAc.out b)
  obtain ⟨t1a0, t1n0, t1c0, t1a1, t1n1, t1c1, t1a2, t1n2, t1c2, t1a3, t1n3, t1c3, rfl⟩ := o1.form
  have O1 := Lib.hid o1
  have HI1 := Lib.hid o1.lt
  have LO1 := Lib.hid g1
  have ND1 := Lib.hid n1
  clear b o1 g1 n1
  go_wp2_with fail
  refine (HSP.out _ _ (O1.out.rd (HZc.out).2.2.1)).mono ?_
  rintro e w3 ⟨rfl, b⟩
  have B3 := Lib.hid (B2.out.trans (b.mono B2.out.size))
  have SZ3 := Lib.hid b.size
  have O1 := Lib.hid (O1.out.behind b)
  have HAc := Lib.hid (kept_o' HAc.out b)
  clear b
  have c_c_0 := blkc HAc.out (j := 0) (u := ac1) rfl
  have c_c_1 := blkc HAc.out (j := 1) (u := ac2) rfl
  have c_c_2 := blkc HAc.out (j := 2) (u := ac3) rfl
  have c_c_3 := blkc HAc.out (j := 3) (u := ac4) rfl
  have c_c_4 := blkc HAc.out (j := 4) (u := (.string c.d)) rfl
  have c_c_5 := blkc HAc.out (j := 5) (u := (.string c.e)) rfl
  have c_c_6 := blkc HAc.out (j := 6) (u := (.int .i64 c.n)) rfl
  go_wp2_with fail
  clear c_c_0 c_c_1 c_c_2 c_c_3 c_c_4 c_c_5 c_c_6
  refine (HTOc.out _ B3.out).mono ?_
  unfold ToP
  rintro e w4 ⟨t2, f2, rfl, o2, n2, g2, b⟩
  have B4 := Lib.hid (B3.out.trans (b.mono B3.out.size))
  have SZ4 := Lib.hid b.size
  have HAc := Lib.hid (kept_o' HAc.out b)
  obtain ⟨t2a0, t2n0, t2c0, t2a1, t2n1, t2c1, t2a2, t2n2, t2c2, t2a3, t2n3, t2c3, rfl⟩ := o2.form
  have O2 := Lib.hid o2
  have HI2 := Lib.hid o2.lt
  have LO2 := Lib.hid g2
  have ND2 := Lib.hid n2
  clear b o2 g2 n2
  have c_c_0 := blkc HAc.out (j := 0) (u := ac1) rfl
  have c_c_1 := blkc HAc.out (j := 1) (u := ac2) rfl
  have c_c_2 := blkc HAc.out (j := 2) (u := ac3) rfl
  have c_c_3 := blkc HAc.out (j := 3) (u := ac4) rfl
  have c_c_4 := blkc HAc.out (j := 4) (u := (.string c.d)) rfl
  have c_c_5 := blkc HAc.out (j := 5) (u := (.string c.e)) rfl
  have c_c_6 := blkc HAc.out (j := 6) (u := (.int .i64 c.n)) rfl
  have ne_c : ¬ w.heap.size = w4.heap.size := by have h1 := (Array.getElem?_eq_some_iff.1 HAc.out).1; omega
  have b := (Below.refl w4.heap.size w4).alloc (Nat.le_refl _) (.cells #[(.slice t2a0 t2n0 t2c0), (.slice t2a1 t2n1 t2c1), (.slice t2a2 t2n2 t2c2), (.slice t2a3 t2n3 t2c3), (.string c.d), (.string c.e), (.int .i64 c.n)] 45)
  have kxc := heap_alloc_new w4 (.cells #[(.slice t2a0 t2n0 t2c0), (.slice t2a1 t2n1 t2c1), (.slice t2a2 t2n2 t2c2), (.slice t2a3 t2n3 t2c3), (.string c.d), (.string c.e), (.int .i64 c.n)] 45)
  have sx := (show w4.heap.size < (w4.alloc (.cells #[(.slice t2a0 t2n0 t2c0), (.slice t2a1 t2n1 t2c1), (.slice t2a2 t2n2 t2c2), (.slice t2a3 t2n3 t2c3), (.string c.d), (.string c.e), (.int .i64 c.n)] 45)).heap.size by simp)
  have NL2xc := Lib.hid (show ¬ (w4.heap.size ∈ f2) from fun hk => by have h1 := HI2.out _ hk; skip; omega)
  have B5 := Lib.hid (B4.out.trans (b.mono B4.out.size))
  have SZ5 := Lib.hid b.size
  have O2 := Lib.hid (O2.out.behind b)
  have HAc := Lib.hid (kept_o' HAc.out b)
  have HXc := Lib.hid kxc
  have SZX4 := Lib.hid sx
  clear b kxc sx
  go_wp2_with fail
  clear c_c_0 c_c_1 c_c_2 c_c_3 c_c_4 c_c_5 c_c_6 ne_c
  generalize w4.alloc (.cells #[(.slice t2a0 t2n0 t2c0), (.slice t2a1 t2n1 t2c1), (.slice t2a2 t2n2 t2c2), (.slice t2a3 t2n3 t2c3), (.string c.d), (.string c.e), (.int .i64 c.n)] 45) = w5 at *
  refine (HIM.out _ _ B5.out (O2.out.rd (HZc.out).2.2.1)).mono ?_
  rintro e w6 ⟨rfl, b⟩
  have B6 := Lib.hid (B5.out.trans (b.mono B5.out.size))
  have SZ6 := Lib.hid b.size
  have O2 := Lib.hid (O2.out.behind b)
  have HAc := Lib.hid (kept_o' HAc.out b)
  have HXc := Lib.hid (kept_o' HXc.out b)
  clear b
  have d_c_0 := blkc HAc.out (j := 0) (u := ac1) rfl
  have d_c_1 := blkc HAc.out (j := 1) (u := ac2) rfl
  have d_c_2 := blkc HAc.out (j := 2) (u := ac3) rfl
  have d_c_3 := blkc HAc.out (j := 3) (u := ac4) rfl
  have d_c_4 := blkc HAc.out (j := 4) (u := (.string c.d)) rfl
  have d_c_5 := blkc HAc.out (j := 5) (u := (.string c.e)) rfl
  have d_c_6 := blkc HAc.out (j := 6) (u := (.int .i64 c.n)) rfl
  have d_xc_0 := blkc HXc.out (j := 0) (u := (.slice t2a0 t2n0 t2c0)) rfl
  have d_xc_1 := blkc HXc.out (j := 1) (u := (.slice t2a1 t2n1 t2c1)) rfl
  have d_xc_2 := blkc HXc.out (j := 2) (u := (.slice t2a2 t2n2 t2c2)) rfl
  have d_xc_3 := blkc HXc.out (j := 3) (u := (.slice t2a3 t2n3 t2c3)) rfl
  have d_xc_4 := blkc HXc.out (j := 4) (u := (.string c.d)) rfl
  have d_xc_5 := blkc HXc.out (j := 5) (u := (.string c.e)) rfl
  have d_xc_6 := blkc HXc.out (j := 6) (u := (.int .i64 c.n)) rfl
  go_wp2
  have dd0 : w6.drew.cell? ⟨w.heap.size, 0, none⟩ = some ac1 := d_c_0
  have dd1 : w6.drew.cell? ⟨w.heap.size, 1, none⟩ = some ac2 := d_c_1
  have dd2 : w6.drew.cell? ⟨w.heap.size, 2, none⟩ = some ac3 := d_c_2
  have dd3 : w6.drew.cell? ⟨w.heap.size, 3, none⟩ = some ac4 := d_c_3
  have dd4 : w6.drew.cell? ⟨w.heap.size, 4, none⟩ = some (.string c.d) := d_c_4
  have dd5 : w6.drew.cell? ⟨w.heap.size, 5, none⟩ = some (.string c.e) := d_c_5
  have dd6 : w6.drew.cell? ⟨w.heap.size, 6, none⟩ = some (.int .i64 c.n) := d_c_6
  have dd7 : w6.drew.cell? ⟨w4.heap.size, 0, none⟩ = some (.slice t2a0 t2n0 t2c0) := d_xc_0
  have dd8 : w6.drew.cell? ⟨w4.heap.size, 1, none⟩ = some (.slice t2a1 t2n1 t2c1) := d_xc_1
  have dd9 : w6.drew.cell? ⟨w4.heap.size, 2, none⟩ = some (.slice t2a2 t2n2 t2c2) := d_xc_2
  have dd10 : w6.drew.cell? ⟨w4.heap.size, 3, none⟩ = some (.slice t2a3 t2n3 t2c3) := d_xc_3
  have dd11 : w6.drew.cell? ⟨w4.heap.size, 4, none⟩ = some (.string c.d) := d_xc_4
  have dd12 : w6.drew.cell? ⟨w4.heap.size, 5, none⟩ = some (.string c.e) := d_xc_5
  have dd13 : w6.drew.cell? ⟨w4.heap.size, 6, none⟩ = some (.int .i64 c.n) := d_xc_6
  have b := (Dr.refl w6).drew.below (Below.refl w6.heap.size w6)
  have B7 := Lib.hid (B6.out.trans (b.mono B6.out.size))
  have SZ7 := Lib.hid (show w6.heap.size ≤ w6.drew.heap.size from Nat.le_refl _)
  have O2 := Lib.hid (O2.out.behind b)
  have HAc := Lib.hid (kept_o' HAc.out b)
  have HXc := Lib.hid (kept_o' HXc.out b)
  clear b d_c_0 d_c_1 d_c_2 d_c_3 d_c_4 d_c_5 d_c_6 d_xc_0 d_xc_1 d_xc_2 d_xc_3 d_xc_4 d_xc_5 d_xc_6
  go_region_held3 (fun w' => w'.cell? ⟨w.heap.size, 0, none⟩ = some ac1 ∧ w'.cell? ⟨w.heap.size, 1, none⟩ = some ac2 ∧ w'.cell? ⟨w.heap.size, 2, none⟩ = some ac3 ∧ w'.cell? ⟨w.heap.size, 3, none⟩ = some ac4 ∧ w'.cell? ⟨w.heap.size, 4, none⟩ = some (.string c.d) ∧ w'.cell? ⟨w.heap.size, 5, none⟩ = some (.string c.e) ∧ w'.cell? ⟨w.heap.size, 6, none⟩ = some (.int .i64 c.n) ∧ w'.cell? ⟨w4.heap.size, 0, none⟩ = some (.slice t2a0 t2n0 t2c0) ∧ w'.cell? ⟨w4.heap.size, 1, none⟩ = some (.slice t2a1 t2n1 t2c1) ∧ w'.cell? ⟨w4.heap.size, 2, none⟩ = some (.slice t2a2 t2n2 t2c2) ∧ w'.cell? ⟨w4.heap.size, 3, none⟩ = some (.slice t2a3 t2n3 t2c3) ∧ w'.cell? ⟨w4.heap.size, 4, none⟩ = some (.string c.d) ∧ w'.cell? ⟨w4.heap.size, 5, none⟩ = some (.string c.e) ∧ w'.cell? ⟨w4.heap.size, 6, none⟩ = some (.int .i64 c.n)) (first | (with_reducible exact ⟨dd0, dd1, dd2, dd3, dd4, dd5, dd6, dd7, dd8, dd9, dd10, dd11, dd12, dd13⟩) | (with_reducible exact ⟨e_c_0, e_c_1, e_c_2, e_c_3, e_c_4, e_c_5, e_c_6, e_xc_0, e_xc_1, e_xc_2, e_xc_3, e_xc_4, e_xc_5, e_xc_6⟩) | (with_reducible exact ⟨h_c_0, h_c_1, h_c_2, h_c_3, h_c_4, h_c_5, h_c_6, h_xc_0, h_xc_1, h_xc_2, h_xc_3, h_xc_4, h_xc_5, h_xc_6⟩)) (first
    | (go_at_call 8; refine (HTOc.out _ B7.out).mono ?_; unfold ToP; rintro e w8 ⟨t3, f3, rfl, o3, n3, g3, b⟩; have B8 := Lib.hid (B7.out.trans (b.mono B7.out.size)); have SZ8 := Lib.hid b.size; have O2 := Lib.hid (O2.out.behind b); have HAc := Lib.hid (kept_o' HAc.out b); have HXc := Lib.hid (kept_o' HXc.out b); obtain ⟨t3a0, t3n0, t3c0, t3a1, t3n1, t3c1, t3a2, t3n2, t3c2, t3a3, t3n3, t3c3, rfl⟩ := o3.form; have O3 := Lib.hid o3; clear b o3 g3 n3; have e_c_0 := blkc HAc.out (j := 0) (u := ac1) rfl; have e_c_1 := blkc HAc.out (j := 1) (u := ac2) rfl; have e_c_2 := blkc HAc.out (j := 2) (u := ac3) rfl; have e_c_3 := blkc HAc.out (j := 3) (u := ac4) rfl; have e_c_4 := blkc HAc.out (j := 4) (u := (.string c.d)) rfl; have e_c_5 := blkc HAc.out (j := 5) (u := (.string c.e)) rfl; have e_c_6 := blkc HAc.out (j := 6) (u := (.int .i64 c.n)) rfl; have e_xc_0 := blkc HXc.out (j := 0) (u := (.slice t2a0 t2n0 t2c0)) rfl; have e_xc_1 := blkc HXc.out (j := 1) (u := (.slice t2a1 t2n1 t2c1)) rfl; have e_xc_2 := blkc HXc.out (j := 2) (u := (.slice t2a2 t2n2 t2c2)) rfl; have e_xc_3 := blkc HXc.out (j := 3) (u := (.slice t2a3 t2n3 t2c3)) rfl; have e_xc_4 := blkc HXc.out (j := 4) (u := (.string c.d)) rfl; have e_xc_5 := blkc HXc.out (j := 5) (u := (.string c.e)) rfl; have e_xc_6 := blkc HXc.out (j := 6) (u := (.int .i64 c.n)) rfl)
    | (go_at_call 10; refine (eqConsole_same _ _ c _ (O2.out.rd (HZc.out).2.2.1) (O3.out.rd (HZc.out).2.2.1)).mono ?_; rintro e w9 ⟨rfl, b⟩; have B9 := Lib.hid (B8.out.trans (b.mono B8.out.size)); have SZ9 := Lib.hid b.size; have O2 := Lib.hid (O2.out.behind b); have HAc := Lib.hid (kept_o' HAc.out b); have HXc := Lib.hid (kept_o' HXc.out b); clear b; have h_c_0 := blkc HAc.out (j := 0) (u := ac1) rfl; have h_c_1 := blkc HAc.out (j := 1) (u := ac2) rfl; have h_c_2 := blkc HAc.out (j := 2) (u := ac3) rfl; have h_c_3 := blkc HAc.out (j := 3) (u := ac4) rfl; have h_c_4 := blkc HAc.out (j := 4) (u := (.string c.d)) rfl; have h_c_5 := blkc HAc.out (j := 5) (u := (.string c.e)) rfl; have h_c_6 := blkc HAc.out (j := 6) (u := (.int .i64 c.n)) rfl; have h_xc_0 := blkc HXc.out (j := 0) (u := (.slice t2a0 t2n0 t2c0)) rfl; have h_xc_1 := blkc HXc.out (j := 1) (u := (.slice t2a1 t2n1 t2c1)) rfl; have h_xc_2 := blkc HXc.out (j := 2) (u := (.slice t2a2 t2n2 t2c2)) rfl; have h_xc_3 := blkc HXc.out (j := 3) (u := (.slice t2a3 t2n3 t2c3)) rfl; have h_xc_4 := blkc HXc.out (j := 4) (u := (.string c.d)) rfl; have h_xc_5 := blkc HXc.out (j := 5) (u := (.string c.e)) rfl; have h_xc_6 := blkc HXc.out (j := 6) (u := (.int .i64 c.n)) rfl))
  clear e_c_0 e_c_1 e_c_2 e_c_3 e_c_4 e_c_5 e_c_6 e_xc_0 e_xc_1 e_xc_2 e_xc_3 e_xc_4 e_xc_5 e_xc_6 h_c_0 h_c_1 h_c_2 h_c_3 h_c_4 h_c_5 h_c_6 h_xc_0 h_xc_1 h_xc_2 h_xc_3 h_xc_4 h_xc_5 h_xc_6 dd0 dd1 dd2 dd3 dd4 dd5 dd6 dd7 dd8 dd9 dd10 dd11 dd12 dd13
  go_wp2
  go_ret
  exact ⟨rfl, B9.out⟩
end Go.Proofs.YtonpcgdnfclidaaGreatDoor
