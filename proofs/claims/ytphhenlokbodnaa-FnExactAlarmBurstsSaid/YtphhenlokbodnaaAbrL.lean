/- The law FnExactAlarmBursts. (The law's walk is printed by genexact.py.) -/
import Derived.Test.YtphhenlokbodnaaAlbS
import Derived.Test.YtphhenlokbodnaaOpn
namespace Go.Proofs.Ytphhenlokbodnaa
open Go.RowKit Go.Sort Go.WideShapes
set_option maxRecDepth 100000
section
variable {H : Type} {enc : TypeId × Value → H} {W : World} {r : Reach} {b0 : Nat} {v : Value} {d : DataW H} {ps : List MemPlace}
instance : Inhabited Alm := ⟨nilA⟩
theorem opens_alm : Opens enc Try.prog W 89 (fun f : Alm => (almE f).map Dt.leaf) :=
  opens_map' (opens_struct2 (k0 := 1) (k1 := 1) Try.underlying89 (by kernel_rfl) rfl rfl (by kernel_rfl) (by kernel_rfl) opens_int_ opens_int_) (fun p => ⟨p.1, p.2⟩) (fun _ => rfl)
theorem open_alarms (hval : Value.okWide Try.prog W r b0 50 v) (h : DataW.Trod enc Try.prog W 0 (fun _ => true) true 50 v d ps) : ∃ zs : List Alm, Rwt W (flt 2 almE zs) v :=
  opens_val Try.underlying50 hval (opens_flt (m := 2) (en := almE) (fun _ => rfl) (by decide) Try.underlying50 (by kernel_rfl) opens_alm) h
end

set_option maxHeartbeats 6400000 in
theorem FnExactAlarmBursts_walk (vzs : Value) (zs : List Alm) (g : Int) (w : World) (hzs : Rwt w (flt 2 almE zs) vzs) :
    Calls Try.prog 6 #[vzs, .int .i64 g] w fun e w' => e = .returned (.bool true) ∧ Below w.heap.size w w' := by
  have HWzs := Lib.hid (fun wx (hb : Below w.heap.size w wx) => hzs.behind hb)
  clear hzs
  have B0 := Lib.hid (Below.refl w.heap.size w)
  have SZ0 := Lib.hid (Nat.le_refl w.heap.size)
  go_enter Try.func6, Try.ntmps6
  go_wp2_with fail
  refine (szAlarmS_Q vzs zs 1048576 _ (HWzs.out _ B0.out) (by omega) (by omega)).mono ?_
  unfold SzQ
  rintro e w1 ⟨r0, rfl, b, hr0⟩
  have B1 := Lib.hid (B0.out.trans (b.mono B0.out.size))
  have SZ1 := Lib.hid b.size
  clear b
  by_cases hneg0 : r0 < 0
  · have hnb : decide (r0 < 0) = true := decide_eq_true hneg0
    clear hr0
    go_wp2
    go_ret
    exact ⟨rfl, B1.out⟩
  have hnb0 : decide (r0 < 0) = false := decide_eq_false hneg0
  have hq0 : ((zs.length : Nat) : Int) ≤ 1048576 := by omega
  have hrp0 : 0 ≤ r0 := by omega
  have hrb0 : r0 ≤ 1048576 := by omega
  clear hr0
  have HZzs := Lib.hid (show zs.length ≤ 1048576 ∧ True from ⟨by omega, trivial⟩)
  have HTOzs := Lib.hid (fun wx (hb : Below w.heap.size w wx) => toAlarmS_P vzs zs wx (HWzs.out _ hb) (HZzs.out).1)
  clear hq0
  have HRL := Lib.hid (show tot (albR zs g) ≤ 1048576 from Nat.le_trans (albR_tot zs g) (HZzs.out).1)
  have hsp := fun v wx h => specAlb_any v zs g wx h
  have him := fun v wx h => implAlb_any v zs g wx h
  unfold AlbP at hsp him
  have HSP := Lib.hid hsp
  have HIM := Lib.hid him
  clear hsp him
  generalize albR zs g = R at *
  generalize albOk zs g = ok at *
  have hne1 : (ok != ok) = false := by simp
  go_wp2_with fail
  refine (HTOzs.out _ B1.out).mono ?_
  unfold ToP
  rintro e w2 ⟨t1, f1, rfl, o1, n1, g1, b⟩
  have B2 := Lib.hid (B1.out.trans (b.mono B1.out.size))
  have SZ2 := Lib.hid b.size
  have O1 := Lib.hid o1
  have HI1 := Lib.hid o1.lt
  have LO1 := Lib.hid g1
  have ND1 := Lib.hid n1
  clear b o1 g1 n1
  go_wp2_with fail
  refine (HSP.out _ _ O1.out.rd).mono ?_
  rintro e w3 ⟨y1_0, rfl, o1_0, b⟩
  obtain ⟨f2, u2, n2, g2⟩ := o1_0.open
  have B3 := Lib.hid (B2.out.trans (b.mono B2.out.size))
  have SZ3 := Lib.hid b.size
  have O1 := Lib.hid (O1.out.behind b)
  have O2 := Lib.hid u2
  have HI2 := Lib.hid (fun k hk => (g2 k hk).2)
  have LO2 := Lib.hid (fun k hk => (g2 k hk).1)
  have ND2 := Lib.hid n2
  clear b u2 n2 g2 o1_0
  go_wp2_with fail
  refine (HTOzs.out _ B3.out).mono ?_
  unfold ToP
  rintro e w4 ⟨t3, f3, rfl, o3, n3, g3, b⟩
  have B4 := Lib.hid (B3.out.trans (b.mono B3.out.size))
  have SZ4 := Lib.hid b.size
  have O2 := Lib.hid (O2.out.behind b)
  have O3 := Lib.hid o3
  have HI3 := Lib.hid o3.lt
  have LO3 := Lib.hid g3
  have ND3 := Lib.hid n3
  clear b o3 g3 n3
  go_wp2_with fail
  refine (HIM.out _ _ O3.out.rd).mono ?_
  rintro e w5 ⟨y2_0, rfl, o2_0, b⟩
  obtain ⟨f4, u4, n4, g4⟩ := o2_0.open
  have B5 := Lib.hid (B4.out.trans (b.mono B4.out.size))
  have SZ5 := Lib.hid b.size
  have O2 := Lib.hid (O2.out.behind b)
  have O3 := Lib.hid (O3.out.behind b)
  have O4 := Lib.hid u4
  have HI4 := Lib.hid (fun k hk => (g4 k hk).2)
  have LO4 := Lib.hid (fun k hk => (g4 k hk).1)
  have ND4 := Lib.hid n4
  clear b u4 n4 g4 o2_0
  go_wp2_with fail
  refine (eqIntSS_same y2_0 y1_0 R _ O4.out.rd O2.out.rd).mono ?_
  rintro e w6 ⟨rfl, b⟩
  have B6 := Lib.hid (B5.out.trans (b.mono B5.out.size))
  have SZ6 := Lib.hid b.size
  have O2 := Lib.hid (O2.out.behind b)
  have O3 := Lib.hid (O3.out.behind b)
  have O4 := Lib.hid (O4.out.behind b)
  clear b
  go_wp2_with fail
  refine (HTOzs.out _ B6.out).mono ?_
  unfold ToP
  rintro e w7 ⟨t5, f5, rfl, o5, n5, g5, b⟩
  have B7 := Lib.hid (B6.out.trans (b.mono B6.out.size))
  have SZ7 := Lib.hid b.size
  have O2 := Lib.hid (O2.out.behind b)
  have O3 := Lib.hid (O3.out.behind b)
  have O4 := Lib.hid (O4.out.behind b)
  have O5 := Lib.hid o5
  have HI5 := Lib.hid o5.lt
  have LO5 := Lib.hid g5
  have ND5 := Lib.hid n5
  clear b o5 g5 n5
  go_wp2_with fail
  refine (eqAlarmS_same t3 t5 zs _ O3.out.rd O5.out.rd).mono ?_
  rintro e w8 ⟨rfl, b⟩
  have B8 := Lib.hid (B7.out.trans (b.mono B7.out.size))
  have SZ8 := Lib.hid b.size
  have O2 := Lib.hid (O2.out.behind b)
  have O3 := Lib.hid (O3.out.behind b)
  have O4 := Lib.hid (O4.out.behind b)
  clear b
  obtain ⟨k0, hk0⟩ : ∃ m : Nat, m = 1 + 2 * zs.length := ⟨_, rfl⟩
  have hkp0 : 0 < k0 ∧ k0 ≤ 67108864 := by have := (HZzs.out).1; omega
  go_wp2_with fail
  refine (markAlarmS_N t3 zs f3 1 _ O3.out ND3.out (HZzs.out).1 (by omega) (by omega)).mono ?_
  rw [← hk0]
  rintro e w9 ⟨rfl, -, wr⟩
  have B9 := Lib.hid (wr.below B8.out B8.out.size (fun k hk => by have h1 := LO3.out k hk; have s0 := SZ0.out; have s1 := SZ1.out; have s2 := SZ2.out; have s3 := SZ3.out; omega))
  have SZ9 := Lib.hid wr.size
  have O2 := Lib.hid (O2.out.apart wr (fun k hk hk2 => by have h1 := HI2.out k hk; have h2 := LO3.out k hk2; skip; omega))
  have O4 := Lib.hid (O4.out.apart wr (fun k hk hk2 => by have h1 := HI3.out k hk2; have h2 := LO4.out k hk; skip; omega))
  clear wr hk0
  have hkn : ¬ (k0 : Int) < 0 := by omega
  have hknb : decide ((k0 : Int) < 0) = false := decide_eq_false hkn
  go_wp2_with fail
  refine (eqIntSS_same y2_0 y1_0 R _ O4.out.rd O2.out.rd).mono ?_
  rintro e w10 ⟨rfl, b⟩
  have B10 := Lib.hid (B9.out.trans (b.mono B9.out.size))
  have SZ10 := Lib.hid b.size
  have O2 := Lib.hid (O2.out.behind b)
  have O4 := Lib.hid (O4.out.behind b)
  clear b
  clear hkn hknb
  obtain ⟨m0, hm0⟩ : ∃ m : Nat, m = 1 + tot R := ⟨_, rfl⟩
  have hmb0 : 1 ≤ m0 := by omega
  go_wp2_with fail
  refine (markIntSS_N1 y2_0 R f4 _ O4.out ND4.out HRL.out).mono ?_
  rw [← hm0]
  rintro e w11 ⟨rfl, om, wr⟩
  have B11 := Lib.hid (wr.below B10.out B10.out.size (fun k hk => by have h1 := LO4.out k hk; have s0 := SZ0.out; have s1 := SZ1.out; have s2 := SZ2.out; have s3 := SZ3.out; have s4 := SZ4.out; omega))
  have SZ11 := Lib.hid wr.size
  have O2 := Lib.hid (O2.out.apart wr (fun k hk hk2 => by have h1 := HI2.out k hk; have h2 := LO4.out k hk2; have s4 := SZ4.out; omega))
  have O4 := Lib.hid om
  have HM0 := Lib.hid hm0
  clear wr hm0 om
  have hmn : (m0 != m0) = false := by simp
  have hmi : ((m0 : Int) != (m0 : Int)) = false := by simp
  go_wp2_with fail
  refine (heldIntSS_N1 y2_0 R _ O4.out.rd HRL.out).mono ?_
  rw [← HM0.out]
  rintro e w12 ⟨rfl, b⟩
  have B12 := Lib.hid (B11.out.trans (b.mono B11.out.size))
  have SZ12 := Lib.hid b.size
  have O2 := Lib.hid (O2.out.behind b)
  have O4 := Lib.hid (O4.out.behind b)
  clear b
  have hqn0 : ¬ (m0 : Int) < 0 := by omega
  have hqb0 : decide ((m0 : Int) < 0) = false := decide_eq_false hqn0
  clear hqn0 hqb0
  go_wp2_with fail
  refine (HTOzs.out _ B12.out).mono ?_
  unfold ToP
  rintro e w13 ⟨t6, f6, rfl, o6, n6, g6, b⟩
  have B13 := Lib.hid (B12.out.trans (b.mono B12.out.size))
  have SZ13 := Lib.hid b.size
  have O2 := Lib.hid (O2.out.behind b)
  have O4 := Lib.hid (O4.out.behind b)
  have O6 := Lib.hid o6
  have HI6 := Lib.hid o6.lt
  have LO6 := Lib.hid g6
  have ND6 := Lib.hid n6
  clear b o6 g6 n6
  go_wp2_with fail
  refine (HIM.out _ _ O6.out.rd).mono ?_
  rintro e w14 ⟨y3_0, rfl, o3_0, b⟩
  obtain ⟨f7, u7, n7, g7⟩ := o3_0.open
  have B14 := Lib.hid (B13.out.trans (b.mono B13.out.size))
  have SZ14 := Lib.hid b.size
  have O2 := Lib.hid (O2.out.behind b)
  have O4 := Lib.hid (O4.out.behind b)
  have O6 := Lib.hid (O6.out.behind b)
  have O7 := Lib.hid u7
  have HI7 := Lib.hid (fun k hk => (g7 k hk).2)
  have LO7 := Lib.hid (fun k hk => (g7 k hk).1)
  have ND7 := Lib.hid n7
  clear b u7 n7 g7 o3_0
  go_wp2_with fail
  refine (eqIntSS_same y3_0 y1_0 R _ O7.out.rd O2.out.rd).mono ?_
  rintro e w15 ⟨rfl, b⟩
  have B15 := Lib.hid (B14.out.trans (b.mono B14.out.size))
  have SZ15 := Lib.hid b.size
  have O2 := Lib.hid (O2.out.behind b)
  have O4 := Lib.hid (O4.out.behind b)
  have O7 := Lib.hid (O7.out.behind b)
  clear b
  go_wp2_with fail
  refine (heldIntSS_N1 y2_0 R _ O4.out.rd HRL.out).mono ?_
  rw [← HM0.out]
  rintro e w16 ⟨rfl, b⟩
  have B16 := Lib.hid (B15.out.trans (b.mono B15.out.size))
  have SZ16 := Lib.hid b.size
  have O2 := Lib.hid (O2.out.behind b)
  have O4 := Lib.hid (O4.out.behind b)
  have O7 := Lib.hid (O7.out.behind b)
  clear b
  have hqn0 : ¬ (m0 : Int) < 0 := by omega
  have hqb0 : decide ((m0 : Int) < 0) = false := decide_eq_false hqn0
  go_wp2
  go_ret
  exact ⟨rfl, B16.out⟩
end Go.Proofs.Ytphhenlokbodnaa
