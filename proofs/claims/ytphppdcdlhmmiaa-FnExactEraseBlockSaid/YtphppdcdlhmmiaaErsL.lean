/- The law of EraseBlock. -/
import Derived.Test.YtphppdcdlhmmiaaErsW
namespace Go.Proofs.Ytphppdcdlhmmiaa
open Go.RowKit
set_option maxHeartbeats 6400000 in
set_option maxRecDepth 100000 in
theorem FnExactEraseBlock_walk (a0 : Option Addr) (len0 cap0 : Nat) (z0 : List Int) (a1 : Option Addr) (len1 cap1 : Nat) (z1 : List Int) (w : World) (hr0 : Raw w a0 len0 cap0 z0) (hr1 : Raw w a1 len1 cap1 z1) :
    Calls Try.prog 10 #[.slice a0 len0 cap0, .slice a1 len1 cap1] w fun e w' => e = .returned (.bool true) ∧ Below w.heap.size w w' := by
  by_cases hbig0 : (1048576 : Int) < (len0 : Int)
  · go_enter Try.func10, Try.ntmps10
    go_wp2
    go_ret
    exact ⟨rfl, Below.refl _ _⟩
  have hle0 : len0 ≤ 1048576 := by omega
  by_cases hbig1 : (1048576 : Int) < (len1 : Int)
  · go_enter Try.func10, Try.ntmps10
    go_wp2
    go_ret
    exact ⟨rfl, Below.refl _ _⟩
  have hle1 : len1 ≤ 1048576 := by omega
  have hl0 : (z0.take len0).length ≤ 1048576 := by simp; omega
  have hl1 : (z1.take len1).length ≤ 1048576 := by simp; omega
  have heX0 := eqL_refl (z0.take len0)
  have heX1 := eqL_refl (z1.take len1)
  have heR0 := eqL_refl (erR (z0.take len0) (z1.take len1))
  have hrl0 : (erR (z0.take len0) (z1.take len1)).length ≤ 1048576 := Nat.le_trans (erR_len _ _) (by omega)
  have heR1 : ((erGot (z0.take len0) (z1.take len1)) != (erGot (z0.take len0) (z1.take len1))) = false := by simp
  have heR2 : ((erOk (z0.take len0) (z1.take len1)) != (erOk (z0.take len0) (z1.take len1))) = false := by simp
  have hk0 : decide ((((1 : Int) + ((z0.take len0).length : Int)) + ((z1.take len1).length : Int)) < 0) = false := by simp; omega
  have hk1 : decide (((1 : Int) + ((erR (z0.take len0) (z1.take len1)).length : Int)) < 0) = false := by simp; omega
  have hk2 : (((1 : Int) + ((erR (z0.take len0) (z1.take len1)).length : Int)) != ((1 : Int) + ((erR (z0.take len0) (z1.take len1)).length : Int))) = false := by simp
  have hti0 := fun (w : World) (hr : Raw w a0 len0 cap0 z0) => toIntS_raw a0 len0 cap0 z0 w hr hle0
  have hti1 := fun (w : World) (hr : Raw w a1 len1 cap1 z1) => toIntS_raw a1 len1 cap1 z1 w hr hle1
  have hspec := fun (v0 v1 : Value) (w : World) => specEr_any v0 (z0.take len0) v1 (z1.take len1) w
  have himpl := fun (v0 v1 : Value) (w : World) => implEr_any v0 (z0.take len0) v1 (z1.take len1) w
  unfold ErsPost at hspec himpl
  generalize (erR (z0.take len0) (z1.take len1)) = R0 at hspec himpl heR0 hrl0 hk1 hk2
  generalize (erGot (z0.take len0) (z1.take len1)) = R1 at hspec himpl heR1
  generalize (erOk (z0.take len0) (z1.take len1)) = R2 at hspec himpl heR2
  generalize (z0.take len0) = X0 at hspec himpl hti0 heX0 hl0 hk0
  generalize (z1.take len1) = X1 at hspec himpl hti1 heX1 hl1 hk0
  go_enter Try.func10, Try.ntmps10
  go_wp2_with fail
  refine (hti0 _ hr0).mono ?_
  rintro e w1 ⟨vs0, rfl, os0, f1⟩
  have hS1 : w.heap.size ≤ w1.heap.size := f1.size
  have B1 := f1
  have lo_os0 := os0.lt
  go_wp2_with fail
  refine (hti1 _ (hr1.below B1 (Nat.le_refl _))).mono ?_
  rintro e w2 ⟨vs1, rfl, os1, f2⟩
  have hS2 : w1.heap.size ≤ w2.heap.size := f2.size
  have os0_2 := os0.belowAll f2
  have B2 := B1.trans (f2.mono B1.size)
  clear os0 B1 f2
  have lo_os1 := os1.lt
  go_wp2_with fail
  refine (hspec vs0 vs1 _ os0_2.rd os1.rd).mono ?_
  rintro e w3 ⟨vwr0, rfl, owr0, f3⟩
  have hS3 : w2.heap.size ≤ w3.heap.size := f3.size
  have os0_3 := os0_2.belowAll f3
  have os1_3 := os1.belowAll f3
  have B3 := B2.trans (f3.mono B2.size)
  clear os0_2 os1 B2 f3
  have lo_owr0 := owr0.lt
  go_wp2_with fail
  refine (hti0 _ (hr0.below B3 (Nat.le_refl _))).mono ?_
  rintro e w4 ⟨vx0, rfl, ox0, f4⟩
  have hS4 : w3.heap.size ≤ w4.heap.size := f4.size
  have os0_4 := os0_3.belowAll f4
  have os1_4 := os1_3.belowAll f4
  have owr0_4 := owr0.belowAll f4
  have B4 := B3.trans (f4.mono B3.size)
  clear os0_3 os1_3 owr0 B3 f4
  have lo_ox0 := ox0.lt
  go_wp2_with fail
  refine (hti1 _ (hr1.below B4 (Nat.le_refl _))).mono ?_
  rintro e w5 ⟨vx1, rfl, ox1, f5⟩
  have hS5 : w4.heap.size ≤ w5.heap.size := f5.size
  have os0_5 := os0_4.belowAll f5
  have os1_5 := os1_4.belowAll f5
  have owr0_5 := owr0_4.belowAll f5
  have ox0_5 := ox0.belowAll f5
  have B5 := B4.trans (f5.mono B4.size)
  clear os0_4 os1_4 owr0_4 ox0 B4 f5
  have lo_ox1 := ox1.lt
  go_wp2_with fail
  refine (himpl vx0 vx1 _ ox0_5.rd ox1.rd).mono ?_
  rintro e w6 ⟨vgr0, rfl, ogr0, f6⟩
  have hS6 : w5.heap.size ≤ w6.heap.size := f6.size
  have os0_6 := os0_5.belowAll f6
  have os1_6 := os1_5.belowAll f6
  have owr0_6 := owr0_5.belowAll f6
  have ox0_6 := ox0_5.belowAll f6
  have ox1_6 := ox1.belowAll f6
  have B6 := B5.trans (f6.mono B5.size)
  clear os0_5 os1_5 owr0_5 ox0_5 ox1 B5 f6
  have lo_ogr0 := ogr0.lt
  go_wp2_with fail
  refine (eqIntS_any vgr0 vwr0 R0 R0 _ ogr0.rd owr0_6.rd).mono ?_
  rintro e w7 ⟨rfl, f7⟩
  have hS7 : w7.heap.size = w6.heap.size := f7.size
  have os0_7 := os0_6.dr f7
  have os1_7 := os1_6.dr f7
  have owr0_7 := owr0_6.dr f7
  have ox0_7 := ox0_6.dr f7
  have ox1_7 := ox1_6.dr f7
  have ogr0_7 := ogr0.dr f7
  have B7 := f7.below B6
  clear os0_6 os1_6 owr0_6 ox0_6 ox1_6 ogr0 B6 f7
  go_wp2_with fail
  refine (hti0 _ (hr0.below B7 (Nat.le_refl _))).mono ?_
  rintro e w8 ⟨vy0, rfl, oy0, f8⟩
  have hS8 : w7.heap.size ≤ w8.heap.size := f8.size
  have os0_8 := os0_7.belowAll f8
  have os1_8 := os1_7.belowAll f8
  have owr0_8 := owr0_7.belowAll f8
  have ox0_8 := ox0_7.belowAll f8
  have ox1_8 := ox1_7.belowAll f8
  have ogr0_8 := ogr0_7.belowAll f8
  have B8 := B7.trans (f8.mono B7.size)
  clear os0_7 os1_7 owr0_7 ox0_7 ox1_7 ogr0_7 B7 f8
  have lo_oy0 := oy0.lt
  go_wp2_with fail
  refine (eqIntS_any vx0 vy0 X0 X0 _ ox0_8.rd oy0.rd).mono ?_
  rintro e w9 ⟨rfl, f9⟩
  have hS9 : w9.heap.size = w8.heap.size := f9.size
  have os0_9 := os0_8.dr f9
  have os1_9 := os1_8.dr f9
  have owr0_9 := owr0_8.dr f9
  have ox0_9 := ox0_8.dr f9
  have ox1_9 := ox1_8.dr f9
  have ogr0_9 := ogr0_8.dr f9
  have oy0_9 := oy0.dr f9
  have B9 := f9.below B8
  clear os0_8 os1_8 owr0_8 ox0_8 ox1_8 ogr0_8 oy0 B8 f9
  go_wp2_with fail
  refine (hti1 _ (hr1.below B9 (Nat.le_refl _))).mono ?_
  rintro e w10 ⟨vy1, rfl, oy1, f10⟩
  have hS10 : w9.heap.size ≤ w10.heap.size := f10.size
  have os0_10 := os0_9.belowAll f10
  have os1_10 := os1_9.belowAll f10
  have owr0_10 := owr0_9.belowAll f10
  have ox0_10 := ox0_9.belowAll f10
  have ox1_10 := ox1_9.belowAll f10
  have ogr0_10 := ogr0_9.belowAll f10
  have oy0_10 := oy0_9.belowAll f10
  have B10 := B9.trans (f10.mono B9.size)
  clear os0_9 os1_9 owr0_9 ox0_9 ox1_9 ogr0_9 oy0_9 B9 f10
  have lo_oy1 := oy1.lt
  go_wp2_with fail
  refine (eqIntS_any vx1 vy1 X1 X1 _ ox1_10.rd oy1.rd).mono ?_
  rintro e w11 ⟨rfl, f11⟩
  have hS11 : w11.heap.size = w10.heap.size := f11.size
  have os0_11 := os0_10.dr f11
  have os1_11 := os1_10.dr f11
  have owr0_11 := owr0_10.dr f11
  have ox0_11 := ox0_10.dr f11
  have ox1_11 := ox1_10.dr f11
  have ogr0_11 := ogr0_10.dr f11
  have oy0_11 := oy0_10.dr f11
  have oy1_11 := oy1.dr f11
  have B11 := f11.below B10
  clear os0_10 os1_10 owr0_10 ox0_10 ox1_10 ogr0_10 oy0_10 oy1 B10 f11
  go_wp2_with fail
  refine (markIntS_any vx0 X0 1 _ _ ox0_11 (by omega) (by omega)).mono ?_
  rintro e w12 ⟨rfl, ox0_12, f12⟩
  have hS12 : w11.heap.size ≤ w12.heap.size := f12.size
  have os0_12 := os0_11.grown f12 (fun k hk e => by have := lo_os0 k hk; have := lo_ox0 k e; omega)
  have os1_12 := os1_11.grown f12 (fun k hk e => by have := lo_os1 k hk; have := lo_ox0 k e; omega)
  have owr0_12 := owr0_11.grown f12 (fun k hk e => by have := lo_owr0 k hk; have := lo_ox0 k e; omega)
  have ox1_12 := ox1_11.grown f12 (fun k hk e => by have := lo_ox1 k hk; have := lo_ox0 k e; omega)
  have ogr0_12 := ogr0_11.grown f12 (fun k hk e => by have := lo_ogr0 k hk; have := lo_ox0 k e; omega)
  have oy0_12 := oy0_11.grown f12 (fun k hk e => by have := lo_oy0 k hk; have := lo_ox0 k e; omega)
  have oy1_12 := oy1_11.grown f12 (fun k hk e => by have := lo_oy1 k hk; have := lo_ox0 k e; omega)
  have B12 := B11.grown f12 B11.size (fun k hk => by have := lo_ox0 k hk; omega)
  clear os0_11 os1_11 owr0_11 ox1_11 ogr0_11 oy0_11 oy1_11 ox0_11 B11 f12
  go_wp2_with fail
  refine (markIntS_any vx1 X1 (1 + (X0.length : Int)) _ _ ox1_12 (by omega) (by omega)).mono ?_
  rintro e w13 ⟨rfl, ox1_13, f13⟩
  have hS13 : w12.heap.size ≤ w13.heap.size := f13.size
  have os0_13 := os0_12.grown f13 (fun k hk e => by have := lo_os0 k hk; have := lo_ox1 k e; omega)
  have os1_13 := os1_12.grown f13 (fun k hk e => by have := lo_os1 k hk; have := lo_ox1 k e; omega)
  have owr0_13 := owr0_12.grown f13 (fun k hk e => by have := lo_owr0 k hk; have := lo_ox1 k e; omega)
  have ox0_13 := ox0_12.grown f13 (fun k hk e => by have := lo_ox0 k hk; have := lo_ox1 k e; omega)
  have ogr0_13 := ogr0_12.grown f13 (fun k hk e => by have := lo_ogr0 k hk; have := lo_ox1 k e; omega)
  have oy0_13 := oy0_12.grown f13 (fun k hk e => by have := lo_oy0 k hk; have := lo_ox1 k e; omega)
  have oy1_13 := oy1_12.grown f13 (fun k hk e => by have := lo_oy1 k hk; have := lo_ox1 k e; omega)
  have B13 := B12.grown f13 B12.size (fun k hk => by have := lo_ox1 k hk; omega)
  clear os0_12 os1_12 owr0_12 ox0_12 ogr0_12 oy0_12 oy1_12 ox1_12 B12 f13
  go_wp2_with fail
  refine (eqIntS_any vgr0 vwr0 R0 R0 _ ogr0_13.rd owr0_13.rd).mono ?_
  rintro e w14 ⟨rfl, f14⟩
  have hS14 : w14.heap.size = w13.heap.size := f14.size
  have os0_14 := os0_13.dr f14
  have os1_14 := os1_13.dr f14
  have owr0_14 := owr0_13.dr f14
  have ox0_14 := ox0_13.dr f14
  have ox1_14 := ox1_13.dr f14
  have ogr0_14 := ogr0_13.dr f14
  have oy0_14 := oy0_13.dr f14
  have oy1_14 := oy1_13.dr f14
  have B14 := f14.below B13
  clear os0_13 os1_13 owr0_13 ox0_13 ox1_13 ogr0_13 oy0_13 oy1_13 B13 f14
  go_wp2_with fail
  refine (markIntS_any vgr0 R0 1 _ _ ogr0_14 (by omega) (by omega)).mono ?_
  rintro e w15 ⟨rfl, ogr0_15, f15⟩
  have hS15 : w14.heap.size ≤ w15.heap.size := f15.size
  have os0_15 := os0_14.grown f15 (fun k hk e => by have := lo_os0 k hk; have := lo_ogr0 k e; omega)
  have os1_15 := os1_14.grown f15 (fun k hk e => by have := lo_os1 k hk; have := lo_ogr0 k e; omega)
  have owr0_15 := owr0_14.grown f15 (fun k hk e => by have := lo_owr0 k hk; have := lo_ogr0 k e; omega)
  have ox0_15 := ox0_14.grown f15 (fun k hk e => by have := lo_ox0 k hk; have := lo_ogr0 k e; omega)
  have ox1_15 := ox1_14.grown f15 (fun k hk e => by have := lo_ox1 k hk; have := lo_ogr0 k e; omega)
  have oy0_15 := oy0_14.grown f15 (fun k hk e => by have := lo_oy0 k hk; have := lo_ogr0 k e; omega)
  have oy1_15 := oy1_14.grown f15 (fun k hk e => by have := lo_oy1 k hk; have := lo_ogr0 k e; omega)
  have B15 := B14.grown f15 B14.size (fun k hk => by have := lo_ogr0 k hk; omega)
  clear os0_14 os1_14 owr0_14 ox0_14 ox1_14 oy0_14 oy1_14 ogr0_14 B14 f15
  go_wp2_with fail
  refine (heldIntS_yes vgr0 1 R0.length _ ogr0_15.rd (by omega) (by omega)).mono ?_
  rintro e w16 ⟨rfl, f16⟩
  have hS16 : w16.heap.size = w15.heap.size := f16.size
  have os0_16 := os0_15.dr f16
  have os1_16 := os1_15.dr f16
  have owr0_16 := owr0_15.dr f16
  have ox0_16 := ox0_15.dr f16
  have ox1_16 := ox1_15.dr f16
  have ogr0_16 := ogr0_15.dr f16
  have oy0_16 := oy0_15.dr f16
  have oy1_16 := oy1_15.dr f16
  have B16 := f16.below B15
  clear os0_15 os1_15 owr0_15 ox0_15 ox1_15 ogr0_15 oy0_15 oy1_15 B15 f16
  go_wp2_with fail
  refine (hti0 _ (hr0.below B16 (Nat.le_refl _))).mono ?_
  rintro e w17 ⟨vh0, rfl, oh0, f17⟩
  have hS17 : w16.heap.size ≤ w17.heap.size := f17.size
  have os0_17 := os0_16.belowAll f17
  have os1_17 := os1_16.belowAll f17
  have owr0_17 := owr0_16.belowAll f17
  have ox0_17 := ox0_16.belowAll f17
  have ox1_17 := ox1_16.belowAll f17
  have ogr0_17 := ogr0_16.belowAll f17
  have oy0_17 := oy0_16.belowAll f17
  have oy1_17 := oy1_16.belowAll f17
  have B17 := B16.trans (f17.mono B16.size)
  clear os0_16 os1_16 owr0_16 ox0_16 ox1_16 ogr0_16 oy0_16 oy1_16 B16 f17
  have lo_oh0 := oh0.lt
  go_wp2_with fail
  refine (hti1 _ (hr1.below B17 (Nat.le_refl _))).mono ?_
  rintro e w18 ⟨vh1, rfl, oh1, f18⟩
  have hS18 : w17.heap.size ≤ w18.heap.size := f18.size
  have os0_18 := os0_17.belowAll f18
  have os1_18 := os1_17.belowAll f18
  have owr0_18 := owr0_17.belowAll f18
  have ox0_18 := ox0_17.belowAll f18
  have ox1_18 := ox1_17.belowAll f18
  have ogr0_18 := ogr0_17.belowAll f18
  have oy0_18 := oy0_17.belowAll f18
  have oy1_18 := oy1_17.belowAll f18
  have oh0_18 := oh0.belowAll f18
  have B18 := B17.trans (f18.mono B17.size)
  clear os0_17 os1_17 owr0_17 ox0_17 ox1_17 ogr0_17 oy0_17 oy1_17 oh0 B17 f18
  have lo_oh1 := oh1.lt
  go_wp2_with fail
  refine (himpl vh0 vh1 _ oh0_18.rd oh1.rd).mono ?_
  rintro e w19 ⟨vhr0, rfl, ohr0, f19⟩
  have hS19 : w18.heap.size ≤ w19.heap.size := f19.size
  have os0_19 := os0_18.belowAll f19
  have os1_19 := os1_18.belowAll f19
  have owr0_19 := owr0_18.belowAll f19
  have ox0_19 := ox0_18.belowAll f19
  have ox1_19 := ox1_18.belowAll f19
  have ogr0_19 := ogr0_18.belowAll f19
  have oy0_19 := oy0_18.belowAll f19
  have oy1_19 := oy1_18.belowAll f19
  have oh0_19 := oh0_18.belowAll f19
  have oh1_19 := oh1.belowAll f19
  have B19 := B18.trans (f19.mono B18.size)
  clear os0_18 os1_18 owr0_18 ox0_18 ox1_18 ogr0_18 oy0_18 oy1_18 oh0_18 oh1 B18 f19
  have lo_ohr0 := ohr0.lt
  go_wp2_with fail
  refine (eqIntS_any vhr0 vwr0 R0 R0 _ ohr0.rd owr0_19.rd).mono ?_
  rintro e w20 ⟨rfl, f20⟩
  have hS20 : w20.heap.size = w19.heap.size := f20.size
  have os0_20 := os0_19.dr f20
  have os1_20 := os1_19.dr f20
  have owr0_20 := owr0_19.dr f20
  have ox0_20 := ox0_19.dr f20
  have ox1_20 := ox1_19.dr f20
  have ogr0_20 := ogr0_19.dr f20
  have oy0_20 := oy0_19.dr f20
  have oy1_20 := oy1_19.dr f20
  have oh0_20 := oh0_19.dr f20
  have oh1_20 := oh1_19.dr f20
  have ohr0_20 := ohr0.dr f20
  have B20 := f20.below B19
  clear os0_19 os1_19 owr0_19 ox0_19 ox1_19 ogr0_19 oy0_19 oy1_19 oh0_19 oh1_19 ohr0 B19 f20
  go_wp2_with fail
  refine (heldIntS_yes vgr0 1 R0.length _ ogr0_20.rd (by omega) (by omega)).mono ?_
  rintro e w21 ⟨rfl, f21⟩
  have hS21 : w21.heap.size = w20.heap.size := f21.size
  have os0_21 := os0_20.dr f21
  have os1_21 := os1_20.dr f21
  have owr0_21 := owr0_20.dr f21
  have ox0_21 := ox0_20.dr f21
  have ox1_21 := ox1_20.dr f21
  have ogr0_21 := ogr0_20.dr f21
  have oy0_21 := oy0_20.dr f21
  have oy1_21 := oy1_20.dr f21
  have oh0_21 := oh0_20.dr f21
  have oh1_21 := oh1_20.dr f21
  have ohr0_21 := ohr0_20.dr f21
  have B21 := f21.below B20
  clear os0_20 os1_20 owr0_20 ox0_20 ox1_20 ogr0_20 oy0_20 oy1_20 oh0_20 oh1_20 ohr0_20 B20 f21
  go_wp2
  go_ret
  exact ⟨rfl, B21⟩
end Go.Proofs.Ytphppdcdlhmmiaa
