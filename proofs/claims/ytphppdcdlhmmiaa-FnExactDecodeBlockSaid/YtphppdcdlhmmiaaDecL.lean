/- The law of DecodeBlock. -/
import Derived.Test.YtphppdcdlhmmiaaDecW
namespace Go.Proofs.Ytphppdcdlhmmiaa
open Go.RowKit
set_option maxHeartbeats 6400000 in
set_option maxRecDepth 100000 in
theorem FnExactDecodeBlock_walk (a0 : Option Addr) (len0 cap0 : Nat) (z0 : List Int) (w : World) (hr0 : Raw w a0 len0 cap0 z0) :
    Calls Try.prog 12 #[.slice a0 len0 cap0] w fun e w' => e = .returned (.bool true) ∧ Below w.heap.size w w' := by
  by_cases hbig0 : (1048576 : Int) < (len0 : Int)
  · go_enter Try.func12, Try.ntmps12
    go_wp2
    go_ret
    exact ⟨rfl, Below.refl _ _⟩
  have hle0 : len0 ≤ 1048576 := by omega
  have hl0 : (z0.take len0).length ≤ 1048576 := by simp; omega
  have heX0 := eqL_refl (z0.take len0)
  have heR0 := eqL_refl (decBlkR (z0.take len0))
  have hrl0 : (decBlkR (z0.take len0)).length ≤ 1048576 := Nat.le_trans (decBlkR_len _) (by omega)
  have heR1 := eqL_refl (decBlkP (z0.take len0))
  have hrl1 : (decBlkP (z0.take len0)).length ≤ 1048576 := Nat.le_trans (decBlkP_len _) (by omega)
  have heR2 : ((decBlkGot (z0.take len0)) != (decBlkGot (z0.take len0))) = false := by simp
  have heR3 : ((blkOk (z0.take len0)) != (blkOk (z0.take len0))) = false := by simp
  have hk0 : decide (((1 : Int) + ((z0.take len0).length : Int)) < 0) = false := by simp; omega
  have hk1 : decide ((((1 : Int) + ((decBlkR (z0.take len0)).length : Int)) + ((decBlkP (z0.take len0)).length : Int)) < 0) = false := by simp; omega
  have hk2 : ((((1 : Int) + ((decBlkR (z0.take len0)).length : Int)) + ((decBlkP (z0.take len0)).length : Int)) != (((1 : Int) + ((decBlkR (z0.take len0)).length : Int)) + ((decBlkP (z0.take len0)).length : Int))) = false := by simp
  have hti0 := fun (w : World) (hr : Raw w a0 len0 cap0 z0) => toIntS_raw a0 len0 cap0 z0 w hr hle0
  have hspec := fun (v0 : Value) (w : World) => specDec_any v0 (z0.take len0) w
  have himpl := fun (v0 : Value) (w : World) => implDec_any v0 (z0.take len0) w
  unfold DecPostS at hspec
  unfold DecPost at himpl
  generalize (decBlkR (z0.take len0)) = R0 at hspec himpl heR0 hrl0 hk1 hk2
  generalize (decBlkP (z0.take len0)) = R1 at hspec himpl heR1 hrl1 hk1 hk2
  generalize (decBlkGot (z0.take len0)) = R2 at hspec himpl heR2
  generalize (blkOk (z0.take len0)) = R3 at hspec himpl heR3
  generalize (z0.take len0) = X0 at hspec himpl hti0 heX0 hl0 hk0
  go_enter Try.func12, Try.ntmps12
  go_wp2_with fail
  refine (hti0 _ hr0).mono ?_
  rintro e w1 ⟨vs0, rfl, os0, f1⟩
  have hS1 : w.heap.size ≤ w1.heap.size := f1.size
  have B1 := f1
  have lo_os0 := os0.lt
  go_wp2_with fail
  refine (hspec vs0 _ os0.rd).mono ?_
  rintro e w2 ⟨vwr0, vwr1, rfl, owr0, owr1, f2⟩
  have hS2 : w1.heap.size ≤ w2.heap.size := f2.size
  have os0_2 := os0.belowAll f2
  have B2 := B1.trans (f2.mono B1.size)
  clear os0 B1 f2
  have lo_owr0 := owr0.lt
  have lo_owr1 := owr1.lt
  go_wp2_with fail
  refine (hti0 _ (hr0.below B2 (Nat.le_refl _))).mono ?_
  rintro e w3 ⟨vx0, rfl, ox0, f3⟩
  have hS3 : w2.heap.size ≤ w3.heap.size := f3.size
  have os0_3 := os0_2.belowAll f3
  have owr0_3 := owr0.belowAll f3
  have owr1_3 := owr1.belowAll f3
  have B3 := B2.trans (f3.mono B2.size)
  clear os0_2 owr0 owr1 B2 f3
  have lo_ox0 := ox0.lt
  go_wp2_with fail
  refine (himpl vx0 _ ox0.rd).mono ?_
  rintro e w4 ⟨vgr0, vgr1, rfl, ogr0, ogr1, apg, f4⟩
  have hS4 : w3.heap.size ≤ w4.heap.size := f4.size
  have os0_4 := os0_3.belowAll f4
  have owr0_4 := owr0_3.belowAll f4
  have owr1_4 := owr1_3.belowAll f4
  have ox0_4 := ox0.belowAll f4
  have B4 := B3.trans (f4.mono B3.size)
  clear os0_3 owr0_3 owr1_3 ox0 B3 f4
  have lo_ogr0 := ogr0.lt
  have lo_ogr1 := ogr1.lt
  go_wp2_with fail
  refine (eqIntS_any vgr0 vwr0 R0 R0 _ ogr0.rd owr0_4.rd).mono ?_
  rintro e w5 ⟨rfl, f5⟩
  have hS5 : w5.heap.size = w4.heap.size := f5.size
  have os0_5 := os0_4.dr f5
  have owr0_5 := owr0_4.dr f5
  have owr1_5 := owr1_4.dr f5
  have ox0_5 := ox0_4.dr f5
  have ogr0_5 := ogr0.dr f5
  have ogr1_5 := ogr1.dr f5
  have B5 := f5.below B4
  clear os0_4 owr0_4 owr1_4 ox0_4 ogr0 ogr1 B4 f5
  go_wp2_with fail
  refine (eqIntS_any vgr1 vwr1 R1 R1 _ ogr1_5.rd owr1_5.rd).mono ?_
  rintro e w6 ⟨rfl, f6⟩
  have hS6 : w6.heap.size = w5.heap.size := f6.size
  have os0_6 := os0_5.dr f6
  have owr0_6 := owr0_5.dr f6
  have owr1_6 := owr1_5.dr f6
  have ox0_6 := ox0_5.dr f6
  have ogr0_6 := ogr0_5.dr f6
  have ogr1_6 := ogr1_5.dr f6
  have B6 := f6.below B5
  clear os0_5 owr0_5 owr1_5 ox0_5 ogr0_5 ogr1_5 B5 f6
  go_wp2_with fail
  refine (hti0 _ (hr0.below B6 (Nat.le_refl _))).mono ?_
  rintro e w7 ⟨vy0, rfl, oy0, f7⟩
  have hS7 : w6.heap.size ≤ w7.heap.size := f7.size
  have os0_7 := os0_6.belowAll f7
  have owr0_7 := owr0_6.belowAll f7
  have owr1_7 := owr1_6.belowAll f7
  have ox0_7 := ox0_6.belowAll f7
  have ogr0_7 := ogr0_6.belowAll f7
  have ogr1_7 := ogr1_6.belowAll f7
  have B7 := B6.trans (f7.mono B6.size)
  clear os0_6 owr0_6 owr1_6 ox0_6 ogr0_6 ogr1_6 B6 f7
  have lo_oy0 := oy0.lt
  go_wp2_with fail
  refine (eqIntS_any vx0 vy0 X0 X0 _ ox0_7.rd oy0.rd).mono ?_
  rintro e w8 ⟨rfl, f8⟩
  have hS8 : w8.heap.size = w7.heap.size := f8.size
  have os0_8 := os0_7.dr f8
  have owr0_8 := owr0_7.dr f8
  have owr1_8 := owr1_7.dr f8
  have ox0_8 := ox0_7.dr f8
  have ogr0_8 := ogr0_7.dr f8
  have ogr1_8 := ogr1_7.dr f8
  have oy0_8 := oy0.dr f8
  have B8 := f8.below B7
  clear os0_7 owr0_7 owr1_7 ox0_7 ogr0_7 ogr1_7 oy0 B7 f8
  go_wp2_with fail
  refine (markIntS_any vx0 X0 1 _ _ ox0_8 (by omega) (by omega)).mono ?_
  rintro e w9 ⟨rfl, ox0_9, f9⟩
  have hS9 : w8.heap.size ≤ w9.heap.size := f9.size
  have os0_9 := os0_8.grown f9 (fun k hk e => by have := lo_os0 k hk; have := lo_ox0 k e; omega)
  have owr0_9 := owr0_8.grown f9 (fun k hk e => by have := lo_owr0 k hk; have := lo_ox0 k e; omega)
  have owr1_9 := owr1_8.grown f9 (fun k hk e => by have := lo_owr1 k hk; have := lo_ox0 k e; omega)
  have ogr0_9 := ogr0_8.grown f9 (fun k hk e => by have := lo_ogr0 k hk; have := lo_ox0 k e; omega)
  have ogr1_9 := ogr1_8.grown f9 (fun k hk e => by have := lo_ogr1 k hk; have := lo_ox0 k e; omega)
  have oy0_9 := oy0_8.grown f9 (fun k hk e => by have := lo_oy0 k hk; have := lo_ox0 k e; omega)
  have B9 := B8.grown f9 B8.size (fun k hk => by have := lo_ox0 k hk; omega)
  clear os0_8 owr0_8 owr1_8 ogr0_8 ogr1_8 oy0_8 ox0_8 B8 f9
  go_wp2_with fail
  refine (eqIntS_any vgr0 vwr0 R0 R0 _ ogr0_9.rd owr0_9.rd).mono ?_
  rintro e w10 ⟨rfl, f10⟩
  have hS10 : w10.heap.size = w9.heap.size := f10.size
  have os0_10 := os0_9.dr f10
  have owr0_10 := owr0_9.dr f10
  have owr1_10 := owr1_9.dr f10
  have ox0_10 := ox0_9.dr f10
  have ogr0_10 := ogr0_9.dr f10
  have ogr1_10 := ogr1_9.dr f10
  have oy0_10 := oy0_9.dr f10
  have B10 := f10.below B9
  clear os0_9 owr0_9 owr1_9 ox0_9 ogr0_9 ogr1_9 oy0_9 B9 f10
  go_wp2_with fail
  refine (eqIntS_any vgr1 vwr1 R1 R1 _ ogr1_10.rd owr1_10.rd).mono ?_
  rintro e w11 ⟨rfl, f11⟩
  have hS11 : w11.heap.size = w10.heap.size := f11.size
  have os0_11 := os0_10.dr f11
  have owr0_11 := owr0_10.dr f11
  have owr1_11 := owr1_10.dr f11
  have ox0_11 := ox0_10.dr f11
  have ogr0_11 := ogr0_10.dr f11
  have ogr1_11 := ogr1_10.dr f11
  have oy0_11 := oy0_10.dr f11
  have B11 := f11.below B10
  clear os0_10 owr0_10 owr1_10 ox0_10 ogr0_10 ogr1_10 oy0_10 B10 f11
  go_wp2_with fail
  refine (markIntS_any vgr0 R0 1 _ _ ogr0_11 (by omega) (by omega)).mono ?_
  rintro e w12 ⟨rfl, ogr0_12, f12⟩
  have hS12 : w11.heap.size ≤ w12.heap.size := f12.size
  have os0_12 := os0_11.grown f12 (fun k hk e => by have := lo_os0 k hk; have := lo_ogr0 k e; omega)
  have owr0_12 := owr0_11.grown f12 (fun k hk e => by have := lo_owr0 k hk; have := lo_ogr0 k e; omega)
  have owr1_12 := owr1_11.grown f12 (fun k hk e => by have := lo_owr1 k hk; have := lo_ogr0 k e; omega)
  have ox0_12 := ox0_11.grown f12 (fun k hk e => by have := lo_ox0 k hk; have := lo_ogr0 k e; omega)
  have ogr1_12 := ogr1_11.grown f12 (fun k hk e => apg k e hk)
  have oy0_12 := oy0_11.grown f12 (fun k hk e => by have := lo_oy0 k hk; have := lo_ogr0 k e; omega)
  have B12 := B11.grown f12 B11.size (fun k hk => by have := lo_ogr0 k hk; omega)
  clear os0_11 owr0_11 owr1_11 ox0_11 ogr1_11 oy0_11 ogr0_11 B11 f12
  go_wp2_with fail
  refine (markIntS_any vgr1 R1 (1 + (R0.length : Int)) _ _ ogr1_12 (by omega) (by omega)).mono ?_
  rintro e w13 ⟨rfl, ogr1_13, f13⟩
  have hS13 : w12.heap.size ≤ w13.heap.size := f13.size
  have os0_13 := os0_12.grown f13 (fun k hk e => by have := lo_os0 k hk; have := lo_ogr1 k e; omega)
  have owr0_13 := owr0_12.grown f13 (fun k hk e => by have := lo_owr0 k hk; have := lo_ogr1 k e; omega)
  have owr1_13 := owr1_12.grown f13 (fun k hk e => by have := lo_owr1 k hk; have := lo_ogr1 k e; omega)
  have ox0_13 := ox0_12.grown f13 (fun k hk e => by have := lo_ox0 k hk; have := lo_ogr1 k e; omega)
  have ogr0_13 := ogr0_12.grown f13 (fun k hk e => apg k hk e)
  have oy0_13 := oy0_12.grown f13 (fun k hk e => by have := lo_oy0 k hk; have := lo_ogr1 k e; omega)
  have B13 := B12.grown f13 B12.size (fun k hk => by have := lo_ogr1 k hk; omega)
  clear os0_12 owr0_12 owr1_12 ox0_12 ogr0_12 oy0_12 ogr1_12 B12 f13
  go_wp2_with fail
  refine (heldIntS_yes vgr0 1 R0.length _ ogr0_13.rd (by omega) (by omega)).mono ?_
  rintro e w14 ⟨rfl, f14⟩
  have hS14 : w14.heap.size = w13.heap.size := f14.size
  have os0_14 := os0_13.dr f14
  have owr0_14 := owr0_13.dr f14
  have owr1_14 := owr1_13.dr f14
  have ox0_14 := ox0_13.dr f14
  have ogr0_14 := ogr0_13.dr f14
  have ogr1_14 := ogr1_13.dr f14
  have oy0_14 := oy0_13.dr f14
  have B14 := f14.below B13
  clear os0_13 owr0_13 owr1_13 ox0_13 ogr0_13 ogr1_13 oy0_13 B13 f14
  go_wp2_with fail
  refine (heldIntS_yes vgr1 (1 + (R0.length : Int)) R1.length _ ogr1_14.rd (by omega) (by omega)).mono ?_
  rintro e w15 ⟨rfl, f15⟩
  have hS15 : w15.heap.size = w14.heap.size := f15.size
  have os0_15 := os0_14.dr f15
  have owr0_15 := owr0_14.dr f15
  have owr1_15 := owr1_14.dr f15
  have ox0_15 := ox0_14.dr f15
  have ogr0_15 := ogr0_14.dr f15
  have ogr1_15 := ogr1_14.dr f15
  have oy0_15 := oy0_14.dr f15
  have B15 := f15.below B14
  clear os0_14 owr0_14 owr1_14 ox0_14 ogr0_14 ogr1_14 oy0_14 B14 f15
  go_wp2_with fail
  refine (hti0 _ (hr0.below B15 (Nat.le_refl _))).mono ?_
  rintro e w16 ⟨vh0, rfl, oh0, f16⟩
  have hS16 : w15.heap.size ≤ w16.heap.size := f16.size
  have os0_16 := os0_15.belowAll f16
  have owr0_16 := owr0_15.belowAll f16
  have owr1_16 := owr1_15.belowAll f16
  have ox0_16 := ox0_15.belowAll f16
  have ogr0_16 := ogr0_15.belowAll f16
  have ogr1_16 := ogr1_15.belowAll f16
  have oy0_16 := oy0_15.belowAll f16
  have B16 := B15.trans (f16.mono B15.size)
  clear os0_15 owr0_15 owr1_15 ox0_15 ogr0_15 ogr1_15 oy0_15 B15 f16
  have lo_oh0 := oh0.lt
  go_wp2_with fail
  refine (himpl vh0 _ oh0.rd).mono ?_
  rintro e w17 ⟨vhr0, vhr1, rfl, ohr0, ohr1, aph, f17⟩
  have hS17 : w16.heap.size ≤ w17.heap.size := f17.size
  have os0_17 := os0_16.belowAll f17
  have owr0_17 := owr0_16.belowAll f17
  have owr1_17 := owr1_16.belowAll f17
  have ox0_17 := ox0_16.belowAll f17
  have ogr0_17 := ogr0_16.belowAll f17
  have ogr1_17 := ogr1_16.belowAll f17
  have oy0_17 := oy0_16.belowAll f17
  have oh0_17 := oh0.belowAll f17
  have B17 := B16.trans (f17.mono B16.size)
  clear os0_16 owr0_16 owr1_16 ox0_16 ogr0_16 ogr1_16 oy0_16 oh0 B16 f17
  have lo_ohr0 := ohr0.lt
  have lo_ohr1 := ohr1.lt
  go_wp2_with fail
  refine (eqIntS_any vhr0 vwr0 R0 R0 _ ohr0.rd owr0_17.rd).mono ?_
  rintro e w18 ⟨rfl, f18⟩
  have hS18 : w18.heap.size = w17.heap.size := f18.size
  have os0_18 := os0_17.dr f18
  have owr0_18 := owr0_17.dr f18
  have owr1_18 := owr1_17.dr f18
  have ox0_18 := ox0_17.dr f18
  have ogr0_18 := ogr0_17.dr f18
  have ogr1_18 := ogr1_17.dr f18
  have oy0_18 := oy0_17.dr f18
  have oh0_18 := oh0_17.dr f18
  have ohr0_18 := ohr0.dr f18
  have ohr1_18 := ohr1.dr f18
  have B18 := f18.below B17
  clear os0_17 owr0_17 owr1_17 ox0_17 ogr0_17 ogr1_17 oy0_17 oh0_17 ohr0 ohr1 B17 f18
  go_wp2_with fail
  refine (eqIntS_any vhr1 vwr1 R1 R1 _ ohr1_18.rd owr1_18.rd).mono ?_
  rintro e w19 ⟨rfl, f19⟩
  have hS19 : w19.heap.size = w18.heap.size := f19.size
  have os0_19 := os0_18.dr f19
  have owr0_19 := owr0_18.dr f19
  have owr1_19 := owr1_18.dr f19
  have ox0_19 := ox0_18.dr f19
  have ogr0_19 := ogr0_18.dr f19
  have ogr1_19 := ogr1_18.dr f19
  have oy0_19 := oy0_18.dr f19
  have oh0_19 := oh0_18.dr f19
  have ohr0_19 := ohr0_18.dr f19
  have ohr1_19 := ohr1_18.dr f19
  have B19 := f19.below B18
  clear os0_18 owr0_18 owr1_18 ox0_18 ogr0_18 ogr1_18 oy0_18 oh0_18 ohr0_18 ohr1_18 B18 f19
  go_wp2_with fail
  refine (heldIntS_yes vgr0 1 R0.length _ ogr0_19.rd (by omega) (by omega)).mono ?_
  rintro e w20 ⟨rfl, f20⟩
  have hS20 : w20.heap.size = w19.heap.size := f20.size
  have os0_20 := os0_19.dr f20
  have owr0_20 := owr0_19.dr f20
  have owr1_20 := owr1_19.dr f20
  have ox0_20 := ox0_19.dr f20
  have ogr0_20 := ogr0_19.dr f20
  have ogr1_20 := ogr1_19.dr f20
  have oy0_20 := oy0_19.dr f20
  have oh0_20 := oh0_19.dr f20
  have ohr0_20 := ohr0_19.dr f20
  have ohr1_20 := ohr1_19.dr f20
  have B20 := f20.below B19
  clear os0_19 owr0_19 owr1_19 ox0_19 ogr0_19 ogr1_19 oy0_19 oh0_19 ohr0_19 ohr1_19 B19 f20
  go_wp2_with fail
  refine (heldIntS_yes vgr1 (1 + (R0.length : Int)) R1.length _ ogr1_20.rd (by omega) (by omega)).mono ?_
  rintro e w21 ⟨rfl, f21⟩
  have hS21 : w21.heap.size = w20.heap.size := f21.size
  have os0_21 := os0_20.dr f21
  have owr0_21 := owr0_20.dr f21
  have owr1_21 := owr1_20.dr f21
  have ox0_21 := ox0_20.dr f21
  have ogr0_21 := ogr0_20.dr f21
  have ogr1_21 := ogr1_20.dr f21
  have oy0_21 := oy0_20.dr f21
  have oh0_21 := oh0_20.dr f21
  have ohr0_21 := ohr0_20.dr f21
  have ohr1_21 := ohr1_20.dr f21
  have B21 := f21.below B20
  clear os0_20 owr0_20 owr1_20 ox0_20 ogr0_20 ogr1_20 oy0_20 oh0_20 ohr0_20 ohr1_20 B20 f21
  go_wp2
  go_ret
  exact ⟨rfl, B21⟩
end Go.Proofs.Ytphppdcdlhmmiaa
