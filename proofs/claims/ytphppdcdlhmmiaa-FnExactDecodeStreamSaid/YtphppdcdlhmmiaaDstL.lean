/- The law of DecodeStream. -/
import Derived.Test.YtphppdcdlhmmiaaDstW
namespace Go.Proofs.Ytphppdcdlhmmiaa
open Go.RowKit
set_option maxHeartbeats 6400000 in
set_option maxRecDepth 100000 in
theorem FnExactDecodeStream_walk (a0 : Option Addr) (len0 cap0 : Nat) (z0 : List Int) (w : World) (hr0 : Raw w a0 len0 cap0 z0) :
    Calls Try.prog 13 #[.slice a0 len0 cap0] w fun e w' => e = .returned (.bool true) ∧ Below w.heap.size w w' := by
  by_cases hbig0 : (1048576 : Int) < (len0 : Int)
  · go_enter Try.func13, Try.ntmps13
    go_wp2
    go_ret
    exact ⟨rfl, Below.refl _ _⟩
  have hle0 : len0 ≤ 1048576 := by omega
  have hl0 : (z0.take len0).length ≤ 1048576 := by simp; omega
  have heX0 := eqL_refl (z0.take len0)
  have heR0 := eqL_refl (dstR (z0.take len0))
  have hrl0 : (dstR (z0.take len0)).length ≤ 1048576 := Nat.le_trans (dstR_len _) (by omega)
  have heR1 : ((dstN (z0.take len0)) != (dstN (z0.take len0))) = false := by simp
  have heR2 : ((dstTo (z0.take len0)).isSome != (dstTo (z0.take len0)).isSome) = false := by simp
  have heR3 : ((strOk 15 (z0.take len0)) != (strOk 15 (z0.take len0))) = false := by simp
  have hk0 : decide (((1 : Int) + ((z0.take len0).length : Int)) < 0) = false := by simp; omega
  have hk1 : decide (((1 : Int) + ((dstR (z0.take len0)).length : Int)) < 0) = false := by simp; omega
  have hk2 : (((1 : Int) + ((dstR (z0.take len0)).length : Int)) != ((1 : Int) + ((dstR (z0.take len0)).length : Int))) = false := by simp
  have hti0 := fun (w : World) (hr : Raw w a0 len0 cap0 z0) => toIntS_raw a0 len0 cap0 z0 w hr hle0
  have hspec := fun (v0 : Value) (w : World) => specDst_any v0 (z0.take len0) w
  have himpl := fun (v0 : Value) (w : World) => implDst_any v0 (z0.take len0) w
  unfold DstPost at hspec himpl
  generalize (dstR (z0.take len0)) = R0 at hspec himpl heR0 hrl0 hk1 hk2
  generalize (dstN (z0.take len0)) = R1 at hspec himpl heR1
  generalize (dstTo (z0.take len0)).isSome = R2 at hspec himpl heR2
  generalize (strOk 15 (z0.take len0)) = R3 at hspec himpl heR3
  generalize (z0.take len0) = X0 at hspec himpl hti0 heX0 hl0 hk0
  go_enter Try.func13, Try.ntmps13
  go_wp2_with fail
  refine (hti0 _ hr0).mono ?_
  rintro e w1 ⟨vs0, rfl, os0, f1⟩
  have hS1 : w.heap.size ≤ w1.heap.size := f1.size
  have B1 := f1
  have lo_os0 := os0.lt
  go_wp2_with fail
  refine (hspec vs0 _ os0.rd).mono ?_
  rintro e w2 ⟨vwr0, rfl, owr0, f2⟩
  have hS2 : w1.heap.size ≤ w2.heap.size := f2.size
  have os0_2 := os0.belowAll f2
  have B2 := B1.trans (f2.mono B1.size)
  clear os0 B1 f2
  have lo_owr0 := owr0.lt
  go_wp2_with fail
  refine (hti0 _ (hr0.below B2 (Nat.le_refl _))).mono ?_
  rintro e w3 ⟨vx0, rfl, ox0, f3⟩
  have hS3 : w2.heap.size ≤ w3.heap.size := f3.size
  have os0_3 := os0_2.belowAll f3
  have owr0_3 := owr0.belowAll f3
  have B3 := B2.trans (f3.mono B2.size)
  clear os0_2 owr0 B2 f3
  have lo_ox0 := ox0.lt
  go_wp2_with fail
  refine (himpl vx0 _ ox0.rd).mono ?_
  rintro e w4 ⟨vgr0, rfl, ogr0, f4⟩
  have hS4 : w3.heap.size ≤ w4.heap.size := f4.size
  have os0_4 := os0_3.belowAll f4
  have owr0_4 := owr0_3.belowAll f4
  have ox0_4 := ox0.belowAll f4
  have B4 := B3.trans (f4.mono B3.size)
  clear os0_3 owr0_3 ox0 B3 f4
  have lo_ogr0 := ogr0.lt
  go_wp2_with fail
  refine (eqIntS_any vgr0 vwr0 R0 R0 _ ogr0.rd owr0_4.rd).mono ?_
  rintro e w5 ⟨rfl, f5⟩
  have hS5 : w5.heap.size = w4.heap.size := f5.size
  have os0_5 := os0_4.dr f5
  have owr0_5 := owr0_4.dr f5
  have ox0_5 := ox0_4.dr f5
  have ogr0_5 := ogr0.dr f5
  have B5 := f5.below B4
  clear os0_4 owr0_4 ox0_4 ogr0 B4 f5
  go_wp2_with fail
  refine (hti0 _ (hr0.below B5 (Nat.le_refl _))).mono ?_
  rintro e w6 ⟨vy0, rfl, oy0, f6⟩
  have hS6 : w5.heap.size ≤ w6.heap.size := f6.size
  have os0_6 := os0_5.belowAll f6
  have owr0_6 := owr0_5.belowAll f6
  have ox0_6 := ox0_5.belowAll f6
  have ogr0_6 := ogr0_5.belowAll f6
  have B6 := B5.trans (f6.mono B5.size)
  clear os0_5 owr0_5 ox0_5 ogr0_5 B5 f6
  have lo_oy0 := oy0.lt
  go_wp2_with fail
  refine (eqIntS_any vx0 vy0 X0 X0 _ ox0_6.rd oy0.rd).mono ?_
  rintro e w7 ⟨rfl, f7⟩
  have hS7 : w7.heap.size = w6.heap.size := f7.size
  have os0_7 := os0_6.dr f7
  have owr0_7 := owr0_6.dr f7
  have ox0_7 := ox0_6.dr f7
  have ogr0_7 := ogr0_6.dr f7
  have oy0_7 := oy0.dr f7
  have B7 := f7.below B6
  clear os0_6 owr0_6 ox0_6 ogr0_6 oy0 B6 f7
  go_wp2_with fail
  refine (markIntS_any vx0 X0 1 _ _ ox0_7 (by omega) (by omega)).mono ?_
  rintro e w8 ⟨rfl, ox0_8, f8⟩
  have hS8 : w7.heap.size ≤ w8.heap.size := f8.size
  have os0_8 := os0_7.grown f8 (fun k hk e => by have := lo_os0 k hk; have := lo_ox0 k e; omega)
  have owr0_8 := owr0_7.grown f8 (fun k hk e => by have := lo_owr0 k hk; have := lo_ox0 k e; omega)
  have ogr0_8 := ogr0_7.grown f8 (fun k hk e => by have := lo_ogr0 k hk; have := lo_ox0 k e; omega)
  have oy0_8 := oy0_7.grown f8 (fun k hk e => by have := lo_oy0 k hk; have := lo_ox0 k e; omega)
  have B8 := B7.grown f8 B7.size (fun k hk => by have := lo_ox0 k hk; omega)
  clear os0_7 owr0_7 ogr0_7 oy0_7 ox0_7 B7 f8
  go_wp2_with fail
  refine (eqIntS_any vgr0 vwr0 R0 R0 _ ogr0_8.rd owr0_8.rd).mono ?_
  rintro e w9 ⟨rfl, f9⟩
  have hS9 : w9.heap.size = w8.heap.size := f9.size
  have os0_9 := os0_8.dr f9
  have owr0_9 := owr0_8.dr f9
  have ox0_9 := ox0_8.dr f9
  have ogr0_9 := ogr0_8.dr f9
  have oy0_9 := oy0_8.dr f9
  have B9 := f9.below B8
  clear os0_8 owr0_8 ox0_8 ogr0_8 oy0_8 B8 f9
  go_wp2_with fail
  refine (markIntS_any vgr0 R0 1 _ _ ogr0_9 (by omega) (by omega)).mono ?_
  rintro e w10 ⟨rfl, ogr0_10, f10⟩
  have hS10 : w9.heap.size ≤ w10.heap.size := f10.size
  have os0_10 := os0_9.grown f10 (fun k hk e => by have := lo_os0 k hk; have := lo_ogr0 k e; omega)
  have owr0_10 := owr0_9.grown f10 (fun k hk e => by have := lo_owr0 k hk; have := lo_ogr0 k e; omega)
  have ox0_10 := ox0_9.grown f10 (fun k hk e => by have := lo_ox0 k hk; have := lo_ogr0 k e; omega)
  have oy0_10 := oy0_9.grown f10 (fun k hk e => by have := lo_oy0 k hk; have := lo_ogr0 k e; omega)
  have B10 := B9.grown f10 B9.size (fun k hk => by have := lo_ogr0 k hk; omega)
  clear os0_9 owr0_9 ox0_9 oy0_9 ogr0_9 B9 f10
  go_wp2_with fail
  refine (heldIntS_yes vgr0 1 R0.length _ ogr0_10.rd (by omega) (by omega)).mono ?_
  rintro e w11 ⟨rfl, f11⟩
  have hS11 : w11.heap.size = w10.heap.size := f11.size
  have os0_11 := os0_10.dr f11
  have owr0_11 := owr0_10.dr f11
  have ox0_11 := ox0_10.dr f11
  have ogr0_11 := ogr0_10.dr f11
  have oy0_11 := oy0_10.dr f11
  have B11 := f11.below B10
  clear os0_10 owr0_10 ox0_10 ogr0_10 oy0_10 B10 f11
  go_wp2_with fail
  refine (hti0 _ (hr0.below B11 (Nat.le_refl _))).mono ?_
  rintro e w12 ⟨vh0, rfl, oh0, f12⟩
  have hS12 : w11.heap.size ≤ w12.heap.size := f12.size
  have os0_12 := os0_11.belowAll f12
  have owr0_12 := owr0_11.belowAll f12
  have ox0_12 := ox0_11.belowAll f12
  have ogr0_12 := ogr0_11.belowAll f12
  have oy0_12 := oy0_11.belowAll f12
  have B12 := B11.trans (f12.mono B11.size)
  clear os0_11 owr0_11 ox0_11 ogr0_11 oy0_11 B11 f12
  have lo_oh0 := oh0.lt
  go_wp2_with fail
  refine (himpl vh0 _ oh0.rd).mono ?_
  rintro e w13 ⟨vhr0, rfl, ohr0, f13⟩
  have hS13 : w12.heap.size ≤ w13.heap.size := f13.size
  have os0_13 := os0_12.belowAll f13
  have owr0_13 := owr0_12.belowAll f13
  have ox0_13 := ox0_12.belowAll f13
  have ogr0_13 := ogr0_12.belowAll f13
  have oy0_13 := oy0_12.belowAll f13
  have oh0_13 := oh0.belowAll f13
  have B13 := B12.trans (f13.mono B12.size)
  clear os0_12 owr0_12 ox0_12 ogr0_12 oy0_12 oh0 B12 f13
  have lo_ohr0 := ohr0.lt
  go_wp2_with fail
  refine (eqIntS_any vhr0 vwr0 R0 R0 _ ohr0.rd owr0_13.rd).mono ?_
  rintro e w14 ⟨rfl, f14⟩
  have hS14 : w14.heap.size = w13.heap.size := f14.size
  have os0_14 := os0_13.dr f14
  have owr0_14 := owr0_13.dr f14
  have ox0_14 := ox0_13.dr f14
  have ogr0_14 := ogr0_13.dr f14
  have oy0_14 := oy0_13.dr f14
  have oh0_14 := oh0_13.dr f14
  have ohr0_14 := ohr0.dr f14
  have B14 := f14.below B13
  clear os0_13 owr0_13 ox0_13 ogr0_13 oy0_13 oh0_13 ohr0 B13 f14
  go_wp2_with fail
  refine (heldIntS_yes vgr0 1 R0.length _ ogr0_14.rd (by omega) (by omega)).mono ?_
  rintro e w15 ⟨rfl, f15⟩
  have hS15 : w15.heap.size = w14.heap.size := f15.size
  have os0_15 := os0_14.dr f15
  have owr0_15 := owr0_14.dr f15
  have ox0_15 := ox0_14.dr f15
  have ogr0_15 := ogr0_14.dr f15
  have oy0_15 := oy0_14.dr f15
  have oh0_15 := oh0_14.dr f15
  have ohr0_15 := ohr0_14.dr f15
  have B15 := f15.below B14
  clear os0_14 owr0_14 ox0_14 ogr0_14 oy0_14 oh0_14 ohr0_14 B14 f15
  go_wp2
  go_ret
  exact ⟨rfl, B15⟩
end Go.Proofs.Ytphppdcdlhmmiaa
