/- Joined: XSynW XLeavL XSynL. -/
import Derived.Test.YtlemielobmbadaaBa05
import Derived.Test.YtlemielobmbadaaLeavD
namespace Go.Proofs.Ytlemielobmbadaa
open Go.RowKit

set_option maxHeartbeats 400000 in
set_option maxRecDepth 100000 in
theorem power_any (n : Int) (w : World) (hn : 0 ≤ n) :
    Calls Try.prog 117 #[.int .i64 n] w fun e w' => e = .returned (.int .i64 (powI n)) ∧ w = w' := by
  obtain ⟨n, rfl⟩ := Int.eq_ofNat_of_zero_le hn
  have hq2 : n % 15 < 15 := Nat.mod_lt _ (by omega)
  have HP := Lib.hid (show powI n = (pwTo (n % 15) : Nat) from by unfold powI; rw [Int.toNat_natCast])
  generalize powI n = r at *
  go_enter Try.func117, Try.ntmps117
  go_wp2
  go_loop [3, 6] (fun o i => ∃ (k : Nat), k ≤ n % 15 ∧ i = .int .i64 k ∧ o = .int .i64 (pwTo k : Nat)) (fun _ i => 15 - (intOf i).toNat)
  case atStart => exact ⟨0, by omega, rfl, rfl⟩
  case round =>
    obtain ⟨k, hk, rfl, rfl⟩ := hrel
    by_cases hlt : k < n % 15
    · have hb := pwTo_lt0 k (by omega)
      have HS := Lib.hid (pw_step k (by omega))
      go_wp2_with (go_at_call 116; refine (product_any _ _ _ (by omega) (by omega) (by omega) (by omega)).mono ?_; rintro e w' ⟨rfl, rfl⟩)
      go_round
      case rel => exact ⟨k + 1, by omega, by go_num, by rw [HS.out]⟩
      case measure => simp [intOf]; omega
    · have e : n % 15 = k := by omega
      rw [e] at HP
      have HE := Lib.hid e
      clear e
      go_wp2
      go_ret
      exact ⟨by rw [HP.out]; rfl, rfl⟩

set_option maxHeartbeats 400000 in
set_option maxRecDepth 100000 in
theorem spower_any (n : Int) (w : World) (hn : 0 ≤ n) :
    Calls Try.prog 114 #[.int .i64 n] w fun e w' => e = .returned (.int .i64 (powI n)) ∧ w = w' := by
  obtain ⟨n, rfl⟩ := Int.eq_ofNat_of_zero_le hn
  have hq2 : n % 15 < 15 := Nat.mod_lt _ (by omega)
  have HP := Lib.hid (show powI n = (pwTo (n % 15) : Nat) from by unfold powI; rw [Int.toNat_natCast])
  generalize powI n = r at *
  go_enter Try.func114, Try.ntmps114
  go_wp2
  go_loop [3, 4] (fun o i => ∃ (k : Nat), k ≤ n % 15 ∧ i = .int .i64 k ∧ o = .int .i64 (pwTo k : Nat)) (fun _ i => 15 - (intOf i).toNat)
  case atStart => exact ⟨0, by omega, rfl, rfl⟩
  case round =>
    obtain ⟨k, hk, rfl, rfl⟩ := hrel
    by_cases hlt : k < n % 15
    · have hb := pwTo_lt0 k (by omega)
      have HS := Lib.hid (pw_step k (by omega))
      go_wp2_with (go_at_call 127; refine (times_any _ _ _ (by omega) (by omega) (by omega) (by omega)).mono ?_; rintro e w' ⟨rfl, rfl⟩)
      go_round
      case rel => exact ⟨k + 1, by omega, by go_num, by rw [HS.out]⟩
      case measure => simp [intOf]; omega
    · have e : n % 15 = k := by omega
      rw [e] at HP
      have HE := Lib.hid e
      clear e
      go_wp2
      go_ret
      exact ⟨by rw [HP.out]; rfl, rfl⟩

theorem zmk4 : ∀ w, (Instr.makeSlice 24 (.int .i64 4) (.int .i64 4)).run Try.prog w = .ok (.slice (some ⟨w.heap.size, 0, none⟩) 4 4) (w.alloc (.cells (zer 4) 3)) := fun w => by
  have := run_mk Try.underlying24 Try.infoInt 4 (by omega) w
  simpa using this

set_option maxHeartbeats 1600000 in
set_option maxRecDepth 100000 in
theorem sSyn_any (v : Value) (xs : List Int) (w : World) (h : Rd w v xs) (hs : symL xs = true) (hl : xs.length ≤ 1000) :
    Calls Try.prog 113 #[v] w fun e w' => ∃ v', e = .returned v' ∧ Own w' w.heap.size v' (syn xs) ∧ Below w.heap.size w w' := by
  obtain ⟨a, cap, n, HX, rfl, _, _, ha⟩ := h.opn
  rw [HX.out] at hl
  have HS := Lib.hid (fun i => symAt xs hs i)
  have HB := Lib.hid (fun j i => synTo_bd hs j i)
  have hmk := zmk4
  clear hs
  go_enter Try.func113, Try.ntmps113
  go_wp2
  have h0 : Own (w.alloc (.cells (zer 4) 3)) w.heap.size (.slice (some ⟨w.heap.size, 0, none⟩) 4 4) (synAt xs 0 0) := by
    rw [synAt_zero]; exact own_zer (by omega)
  have hb0 : Below w.heap.size w (w.alloc (.cells (zer 4) 3)) := (Below.refl _ _).alloc (Nat.le_refl _) _
  go_loopw [4] (fun i wr => ∃ j : Nat, j ≤ 4 ∧ i = .int .i64 j ∧ Own wr w.heap.size (.slice (some ⟨w.heap.size, 0, none⟩) 4 4) (synAt xs j 0) ∧ Below w.heap.size w wr) (fun i _ => 4 - (intOf i).toNat)
  case atStart => exact ⟨0, by omega, rfl, h0, hb0⟩
  case round =>
    obtain ⟨j, hj, rfl, hown, hbel⟩ := hrel
    by_cases hlt : j < 4
    · have hd : decide ((j : Int) < 4) = true := by simp; omega
      go_wp2
      go_loopw [5] (fun i wr => ∃ k : Nat, k ≤ n ∧ i = .int .i64 k ∧ Own wr w.heap.size (.slice (some ⟨w.heap.size, 0, none⟩) 4 4) (synAt xs j k) ∧ Below w.heap.size w wr) (fun i _ => n - (intOf i).toNat)
      case atStart => exact ⟨0, by omega, rfl, hown, hbel⟩
      case round =>
        obtain ⟨k, hk, rfl, hown, hbel⟩ := hrel
        by_cases hlt2 : k < n
        · obtain ⟨b, off, rfl, hbs, hc⟩ := ha (by omega)
          have hcell0 := hc _ hlt2
          rw [← hbel.cell (p := ⟨b, off + k, none⟩) hbs] at hcell0
          have hji : (j : Int) < 4 := by omega
          have hx := HS.out k
          have hy := HB.out j k
          have hcell := (hown.cellAt rfl).2 j (by rw [synAt_len]; exact hlt)
          rw [synAt_get _ _ _ hlt, Nat.zero_add] at hcell
          have hfr := hown.frozenAt rfl j
          have hst := hown.stored rfl j (by rw [synAt_len]; exact hlt) (xr (synTo xs j k) (mulI (xs[k]?.getD 0) (powI (((j : Int) + 1) * k))))
          rw [synAt_step _ _ _ hlt, Nat.zero_add] at hst
          have HT := Lib.hid hst
          have HW := Lib.hid hbel
          have hp := powI_bd (((j : Int) + 1) * k)
          have m1 : ((j : Int) + 1) * k ≤ 4 * 1000 := Int.mul_le_mul (by omega) (by omega) (by omega) (by omega)
          have m2 : 0 ≤ ((j : Int) + 1) * k := Int.mul_nonneg (by omega) (by omega)
          have f1 : IntKind.i64.wrap ((j : Int) + 1) = (j : Int) + 1 := IntWalk.i64_in _ (by omega)
          have f2 : IntKind.i64.wrap (((j : Int) + 1) * k) = ((j : Int) + 1) * k := IntWalk.i64_in _ (by omega)
          clear hst hown hbel hc
          go_wp2
          go_still_tail 18, (by kernel_rfl)
          still_call ((spower_any _ _ m2).mono fun _ _ h => ⟨h.1, h.2.symm⟩)
          repeat still_step
          still_call ((times_any _ _ _ hx.1 hx.2 hp.1 hp.2).mono fun _ _ h => ⟨h.1, h.2.symm⟩)
          repeat still_step
          refine wpStill_nil ?_
          go_wp2
          go_roundw
          case rel => exact ⟨k + 1, by omega, by go_num, HT.out.1.drew, (HW.out.grown HT.out.2 (by have := HW.out.size; omega) (by simp)).drew⟩
          case measure => simp [intOf]; omega
        · obtain rfl : k = n := by omega
          rw [← HX.out, synAt_next _ _ hlt] at hown
          have HXk := HX
          clear HX
          go_wp2
          go_roundw
          case rel => exact ⟨j + 1, by omega, by go_num, hown, hbel⟩
          case measure => simp [intOf]; omega
    · obtain rfl : j = 4 := by omega
      rw [synAt_all] at hown
      go_wp2
      go_ret
      exact ⟨_, rfl, hown, hbel⟩

set_option maxHeartbeats 1600000 in
set_option maxRecDepth 100000 in
theorem iSyn_any (v : Value) (xs : List Int) (w : World) (h : Rd w v xs) (hs : symL xs = true) (hl : xs.length ≤ 1000) :
    Calls Try.prog 76 #[v] w fun e w' => e = .returned (.agg #[.int .i64 (synTo xs 0 xs.length), .int .i64 (synTo xs 1 xs.length), .int .i64 (synTo xs 2 xs.length), .int .i64 (synTo xs 3 xs.length)]) ∧ Below w.heap.size w w' := by
  obtain ⟨a, cap, n, HX, rfl, _, _, ha⟩ := h.opn
  rw [HX.out] at hl
  have HS := Lib.hid (fun i => symAt xs hs i)
  have HB := Lib.hid (fun j i => synTo_bd hs j i)
  clear hs
  go_enter Try.func76, Try.ntmps76
  go_wp2
  have hw0 : ((w.alloc (.cells #[.int .i64 0, .int .i64 0, .int .i64 0, .int .i64 0] 89)).alloc (.cells #[.int .i64 0, .int .i64 0, .int .i64 0, .int .i64 0] 89)).heap[w.heap.size + 1]? = some (.cells #[.int .i64 0, .int .i64 0, .int .i64 0, .int .i64 0] 89 (0, 0)) := heap_alloc2_new w _ _
  have hw1 : ((w.alloc (.cells #[.int .i64 0, .int .i64 0, .int .i64 0, .int .i64 0] 89)).alloc (.cells #[.int .i64 0, .int .i64 0, .int .i64 0, .int .i64 0] 89)).heap[w.heap.size]? = some (.cells #[.int .i64 0, .int .i64 0, .int .i64 0, .int .i64 0] 89 (0, 0)) := heap_alloc2_old w _ _
  have hb0 : Below w.heap.size w ((w.alloc (.cells #[.int .i64 0, .int .i64 0, .int .i64 0, .int .i64 0] 89)).alloc (.cells #[.int .i64 0, .int .i64 0, .int .i64 0, .int .i64 0] 89)) := ((Below.refl _ _).alloc (Nat.le_refl _) _).alloc (by simp) _
  generalize ((w.alloc (.cells #[.int .i64 0, .int .i64 0, .int .i64 0, .int .i64 0] 89)).alloc (.cells #[.int .i64 0, .int .i64 0, .int .i64 0, .int .i64 0] 89)) = w1 at *
  have h0 : Own w1 w.heap.size (.slice (some ⟨w.heap.size + 1, 0, none⟩) 4 4) (synAt xs 0 0) := by
    rw [synAt_zero]; exact .inr ⟨_, 0, 4, _, by simp, by omega, ⟨_, hw0⟩, by simp, by unfold maxLen; omega, by simp, by simp [List.replicate]⟩
  go_loopw [8] (fun i wr => ∃ j : Nat, j ≤ 4 ∧ i = .int .i64 j ∧ Own wr w.heap.size (.slice (some ⟨w.heap.size + 1, 0, none⟩) 4 4) (synAt xs j 0) ∧ Hid (wr.heap[w.heap.size]? = some (.cells #[.int .i64 0, .int .i64 0, .int .i64 0, .int .i64 0] 89 (0, 0))) ∧ Below w.heap.size w wr) (fun i _ => 4 - (intOf i).toNat)
  case atStart => exact ⟨0, by omega, rfl, h0, hw1, hb0⟩
  case round =>
    obtain ⟨j, hj, rfl, hown, hA, hbel⟩ := hrel
    by_cases hlt : j < 4
    · have hd : decide ((j : Int) < 4) = true := by simp; omega
      go_wp2
      go_loopw [13] (fun i wr => ∃ k : Nat, k ≤ n ∧ i = .int .i64 k ∧ Own wr w.heap.size (.slice (some ⟨w.heap.size + 1, 0, none⟩) 4 4) (synAt xs j k) ∧ Hid (wr.heap[w.heap.size]? = some (.cells #[.int .i64 0, .int .i64 0, .int .i64 0, .int .i64 0] 89 (0, 0))) ∧ Below w.heap.size w wr) (fun i _ => n - (intOf i).toNat)
      case atStart => exact ⟨0, by omega, rfl, hown, hA, hbel⟩
      case round =>
        obtain ⟨k, hk, rfl, hown, hA, hbel⟩ := hrel
        by_cases hlt2 : k < n
        · obtain ⟨b, off, rfl, hbs, hc⟩ := ha (by omega)
          have hcell0 := hc _ hlt2
          rw [← hbel.cell (p := ⟨b, off + k, none⟩) hbs] at hcell0
          have hji : (j : Int) < 4 := by omega
          have hx := HS.out k
          have hy := HB.out j k
          have hcell := (hown.cellAt rfl).2 j (by rw [synAt_len]; exact hlt)
          rw [synAt_get _ _ _ hlt, Nat.zero_add] at hcell
          have hfr := hown.frozenAt rfl j
          have hst := hown.stored rfl j (by rw [synAt_len]; exact hlt) (xr (synTo xs j k) (mulI (xs[k]?.getD 0) (powI (((j : Int) + 1) * k))))
          rw [synAt_step _ _ _ hlt, Nat.zero_add] at hst
          have HT := Lib.hid hst
          have HW := Lib.hid hbel
          have hp := powI_bd (((j : Int) + 1) * k)
          have m1 : ((j : Int) + 1) * k ≤ 4 * 1000 := Int.mul_le_mul (by omega) (by omega) (by omega) (by omega)
          have m2 : 0 ≤ ((j : Int) + 1) * k := Int.mul_nonneg (by omega) (by omega)
          have f1 : IntKind.i64.wrap ((j : Int) + 1) = (j : Int) + 1 := IntWalk.i64_in _ (by omega)
          have f2 : IntKind.i64.wrap (((j : Int) + 1) * k) = ((j : Int) + 1) * k := IntWalk.i64_in _ (by omega)
          clear hst hown hbel hc
          go_wp2
          go_still_tail 12, (by kernel_rfl)
          still_call ((power_any _ _ m2).mono fun _ _ h => ⟨h.1, h.2.symm⟩)
          repeat still_step
          still_call ((product_any _ _ _ hx.1 hx.2 hp.1 hp.2).mono fun _ _ h => ⟨h.1, h.2.symm⟩)
          repeat still_step
          refine wpStill_nil ?_
          go_wp2
          go_roundw
          case rel => exact ⟨k + 1, by omega, by go_num, HT.out.1.drew, HT.out.2.block _ (by have := HW.out.size; have := (Array.getElem?_eq_some_iff.1 hA.out).1; omega) (by simp) |>.trans hA.out, (HW.out.grown HT.out.2 (by have := HW.out.size; omega) (by simp)).drew⟩
          case measure => simp [intOf]; omega
        · obtain rfl : k = n := by omega
          rw [← HX.out, synAt_next _ _ hlt] at hown
          have HXk := HX
          clear HX
          go_wp2
          go_roundw
          case rel => exact ⟨j + 1, by omega, by go_num, hown, hA, hbel⟩
          case measure => simp [intOf]; omega
    · obtain rfl : j = 4 := by omega
      rw [synAt_all] at hown
      have hc := (hown.cellAt rfl).2
      have c0 := hc 0 (by rw [syn_len]; omega)
      have c1 := hc 1 (by rw [syn_len]; omega)
      have c2 := hc 2 (by rw [syn_len]; omega)
      have c3 := hc 3 (by rw [syn_len]; omega)
      simp [syn] at c0 c1 c2 c3
      rw [HX.out] at c0 c1 c2 c3
      clear hc hown
      have a0 : wr.cell? ⟨w.heap.size, 0, none⟩ = some (.int .i64 0) := by rw [cell_of_row wr _ _ _ _ _ hA.out]; rfl
      have a1 : wr.cell? ⟨w.heap.size, 1, none⟩ = some (.int .i64 0) := by rw [cell_of_row wr _ _ _ _ _ hA.out]; rfl
      have a2 : wr.cell? ⟨w.heap.size, 2, none⟩ = some (.int .i64 0) := by rw [cell_of_row wr _ _ _ _ _ hA.out]; rfl
      have a3 : wr.cell? ⟨w.heap.size, 3, none⟩ = some (.int .i64 0) := by rw [cell_of_row wr _ _ _ _ _ hA.out]; rfl
      have fr : ∀ j, wr.frozen? ⟨w.heap.size, j, none⟩ = false := fun j => frozen_of_row wr _ j _ _ hA.out
      go_wp2
      refine bodyPost_ret (v := .agg #[.int .i64 (synTo xs 0 n), .int .i64 (synTo xs 1 n), .int .i64 (synTo xs 2 n), .int .i64 (synTo xs 3 n)]) ?_ rfl ⟨by rw [HX.out], ((((hbel.setCell (Nat.le_refl _) _).setCell (Nat.le_refl _) _).setCell (Nat.le_refl _) _).setCell (Nat.le_refl _) _)⟩
      simp [results, Try.results76, go_sem, a0, a1, a2, a3]
end Go.Proofs.Ytlemielobmbadaa
namespace Go.Proofs.Ytlemielobmbadaa
open Go.RowKit

theorem turn_len (xs : List Int) (r c : Nat) : (turn xs r c).length = r * c := by simp [turn]
theorem interL_len (xs : List Int) (rows : Int) : (interL xs rows).length ≤ xs.length := by
  unfold interL
  split
  · rename_i h
    have := (tblOk_parts h).2.2.2
    rw [turn_len]; omega
  · simp
theorem deintL_len (xs : List Int) (rows : Int) : (deintL xs rows).length ≤ xs.length := by
  unfold deintL
  split
  · rename_i h
    have := (tblOk_parts h).2.2.2
    rw [turn_len, Nat.mul_comm]; omega
  · simp

end Go.Proofs.Ytlemielobmbadaa
namespace Go.Proofs.Ytlemielobmbadaa
open Go.RowKit

theorem isCode_any (v : Value) (xs : List Int) (w : World) (h : Rd w v xs) :
    Calls Try.prog 75 #[v] w fun e w' => e = .returned (.bool (blkOk xs)) ∧ w = w' := by
  obtain ⟨a, cap, n, HX, rfl, _, hla, _⟩ := h.opn
  have HT := Lib.hid (show ∀ b1 b2 : Bool, decide (n = 15) = b1 → symL xs = b2 → blkOk xs = (b1 && b2) from fun b1 b2 h1 h2 => by rw [← h1, ← h2, ← HX.out]; rfl)
  generalize blkOk xs = r at *
  by_cases h1 : n = 15
  · subst h1
    cases h2 : symL xs
    all_goals
      have HE := Lib.hid (HT.out true _ (by simp) h2)
      go_enter Try.func75, Try.ntmps75
      go_wp2_with (go_at_call 69; refine (areSymbols_any _ xs _ h).mono ?_; rintro e w' ⟨rfl, rfl⟩)
      go_ret
      exact ⟨by rw [HE.out]; rfl, rfl⟩
  · have h3 : ((n : Int) == 15) = false := by rw [beq_eq_false_iff_ne]; omega
    have HE := Lib.hid (HT.out false _ (by simp [h1]) rfl)
    go_enter Try.func75, Try.ntmps75
    go_wp2
    go_ret
    exact ⟨by rw [HE.out]; rfl, rfl⟩

theorem l24Block_any (v : Value) (xs : List Int) (w : World) (h : Rd w v xs) :
    Calls Try.prog 81 #[v] w fun e w' => e = .returned (.bool (blkOk xs)) ∧ w = w' := by
  obtain ⟨a, cap, n, HX, rfl, _, hla, _⟩ := h.opn
  have HT := Lib.hid (show ∀ b1 b2 : Bool, decide (n = 15) = b1 → symL xs = b2 → blkOk xs = (b1 && b2) from fun b1 b2 h1 h2 => by rw [← h1, ← h2, ← HX.out]; rfl)
  generalize blkOk xs = r at *
  by_cases h1 : n = 15
  · subst h1
    cases h2 : symL xs
    all_goals
      have HE := Lib.hid (HT.out true _ (by simp) h2)
      go_enter Try.func81, Try.ntmps81
      go_wp2_with (go_at_call 72; refine (l24Symbols_any _ xs _ h).mono ?_; rintro e w' ⟨rfl, rfl⟩)
      go_ret
      exact ⟨by rw [HE.out]; rfl, rfl⟩
  · have h3 : ((n : Int) == 15) = false := by rw [beq_eq_false_iff_ne]; omega
    have HE := Lib.hid (HT.out false _ (by simp [h1]) rfl)
    go_enter Try.func81, Try.ntmps81
    go_wp2
    go_ret
    exact ⟨by rw [HE.out]; rfl, rfl⟩

theorem blkOk_parts {xs : List Int} (h : blkOk xs = true) : xs.length = 15 ∧ symL xs = true := by simpa [blkOk] using h

theorem implSyn_any (v : Value) (xs : List Int) (w : World) (h : Rd w v xs) :
    Calls Try.prog 23 #[v] w fun e w' => ∃ v', e = .returned (.tuple #[v', .bool (blkOk xs)]) ∧ Own w' w.heap.size v' (synR xs) ∧ Below w.heap.size w w' := by
  cases hb : blkOk xs
  · have hR : synR xs = [] := by simp [synR, hb]
    rw [hR]
    go_enter Try.func23, Try.ntmps23
    go_wp2_with (go_at_call 75; refine (isCode_any _ xs _ h).mono ?_; rintro e w' ⟨rfl, rfl⟩)
    go_ret2
    exact ⟨_, rfl, own_nil, Below.refl _ _⟩
  · have hR : synR xs = syn xs := by simp [synR, hb]
    rw [hR]
    have hp := blkOk_parts hb
    have HP := Lib.hid hp
    clear hp hR
    go_enter Try.func23, Try.ntmps23
    go_wp2_with (first | (go_at_call 75; refine (isCode_any _ xs _ h).mono ?_; rintro e w' ⟨rfl, rfl⟩) | (go_at_call 76; refine (iSyn_any _ xs _ h HP.out.2 (by rw [HP.out.1]; omega)).mono ?_; rintro e w1 ⟨rfl, hbel⟩))
    go_ret2
    have hsz := hbel.size
    exact ⟨_, rfl, .inr ⟨w1.heap.size, 0, 4, _, by simp [syn_len], hsz, ⟨_, heap_alloc_new w1 _⟩, by simp [syn_len], by unfold maxLen; omega, by simp, by simp [syn, List.range_succ]⟩, hbel.alloc hsz _⟩
end Go.Proofs.Ytlemielobmbadaa
