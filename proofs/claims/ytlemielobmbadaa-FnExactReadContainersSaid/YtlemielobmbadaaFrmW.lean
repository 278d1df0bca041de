/- Walks: frames: are they valid, their bytes. -/
import Derived.Test.YtlemielobmbadaaFrmP
namespace Go.Proofs.Ytlemielobmbadaa
open Go.RowKit
set_option maxRecDepth 100000

set_option maxHeartbeats 800000 in
theorem l23Bytes_any (v : Value) (xs : List Int) (w : World) (h : Rd w v xs) :
    Calls Try.prog 84 #[v] w fun e w' => e = .returned (.bool (bytL xs)) ∧ w = w' := by
  obtain ⟨a, cap, n, HX, rfl, _, hla, ha⟩ := h.opn
  have HN := Lib.hid (fun k => bytL_take_false (xs := xs) (k := k))
  go_enter Try.func84, Try.ntmps84
  go_wp2
  go_loop [3] (fun i => ∃ k : Nat, k ≤ n ∧ i = .int .i64 k ∧ Hid (bytL (xs.take k) = true)) (fun i => n - (intOf i).toNat)
  case atStart => exact ⟨0, by omega, rfl, rfl⟩
  case round =>
    obtain ⟨k, hk, rfl, HT⟩ := hrel
    by_cases hlt : k < n
    · obtain ⟨b, off, rfl, _, hc⟩ := ha (by omega)
      have hcell := hc k hlt
      clear hc
      cases he : inB (xs[k]?.getD 0) 0 255
      · go_wp2_with (go_at_call 71; refine (l1In_any _ _ _ _).mono ?_; rintro e w' ⟨rfl, rfl⟩)
        go_ret
        exact ⟨by rw [HN.out k (by rw [HX.out]; exact hlt) he]; rfl, rfl⟩
      · go_wp2_with (go_at_call 71; refine (l1In_any _ _ _ _).mono ?_; rintro e w' ⟨rfl, rfl⟩)
        go_round
        case rel => exact ⟨k + 1, by omega, by go_num, by rw [take_succ' _ _ (by rw [HX.out]; exact hlt), bytL_snoc, HT.out, he]; rfl⟩
        case measure => simp [intOf]; omega
    · obtain rfl : k = n := by omega
      have hh := HT.out
      rw [← HX.out, List.take_length] at hh
      have HH := Lib.hid hh
      clear hh
      go_wp2
      go_ret
      exact ⟨by rw [HH.out]; rfl, rfl⟩

theorem notByte_any (x : Int) (w : World) : Calls Try.prog 120 #[.int .i64 x] w fun e w' => e = .returned (.bool (!inB x 0 255)) ∧ w = w' := by
  go_enter Try.func120, Try.ntmps120
  go_wp2_with (go_at_call 68; refine (within_any _ _ _ _).mono ?_; rintro e w' ⟨rfl, rfl⟩)
  go_ret
  exact ⟨rfl, rfl⟩
theorem areBytes_any (v : Value) (xs : List Int) (w : World) (h : Rd w v xs) :
    Calls Try.prog 87 #[v] w fun e w' => e = .returned (.bool (bytL xs)) ∧ w = w' := by
  have HS := Lib.hid (show (!(xs.any fun x => !inB x 0 255)) = bytL xs from by simp [bytL, List.all_eq_not_any_not])
  go_enter Try.func87, Try.ntmps87
  go_wp2_with fail
  refine (containsFunc_any _ xs _ (fun x => !inB x 0 255) _ h (isFn_of Try.func120 (by kernel_rfl) (by kernel_rfl)) notByte_any).mono ?_
  rintro e w' ⟨rfl, rfl⟩
  go_wp2
  go_ret
  exact ⟨by rw [← HS.out]; rfl, rfl⟩

def FrmOkP (w : World) (f : Frm) (e : Ending) (w' : World) : Prop := e = .returned (.bool (frmOk f)) ∧ Below w.heap.size w w'
set_option maxHeartbeats 1600000 in
theorem l23Good_any (v : Value) (f : Frm) (w : World) (h : RdF w v f) :
    Calls Try.prog 95 #[v] w (FrmOkP w f) := by
  obtain ⟨u, rfl, hu⟩ := h
  have hal := (Below.refl w.heap.size w).alloc (Nat.le_refl _) (.cells #[.int .i64 f.c, .int .i64 f.p, u] 50)
  have HY := Lib.hid (l23Bytes_any u f.l _ (hu.belowAll hal))
  have HB := Lib.hid hal
  have HF := Lib.hid (fun b1 b2 b3 b4 h1 h2 h3 h4 => frmOk_of (f := f) (b1 := b1) (b2 := b2) (b3 := b3) (b4 := b4) h1 h2 h3 h4)
  obtain ⟨a, cap, n, HX, rfl, _, hla, -⟩ := hu.opn
  clear hal hu
  rw [HX.out] at HF
  generalize bytL f.l = b4 at *
  cases h1 : inB f.c 0 255
  · have HE := Lib.hid (HF.out _ _ _ _ h1 rfl rfl rfl)
    go_enter Try.func95, Try.ntmps95
    go_wp2_with (first | (go_at_call 84; refine (HY.out).mono ?_; rintro e w' ⟨rfl, rfl⟩) | (go_at_call 71; refine (l1In_any _ _ _ _).mono ?_; rintro e w' ⟨rfl, rfl⟩))
    go_ret
    exact ⟨by rw [HE.out]; rfl, HB.out⟩
  cases h2 : inB f.p 0 11
  · have HE := Lib.hid (HF.out _ _ _ _ h1 h2 rfl rfl)
    go_enter Try.func95, Try.ntmps95
    go_wp2_with (first | (go_at_call 84; refine (HY.out).mono ?_; rintro e w' ⟨rfl, rfl⟩) | (go_at_call 71; refine (l1In_any _ _ _ _).mono ?_; rintro e w' ⟨rfl, rfl⟩))
    go_ret
    exact ⟨by rw [HE.out]; rfl, HB.out⟩
  by_cases hn : n = 12
  · subst hn
    have HE := Lib.hid (HF.out _ _ _ _ h1 h2 rfl rfl)
    go_enter Try.func95, Try.ntmps95
    go_wp2_with (first | (go_at_call 84; refine (HY.out).mono ?_; rintro e w' ⟨rfl, rfl⟩) | (go_at_call 71; refine (l1In_any _ _ _ _).mono ?_; rintro e w' ⟨rfl, rfl⟩))
    go_ret
    exact ⟨by rw [HE.out]; rfl, HB.out⟩
  · have hne : ((n : Int) == 12) = false := by simp; omega
    have hne2 : ¬ (n : Int) = 12 := by omega
    have hd : decide (n = 12) = false := by simp [hn]
    have HE := Lib.hid (HF.out _ _ _ _ h1 h2 hd rfl)
    clear hd hn
    go_enter Try.func95, Try.ntmps95
    go_wp2_with (first | (go_at_call 84; refine (HY.out).mono ?_; rintro e w' ⟨rfl, rfl⟩) | (go_at_call 71; refine (l1In_any _ _ _ _).mono ?_; rintro e w' ⟨rfl, rfl⟩))
    go_ret
    exact ⟨by rw [HE.out]; rfl, HB.out⟩
set_option maxHeartbeats 1600000 in
theorem implValid_any (v : Value) (f : Frm) (w : World) (h : RdF w v f) :
    Calls Try.prog 40 #[v] w (FrmOkP w f) := by
  obtain ⟨u, rfl, hu⟩ := h
  have hal := (Below.refl w.heap.size w).alloc (Nat.le_refl _) (.cells #[.int .i64 f.c, .int .i64 f.p, u] 50)
  have HY := Lib.hid (areBytes_any u f.l _ (hu.belowAll hal))
  have HB := Lib.hid hal
  have HF := Lib.hid (fun b1 b2 b3 b4 h1 h2 h3 h4 => frmOk_of (f := f) (b1 := b1) (b2 := b2) (b3 := b3) (b4 := b4) h1 h2 h3 h4)
  obtain ⟨a, cap, n, HX, rfl, _, hla, -⟩ := hu.opn
  clear hal hu
  rw [HX.out] at HF
  generalize bytL f.l = b4 at *
  cases h1 : inB f.c 0 255
  · have HE := Lib.hid (HF.out _ _ _ _ h1 rfl rfl rfl)
    go_enter Try.func40, Try.ntmps40
    go_wp2_with (first | (go_at_call 87; refine (HY.out).mono ?_; rintro e w' ⟨rfl, rfl⟩) | (go_at_call 68; refine (within_any _ _ _ _).mono ?_; rintro e w' ⟨rfl, rfl⟩))
    go_ret
    exact ⟨by rw [HE.out]; rfl, HB.out⟩
  cases h2 : inB f.p 0 11
  · have HE := Lib.hid (HF.out _ _ _ _ h1 h2 rfl rfl)
    go_enter Try.func40, Try.ntmps40
    go_wp2_with (first | (go_at_call 87; refine (HY.out).mono ?_; rintro e w' ⟨rfl, rfl⟩) | (go_at_call 68; refine (within_any _ _ _ _).mono ?_; rintro e w' ⟨rfl, rfl⟩))
    go_ret
    exact ⟨by rw [HE.out]; rfl, HB.out⟩
  by_cases hn : n = 12
  · subst hn
    have HE := Lib.hid (HF.out _ _ _ _ h1 h2 rfl rfl)
    go_enter Try.func40, Try.ntmps40
    go_wp2_with (first | (go_at_call 87; refine (HY.out).mono ?_; rintro e w' ⟨rfl, rfl⟩) | (go_at_call 68; refine (within_any _ _ _ _).mono ?_; rintro e w' ⟨rfl, rfl⟩))
    go_ret
    exact ⟨by rw [HE.out]; rfl, HB.out⟩
  · have hne : ((n : Int) == 12) = false := by simp; omega
    have hne2 : ¬ (n : Int) = 12 := by omega
    have hd : decide (n = 12) = false := by simp [hn]
    have HE := Lib.hid (HF.out _ _ _ _ h1 h2 hd rfl)
    clear hd hn
    go_enter Try.func40, Try.ntmps40
    go_wp2_with (first | (go_at_call 87; refine (HY.out).mono ?_; rintro e w' ⟨rfl, rfl⟩) | (go_at_call 68; refine (within_any _ _ _ _).mono ?_; rintro e w' ⟨rfl, rfl⟩))
    go_ret
    exact ⟨by rw [HE.out]; rfl, HB.out⟩
theorem specValid_any (v : Value) (f : Frm) (w : World) (h : RdF w v f) :
    Calls Try.prog 39 #[v] w (FrmOkP w f) := by
  obtain ⟨u, rfl, hu⟩ := h
  have hal := (Below.refl w.heap.size w).alloc (Nat.le_refl _) (.cells #[.int .i64 f.c, .int .i64 f.p, u] 50)
  have HR := Lib.hid (show RdF (w.alloc (.cells #[.int .i64 f.c, .int .i64 f.p, u] 50)) (.agg #[.int .i64 f.c, .int .i64 f.p, u]) f from ⟨u, rfl, hu.belowAll hal⟩)
  have HB := Lib.hid hal
  clear hal hu
  go_enter Try.func39, Try.ntmps39
  go_wp2_with fail
  refine (l23Good_any _ f _ HR.out).mono ?_
  rintro e w1 ⟨rfl, b1⟩
  have HB1 := Lib.hid (HB.out.trans (b1.mono HB.out.size))
  clear b1
  go_wp2
  go_ret
  exact ⟨rfl, HB1.out⟩
set_option maxHeartbeats 800000 in
theorem l23Parity_any (v : Value) (xs : List Int) (w : World) (h : Rd w v xs) :
    Calls Try.prog 122 #[v] w fun e w' => e = .returned (.int .i64 (parL xs)) ∧ w = w' := by
  obtain ⟨a, cap, n, HX, rfl, _, hla, ha⟩ := h.opn
  go_enter Try.func122, Try.ntmps122
  go_wp2
  go_loop [3, 4] (fun s i => ∃ k : Nat, k ≤ n ∧ i = .int .i64 k ∧ Hid (s = .int .i64 (parL (xs.take k)))) (fun _ i => n - (intOf i).toNat)
  case atStart => exact ⟨0, by omega, rfl, rfl⟩
  case round =>
    obtain ⟨k, hk, rfl, HT⟩ := hrel
    obtain rfl := HT.out
    by_cases hlt : k < n
    · obtain ⟨b, off, rfl, _, hc⟩ := ha (by omega)
      have hcell := hc k hlt
      clear hc
      go_wp2
      go_round
      case rel => exact ⟨k + 1, by omega, by go_num, by rw [parL_step (by rw [HX.out]; exact hlt)]; rfl⟩
      case measure => simp [intOf]; omega
    · obtain rfl : k = n := by omega
      go_wp2
      go_ret
      exact ⟨by rw [← HX.out, List.take_length]; rfl, rfl⟩
end Go.Proofs.Ytlemielobmbadaa
