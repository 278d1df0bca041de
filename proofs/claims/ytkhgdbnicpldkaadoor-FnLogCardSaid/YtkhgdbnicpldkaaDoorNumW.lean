/- Walks: numerals, checksums, lines of a log. -/
import Derived.Test.YtkhgdbnicpldkaaDoorNumP
import Derived.Test.YtkhgdbnicpldkaaDoorRecA
import Derived.Test.YtkhgdbnicpldkaaDoorInt
import Derived.Lib.SmallJoins
import Derived.Lib.AppendIntMem
namespace Go.Proofs.YtkhgdbnicpldkaaDoor
open Go.RowKit

theorem Dr.size2 {w w' : World} (h : Dr w w') : w'.heap.size = w.heap.size := by obtain ⟨n, rfl⟩ := h; rfl

theorem i64w (n : Int) (h : -9223372036854775808 ≤ n) (h2 : n ≤ 9223372036854775807) : IntKind.i64.wrap n = n := IntWalk.i64_in _ (by omega)
set_option maxRecDepth 100000 in
theorem dig_run {r : Nat} (h : r < 10) (w : World) : (Instr.sliceAt 9 (.string ⟨#[48, 49, 50, 51, 52, 53, 54, 55, 56, 57]⟩) (some (.int .i64 (r : Int))) (some (.int .i64 ((r : Int) + 1))) none).run Tryd.prog w = .ok (.string (mk [UInt8.ofNat (48 + r)])) w := by
  have : r = 0 ∨ r = 1 ∨ r = 2 ∨ r = 3 ∨ r = 4 ∨ r = 5 ∨ r = 6 ∨ r = 7 ∨ r = 8 ∨ r = 9 := by omega
  rcases this with rfl | rfl | rfl | rfl | rfl | rfl | rfl | rfl | rfl | rfl <;> rfl
theorem dig_cut {n : Nat} (h : n < 10) : (⟨#[48, 49, 50, 51, 52, 53, 54, 55, 56, 57]⟩ : ByteArray).extract n (n + 1) = mk [UInt8.ofNat (48 + n)] := by
  have : n = 0 ∨ n = 1 ∨ n = 2 ∨ n = 3 ∨ n = 4 ∨ n = 5 ∨ n = 6 ∨ n = 7 ∨ n = 8 ∨ n = 9 := by omega
  rcases this with rfl | rfl | rfl | rfl | rfl | rfl | rfl | rfl | rfl | rfl <;> decide
set_option maxHeartbeats 1600000 in
set_option maxRecDepth 100000 in
theorem l1Num_any (n : Nat) : n ≤ 1000000000 → ∀ w : World, Calls Tryd.prog 64 #[.int .i64 n] w fun e w' => e = .returned (.string (mk (digs n))) ∧ ∃ m, w' = w.drewN m := by
  induction n using Nat.strongRecOn with
  | _ n ih =>
    intro hn w
    have h0 : ¬ (n : Int) < 0 := by omega
    by_cases h1 : n < 10
    · have h1I : (n : Int) < 10 := by omega
      have HD := Lib.hid (digs_small h1)
      go_enter Tryd.func64, Tryd.ntmps64
      go_wp2
      go_ret
      refine ⟨?_, 0, rfl⟩
      rw [HD.out, ← dig_cut h1]
      rfl
    · have h1I : ¬ (n : Int) < 10 := by omega
      have HD := Lib.hid (digs_big h1)
      have hq : (n : Int) / 10 = ((n / 10 : Nat) : Int) := by omega
      have hr : (n : Int) % 10 = ((n % 10 : Nat) : Int) := by omega
      have hqt : (n : Int).tdiv 10 = ((n / 10 : Nat) : Int) := by rw [Int.tdiv_eq_ediv_of_nonneg (by omega)]; exact hq
      have hrt : (n : Int).tmod 10 = ((n % 10 : Nat) : Int) := by rw [Int.tmod_eq_emod_of_nonneg (by omega)]; exact hr
      have hr10 : ((n % 10 : Nat) : Int) < 10 := by omega
      have hr10' : n % 10 < 10 := by omega
      have w1 : IntKind.i64.wrap ((n / 10 : Nat) : Int) = ((n / 10 : Nat) : Int) := i64w _ (by omega) (by omega)
      have w2 : IntKind.i64.wrap ((n % 10 : Nat) : Int) = ((n % 10 : Nat) : Int) := i64w _ (by omega) (by omega)
      have w3 : IntKind.i64.wrap (((n % 10 : Nat) : Int) + 1) = ((n % 10 : Nat) : Int) + 1 := i64w _ (by omega) (by omega)
      have HR := Lib.hid hr10'
      have hsl := dig_run hr10'
      generalize hgq : n / 10 = q at *
      generalize hgr : n % 10 = r at *
      have hc := Lib.hid (fun w => ih q (by omega) (by omega) w)
      have hlen : ¬ 9223372036854775807 < (digs q).length + 1 := by have := digs_len 9 q (by omega); omega
      clear ih hgq hgr
      go_enter Tryd.func64, Tryd.ntmps64
      go_wp2
      go_quiet ((go_at_call 64; exact Calls.quiet_of (hc.out _)))
      go_wp2
      go_ret
      refine ⟨?_, _, rfl⟩
      rw [HD.out]
      show Ending.returned (.string (mk (digs q) ++ mk [48 + UInt8.ofNat r])) = _
      rw [mk_append]
      congr 2
      simp

set_option maxHeartbeats 1600000 in
theorem l1Sum_any (s : ByteArray) (w : World) (hs : s.size ≤ maxLen) :
    Calls Tryd.prog 73 #[.string s] w fun e w' => e = .returned (.int .i64 (sumL s.data.toList)) ∧ w = w' := by
  unfold maxLen at hs
  have HA := Lib.hid (take_all s)
  go_enter Tryd.func73, Tryd.ntmps73
  go_wp2
  go_loop [3, 4] (fun h i => ∃ (k : Nat) (x : Int), k ≤ s.size ∧ i = .int .i64 k ∧ h = .int .i64 x ∧ (0 ≤ x ∧ x < 999979) ∧ Hid (sumL (s.data.toList.take k) = x)) (fun _ i => s.size - (intOf i).toNat)
  case atStart => exact ⟨0, 7, Nat.zero_le _, rfl, rfl, by omega, by simp [Hid, sumL]⟩
  case round =>
    obtain ⟨k, x, hk, rfl, rfl, ⟨hx0, hx1⟩, HX⟩ := hrel
    by_cases hlt : k < s.size
    · have hb : s[k].toNat < 256 := s[k].toNat_lt
      have hw : wrap64 (s[k].toNat : Int) = (s[k].toNat : Int) := IntWalk.wrap64_in _ (by omega)
      have HS := Lib.hid (show sumL (s.data.toList.take (k + 1)) = (41 * x + (s[k].toNat : Int) + 1) % 999979 from by rw [take_snoc s k hlt, sumL_snoc, HX.out]; rfl)
      go_wp2
      go_round
      case rel => exact ⟨k + 1, _, by omega, by go_num, rfl, by omega, HS.out⟩
      case measure => simp [intOf]; omega
    · obtain rfl : k = s.size := by omega
      have hh := HX.out
      rw [HA.out] at hh
      have HH := Lib.hid hh
      clear hh
      go_wp2
      go_ret
      exact ⟨by rw [HH.out]; rfl, rfl⟩

set_option maxHeartbeats 1600000 in
theorem checksum_any (s : ByteArray) (w : World) (hs : s.size ≤ maxLen) :
    Calls Tryd.prog 74 #[.string s] w fun e w' => e = .returned (.int .i64 (sumL s.data.toList)) ∧ w = w' := by
  unfold maxLen at hs
  have HA := Lib.hid (take_all s)
  go_enter Tryd.func74, Tryd.ntmps74
  go_wp2
  go_loop [3, 4] (fun h i => ∃ (k : Nat) (x : Int), k ≤ s.size ∧ i = .int .i64 k ∧ h = .int .i64 x ∧ (0 ≤ x ∧ x < 999979) ∧ Hid (sumL (s.data.toList.take k) = x)) (fun _ i => s.size - (intOf i).toNat)
  case atStart => exact ⟨0, 7, Nat.zero_le _, rfl, rfl, by omega, by simp [Hid, sumL]⟩
  case round =>
    obtain ⟨k, x, hk, rfl, rfl, ⟨hx0, hx1⟩, HX⟩ := hrel
    by_cases hlt : k < s.size
    · have hb : s[k].toNat < 256 := s[k].toNat_lt
      have hw : wrap64 (s[k].toNat : Int) = (s[k].toNat : Int) := IntWalk.wrap64_in _ (by omega)
      have HS := Lib.hid (show sumL (s.data.toList.take (k + 1)) = (41 * x + (s[k].toNat : Int) + 1) % 999979 from by rw [take_snoc s k hlt, sumL_snoc, HX.out]; rfl)
      go_wp2
      go_round
      case rel => exact ⟨k + 1, _, by omega, by go_num, rfl, by omega, HS.out⟩
      case measure => simp [intOf]; omega
    · obtain rfl : k = s.size := by omega
      have hh := HX.out
      rw [HA.out] at hh
      have HH := Lib.hid hh
      clear hh
      go_wp2
      go_ret
      exact ⟨by rw [HH.out]; rfl, rfl⟩

theorem seal_str (s : ByteArray) : s ++ mk [35] ++ mk (digs (sumL s.data.toList).toNat) = mk (sealL s.data.toList) := by
  rw [str_append, mk_append]; simp [sealL]
set_option maxHeartbeats 1600000 in
theorem l1Seal_any (s : ByteArray) (w : World) (hs : s.size ≤ 100000) :
    Calls Tryd.prog 63 #[.string s] w fun e w' => e = .returned (.string (mk (sealL s.data.toList))) ∧ ∃ m, w' = w.drewN m := by
  have hb := sumL_bd s.data.toList
  have hd := digs_len 5 (sumL s.data.toList).toNat (by omega)
  have HC := Lib.hid (fun w => l1Num_any (sumL s.data.toList).toNat (by omega) w)
  have HE := Lib.hid (seal_str s)
  have hx : (((sumL s.data.toList).toNat : Nat) : Int) = sumL s.data.toList := by omega
  rw [hx] at HC
  have HS := Lib.hid (fun w => l1Sum_any s w (by unfold maxLen; omega))
  generalize sumL s.data.toList = x at *
  clear hx
  generalize digs x.toNat = ds at *
  go_enter Tryd.func63, Tryd.ntmps63
  go_wp2_with (first | (go_at_call 73; refine (HS.out _).mono ?_; rintro e w' ⟨rfl, rfl⟩) | (go_at_call 64; refine (HC.out _).mono ?_; rintro e w' ⟨rfl, m, rfl⟩))
  go_ret
  exact ⟨by rw [← HE.out]; rfl, m, rfl⟩

theorem line_str (k : Nat) (c r : ByteArray) : mk (digs k) ++ mk [32] ++ c ++ mk [64] ++ r = mk (bodyL k c.data.toList r.data.toList) := by
  apply ba_ext
  rw [data_append, data_append, data_append, data_append, data_mk, data_mk, data_mk, data_mk]
  simp [bodyL]
theorem bodyL_len (k : Nat) (c r : List UInt8) : (bodyL k c r).length = (digs k).length + c.length + r.length + 2 := by simp [bodyL]; omega
set_option maxHeartbeats 1600000 in
set_option maxRecDepth 100000 in
theorem l27Line_any (k : Nat) (hk : k ≤ 99) (c r : ByteArray) (hc : c.size ≤ 1000) (hr : r.size ≤ 1000) (w : World) :
    Calls Tryd.prog 44 #[.int .i64 k, .agg #[.string c, .string r]] w fun e w' => e = .returned (.string (mk (lineL k c.data.toList r.data.toList))) ∧ Below w.heap.size w w' := by
  have hB := (Below.refl w.heap.size w).alloc (Nat.le_refl _) (.cells #[.string c, .string r] 27)
  have hd := digs_len 1 k (by omega)
  have HN := Lib.hid (fun w => l1Num_any k (by omega) w)
  have hbl := bodyL_len k c.data.toList r.data.toList
  rw [← size_data, ← size_data] at hbl
  have hsl := sealL_len (bodyL k c.data.toList r.data.toList)
  have HL : Hid (∀ w, Calls Tryd.prog 63 #[.string (mk (digs k) ++ ⟨#[32]⟩ ++ c ++ ⟨#[64]⟩ ++ r)] w fun e w' => e = .returned (.string (mk (sealL (bodyL k c.data.toList r.data.toList)))) ∧ ∃ m, w' = w.drewN m) := fun w => by
    have := l1Seal_any (mk (bodyL k c.data.toList r.data.toList)) w (by rw [mk_size]; omega)
    rw [show (mk (digs k) ++ ⟨#[32]⟩ ++ c ++ ⟨#[64]⟩ ++ r : ByteArray) = mk (bodyL k c.data.toList r.data.toList) from line_str k c r]
    rw [data_mk] at this
    exact this
  have HS := Lib.hid (show mk (sealL (bodyL k c.data.toList r.data.toList)) ++ mk [10] = mk (lineL k c.data.toList r.data.toList) from by rw [mk_append]; rfl)
  have z5 : ¬ 9223372036854775807 < (sealL (bodyL k c.data.toList r.data.toList)).length + 1 := by omega
  generalize sealL (bodyL k c.data.toList r.data.toList) = sl at *
  generalize lineL k c.data.toList r.data.toList = ll at *
  clear hbl hsl
  generalize digs k = ds at *
  have z1 : ¬ 9223372036854775807 < ds.length + 1 := by omega
  have z2 : ¬ 9223372036854775807 < ds.length + 1 + c.size := by omega
  have z3 : ¬ 9223372036854775807 < ds.length + 1 + c.size + 1 := by omega
  have z4 : ¬ 9223372036854775807 < ds.length + 1 + c.size + 1 + r.size := by omega
  go_enter Tryd.func44, Tryd.ntmps44
  go_wp2
  go_quiet (first | (go_at_call 64; exact Calls.quiet_of (HN.out _)) | (go_at_call 63; exact Calls.quiet_of (HL.out _)))
  go_wp2
  go_ret
  exact ⟨by rw [← HS.out]; rfl, hB.trans ⟨rfl, rfl, rfl, Nat.le_refl _, fun _ _ => rfl⟩⟩

/-- The table of powers of ten lies as the program lays it. -/
abbrev TabOk (w : World) : Prop := Go.Lib.TabIs Tryd.prog w "internal/strconv.uint64pow10" .u64 Go.Lib.pow10Tab
theorem tabNo : ∃ g, Tryd.prog.globalNamed "internal/strconv.uint64pow10" = some g := ⟨1, by kernel_rfl⟩
theorem TabOk.below {w w' : World} (h : TabOk w) (hb : Below w.heap.size w w') : TabOk w' := by
  obtain ⟨g, hg⟩ := tabNo
  exact Go.Joins.tab_stays hg h hb (Nat.le_refl _)
theorem itoa_any (n : Int) (h0 : 0 ≤ n) (h1 : n ≤ 1000000000) (w : World) (ht : TabOk w) :
    Calls Tryd.prog 66 #[.int .i64 n] w fun e w' => e = .returned (.string (mk (digs n.toNat))) ∧ Below w.heap.size w w' := by
  refine (Tryd.strconv_Itoa n (by omega) (by omega) w ht).mono ?_
  rintro e w' ⟨rfl, k, os, rfl⟩
  refine ⟨?_, Go.Lib.below_grow _ _ (Nat.le_refl _) k os⟩
  rw [show Go.Lib.itoa n = digs n.toNat from by unfold Go.Lib.itoa; rw [if_neg (by omega)]]

set_option maxHeartbeats 1600000 in
theorem appCheck_any (s : ByteArray) (w : World) (hs : s.size ≤ 3000) (hh : standsL s.data.toList 35 = false) (ht : TabOk w) :
    Calls Tryd.prog 65 #[.string s] w fun e w' => e = .returned (.tuple #[.string (mk (sealL s.data.toList)), .bool true]) ∧ Below w.heap.size w w' := by
  have hb := sumL_bd s.data.toList
  have hd := digs_len 5 (sumL s.data.toList).toNat (by omega)
  have HC := Lib.hid (itoa_any (sumL s.data.toList) hb.1 (by omega) w ht)
  have HE := Lib.hid (seal_str s)
  have HS := Lib.hid (fun w => checksum_any s w (by unfold maxLen; omega))
  have H5 := Lib.hid (stands_index s.data.toList 35)
  rw [hh] at H5
  generalize sumL s.data.toList = x at *
  generalize digs x.toNat = ds at *
  have z0 : ¬ (4000 : Int) < (s.size : Int) := by omega
  have z1 : ¬ (4000 : Int) < ((s.size + 1 + ds.length : Nat) : Int) := by omega
  have z2 : s.size + 1 + ds.length ≤ 4000 := by omega
  go_enter Tryd.func65, Tryd.ntmps65
  go_wp2_with (first | (go_at_call 57; refine (Tryd.strings_Contains_one _ 35 _).mono ?_; rintro e w' ⟨rfl, rfl⟩; rw [H5.out]) | (go_at_call 74; refine (HS.out _).mono ?_; rintro e w' ⟨rfl, rfl⟩) | (go_at_call 66; refine (HC.out).mono ?_; rintro e w1 ⟨rfl, b1⟩))
  go_ret2
  exact ⟨by rw [← HE.out]; rfl, b1⟩

end Go.Proofs.YtkhgdbnicpldkaaDoor
