/- Joined: XOnp XOnc XOnd XUon XPkp XPkw XPks. -/
import Derived.Test.YtofcicomhnkocaaGreatBp07
import Derived.Test.YtofcicomhnkocaaGreatBp28
import Derived.Test.YtofcicomhnkocaaGreatBp29
set_option linter.unusedVariables false
namespace Go.Proofs.YtofcicomhnkocaaGreat
open Go.RowKit Go.Sort
set_option maxRecDepth 100000

def cntB (x : Nat) : Nat → Nat
  | 0 => 0
  | k + 1 => cntB x k + if x.testBit k then 1 else 0
theorem cntB_le (x : Nat) : ∀ k, cntB x k ≤ k
  | 0 => Nat.le_refl _
  | k + 1 => by have := cntB_le x k; rw [cntB]; split <;> omega
def popN (x : Nat) : Nat := cntB x 24
theorem tb8 {a : Nat} (y : Nat) (ha : a < 256) (j : Nat) : (a + 256 * y).testBit j = if j < 8 then a.testBit j else y.testBit (j - 8) := by
  have := Nat.testBit_two_pow_mul_add y (show a < 2 ^ 8 from ha) j
  rw [← this, Nat.add_comm]
theorem and8 {a m : Nat} (y M : Nat) (ha : a < 256) (hm : m < 256) : (a + 256 * y) &&& (m + 256 * M) = (a &&& m) + 256 * (y &&& M) := by
  apply Nat.eq_of_testBit_eq
  intro i
  rw [Nat.testBit_and, tb8 y ha, tb8 M hm, tb8 _ (show a &&& m < 256 from Nat.and_lt_two_pow (n := 8) _ hm)]
  split <;> rw [Nat.testBit_and]
theorem cntB_split {a : Nat} (y : Nat) (ha : a < 256) : ∀ j, cntB (a + 256 * y) (8 + j) = cntB a 8 + cntB y j
  | 0 => by
    have h := fun i (hi : i < 8) => (tb8 y ha i).trans (if_pos hi)
    simp only [cntB, Nat.add_zero, h 0 (by omega), h 1 (by omega), h 2 (by omega), h 3 (by omega), h 4 (by omega), h 5 (by omega), h 6 (by omega), h 7 (by omega)]
  | j + 1 => by
    have h := tb8 y ha (8 + j)
    rw [if_neg (by omega), show 8 + j - 8 = j by omega] at h
    show cntB (a + 256 * y) (8 + j) + (if (a + 256 * y).testBit (8 + j) then 1 else 0) = cntB a 8 + (cntB y j + (if y.testBit j then 1 else 0))
    rw [cntB_split y ha j, h, Nat.add_assoc]
def q1 (a : Nat) : Nat := (a / 2 &&& 85) + (a &&& 85)
def q2 (a : Nat) : Nat := (a / 4 &&& 51) + (a &&& 51)
def q3 (a : Nat) : Nat := (a / 16 + a) &&& 15
theorem q_le : ∀ a : Fin 256, q1 a ≤ 170 ∧ q2 (q1 a) ≤ 102 ∧ q2 (q1 a) / 16 ≤ 4 ∧ q2 (q1 a) % 16 ≤ 4 ∧ q3 (q2 (q1 a)) = cntB a 8 := by decide +kernel
theorem e1 : ∀ a : Fin 256, ∀ e : Fin 2, (a.val / 2 + 128 * e.val) &&& 85 = a.val / 2 &&& 85 := by decide +kernel
theorem e2 : ∀ a : Fin 256, ∀ e : Fin 4, (a.val / 4 + 64 * e.val) &&& 51 = a.val / 4 &&& 51 := by decide +kernel
theorem e3 : ∀ a : Fin 256, ∀ e : Fin 8, a.val ≤ 102 → (a.val / 16 + 16 * e.val + a.val) &&& 15 = (a.val / 16 + a.val) &&& 15 := by decide +kernel
abbrev by3 (a b c : Nat) : Nat := a + 256 * (b + 256 * c)
theorem and3 {a b c m : Nat} (M : Nat) (ha : a < 256) (hb : b < 256) (hc : c < 256) (hm : m < 256) : by3 a b c &&& (m + 256 * (m + 256 * (m + 256 * M))) = by3 (a &&& m) (b &&& m) (c &&& m) := by
  have h := and8 0 M hc hm
  rw [Nat.mul_zero, Nat.add_zero, Nat.zero_and, Nat.mul_zero, Nat.add_zero] at h
  unfold by3
  rw [and8 _ _ ha hm, and8 _ _ hb hm, h]
theorem st1 {a b c : Nat} (ha : a < 256) (hb : b < 256) (hc : c < 256) : (by3 a b c / 2 &&& 6148914691236517205) + (by3 a b c &&& 6148914691236517205) = by3 (q1 a) (q1 b) (q1 c) := by
  have x1 := e1 ⟨a, ha⟩ ⟨b % 2, by omega⟩
  have x2 := e1 ⟨b, hb⟩ ⟨c % 2, by omega⟩
  simp only at x1 x2
  rw [show by3 a b c / 2 = by3 (a / 2 + 128 * (b % 2)) (b / 2 + 128 * (c % 2)) (c / 2) by unfold by3; omega,
    show (6148914691236517205 : Nat) = 85 + 256 * (85 + 256 * (85 + 256 * 366503875925)) by omega]
  rw [and3 _ (by omega) (by omega) (by omega) (by omega), and3 _ ha hb hc (by omega), x1, x2]
  unfold by3 q1
  omega
theorem st2 {a b c : Nat} (ha : a ≤ 170) (hb : b ≤ 170) (hc : c ≤ 170) : (by3 a b c / 4 &&& 3689348814741910323) + (by3 a b c &&& 3689348814741910323) = by3 (q2 a) (q2 b) (q2 c) := by
  have x1 := e2 ⟨a, by omega⟩ ⟨b % 4, by omega⟩
  have x2 := e2 ⟨b, by omega⟩ ⟨c % 4, by omega⟩
  simp only at x1 x2
  rw [show by3 a b c / 4 = by3 (a / 4 + 64 * (b % 4)) (b / 4 + 64 * (c % 4)) (c / 4) by unfold by3; omega,
    show (3689348814741910323 : Nat) = 51 + 256 * (51 + 256 * (51 + 256 * 219902325555)) by omega]
  rw [and3 _ (by omega) (by omega) (by omega) (by omega), and3 _ (by omega) (by omega) (by omega) (by omega), x1, x2]
  unfold by3 q2
  omega
theorem st3 {a b c : Nat} (ha : a ≤ 102 ∧ a / 16 ≤ 4 ∧ a % 16 ≤ 4) (hb : b ≤ 102 ∧ b / 16 ≤ 4 ∧ b % 16 ≤ 4) (hc : c ≤ 102 ∧ c / 16 ≤ 4 ∧ c % 16 ≤ 4) : (by3 a b c / 16 + by3 a b c) &&& 1085102592571150095 = by3 (q3 a) (q3 b) (q3 c) := by
  have x1 := e3 ⟨a, by omega⟩ ⟨b % 16, by omega⟩ ha.1
  have x2 := e3 ⟨b, by omega⟩ ⟨c % 16, by omega⟩ hb.1
  simp only at x1 x2
  rw [show by3 a b c / 16 + by3 a b c = by3 (a / 16 + 16 * (b % 16) + a) (b / 16 + 16 * (c % 16) + b) (c / 16 + c) by unfold by3; omega,
    show (1085102592571150095 : Nat) = 15 + 256 * (15 + 256 * (15 + 256 * 64677154575)) by omega]
  rw [and3 _ (by omega) (by omega) (by omega) (by omega), x1, x2]
  rfl
theorem st4 {a b c : Nat} (ha : a ≤ 8) (hb : b ≤ 8) (hc : c ≤ 8) {y y1 y2 y3 : Nat} (hy : y = by3 a b c) (h1 : y1 = y + y / 256) (h2 : y2 = y1 + y1 / 65536) (h3 : y3 = y2 + y2 / 4294967296) : y3 % 128 = a + b + c := by
  unfold by3 at hy
  have k1 : y / 256 = b + 256 * c := by omega
  have k2 : y1 / 65536 = c := by omega
  have k3 : y2 / 4294967296 = 0 := by omega
  omega
theorem st5 {y y1 y2 y3 : Nat} (hy : y < 1000000) (h1 : y1 = y + y / 256) (h2 : y2 = y1 + y1 / 65536) (h3 : y3 = y2 + y2 / 4294967296) : y1 < 16777216 ∧ y2 < 16777216 ∧ y3 < 16777216 := by omega
theorem swar {x : Nat} (hx : x < 16777216) : ∃ x1 x2 x3 : Nat, (x / 2 &&& 6148914691236517205) + (x &&& 6148914691236517205) = x1 ∧ (x1 / 4 &&& 3689348814741910323) + (x1 &&& 3689348814741910323) = x2 ∧ (x2 / 16 + x2) &&& 1085102592571150095 = x3 ∧ x1 < 16777216 ∧ x2 < 16777216 ∧ x3 < 1000000 ∧ ∀ y1 y2 y3, y1 = x3 + x3 / 256 → y2 = y1 + y1 / 65536 → y3 = y2 + y2 / 4294967296 → y3 % 128 = popN x := by
  obtain ⟨a, b, c, ha, hb, hc, rfl⟩ : ∃ a b c, a < 256 ∧ b < 256 ∧ c < 256 ∧ x = by3 a b c := ⟨x % 256, x / 256 % 256, x / 65536, by omega, by omega, by omega, by unfold by3; omega⟩
  obtain ⟨a1, a2, a3, a4, a5⟩ := q_le ⟨a, ha⟩
  obtain ⟨b1, b2, b3, b4, b5⟩ := q_le ⟨b, hb⟩
  obtain ⟨c1, c2, c3, c4, c5⟩ := q_le ⟨c, hc⟩
  simp only at a1 a2 a3 a4 a5 b1 b2 b3 b4 b5 c1 c2 c3 c4 c5
  have ka := cntB_le a 8
  have kb := cntB_le b 8
  have kc := cntB_le c 8
  refine ⟨_, _, _, st1 ha hb hc, st2 a1 b1 c1, st3 ⟨a2, a3, a4⟩ ⟨b2, b3, b4⟩ ⟨c2, c3, c4⟩, by unfold by3; omega, by unfold by3; omega, by rw [a5, b5, c5]; unfold by3; omega, ?_⟩
  intro y1 y2 y3 k1 k2 k3
  rw [st4 (by rw [a5]; exact ka) (by rw [b5]; exact kb) (by rw [c5]; exact kc) rfl k1 k2 k3, a5, b5, c5]
  unfold popN by3
  rw [show (24 : Nat) = 8 + 16 from rfl, cntB_split _ ha, show (16 : Nat) = 8 + 8 from rfl, cntB_split _ hb]
  omega
end Go.Proofs.YtofcicomhnkocaaGreat
namespace Go.Proofs.YtofcicomhnkocaaGreat
open Go.RowKit Go.Sort
set_option maxRecDepth 100000

theorem bits_andU {a b : Nat} (ha : a < 18446744073709551616) (hb : b < 18446744073709551616) : bits .and .u64 (a : Int) (b : Int) = ((a &&& b : Nat) : Int) := by
  have hab : a &&& b < 2 ^ 64 := Nat.and_lt_two_pow (n := 64) _ hb
  have e : (BitVec.ofInt 64 (a : Int) &&& BitVec.ofInt 64 (b : Int)).toNat = a &&& b := by
    rw [BitVec.toNat_and, BitVec.ofInt_natCast, BitVec.ofInt_natCast, BitVec.toNat_ofNat, BitVec.toNat_ofNat, Nat.mod_eq_of_lt (by omega), Nat.mod_eq_of_lt (by omega)]
  unfold bits
  show IntKind.u64.wrap (((BitVec.ofInt 64 (a : Int) &&& BitVec.ofInt 64 (b : Int)).toNat : Nat) : Int) = _
  rw [e, IntWalk.u64_in _ (by omega)]
theorem bits_and7 {a : Nat} (ha : a < 9223372036854775808) : bits .and .i64 (a : Int) 127 = ((a % 128 : Nat) : Int) := by
  have hab : a &&& 127 = a % 128 := Nat.and_two_pow_sub_one_eq_mod a 7
  have e : (BitVec.ofInt 64 (a : Int) &&& BitVec.ofInt 64 ((127 : Nat) : Int)).toNat = a &&& 127 := by
    rw [BitVec.toNat_and, BitVec.ofInt_natCast, BitVec.ofInt_natCast, BitVec.toNat_ofNat, BitVec.toNat_ofNat, Nat.mod_eq_of_lt (by omega), Nat.mod_eq_of_lt (by omega)]
  unfold bits
  show IntKind.i64.wrap (((BitVec.ofInt 64 (a : Int) &&& BitVec.ofInt 64 ((127 : Nat) : Int)).toNat : Nat) : Int) = _
  rw [e, hab, IntWalk.i64_in _ (by omega)]
theorem u64n {a : Nat} (ha : a < 18446744073709551616) : IntKind.u64.wrap (a : Int) = (a : Int) := IntWalk.u64_in _ (by omega)
theorem i64n {a : Nat} (ha : a < 16777216) : IntKind.i64.wrap (a : Int) = (a : Int) := IntWalk.i64_in _ (by omega)
theorem w64n {a : Nat} (ha : a < 16777216) : wrap64 (a : Int) = (a : Int) := IntWalk.wrap64_in _ (by omega)
theorem u64s {x y d : Nat} (hy : y = x + x / d) (hl : y < 16777216) : IntKind.u64.wrap ((x : Int) + (x : Int) / (d : Int)) = (y : Int) := by
  subst hy
  have := u64n (a := x + x / d) (by omega)
  rw [Int.natCast_add, Int.natCast_ediv] at this
  exact this
set_option maxHeartbeats 1600000 in
theorem ones64_any (x : Nat) (hx : x < 16777216) (w : World) :
    Calls Tryz.prog 176 #[.int .u64 (x : Int)] w fun e w' => e = .returned (.int .i64 (popN x : Nat)) ∧ w = w' := by
  obtain ⟨x1, x2, x3, h1, h2, h3, l1, l2, l3, h4⟩ := swar hx
  generalize popN x = P at *
  have l0 : x / 2 &&& 6148914691236517205 < 16777216 := by omega
  have m1 : x &&& 6148914691236517205 < 16777216 := by omega
  have l2' : x1 / 4 &&& 3689348814741910323 < 16777216 := by omega
  have m2 : x1 &&& 3689348814741910323 < 16777216 := by omega
  have a1 : bits .and .u64 ((x : Int) / 2) 6148914691236517205 = ((x / 2 &&& 6148914691236517205 : Nat) : Int) := bits_andU (a := x / 2) (b := 6148914691236517205) (by omega) (by omega)
  have a2 : bits .and .u64 (x : Int) 6148914691236517205 = ((x &&& 6148914691236517205 : Nat) : Int) := bits_andU (b := 6148914691236517205) (by omega) (by omega)
  have a3 : IntKind.u64.wrap (((x / 2 &&& 6148914691236517205 : Nat) : Int) + ((x &&& 6148914691236517205 : Nat) : Int)) = (x1 : Int) := by rw [← Int.natCast_add, h1]; exact u64n (by omega)
  have b1 : bits .and .u64 ((x1 : Int) / 4) 3689348814741910323 = ((x1 / 4 &&& 3689348814741910323 : Nat) : Int) := bits_andU (a := x1 / 4) (b := 3689348814741910323) (by omega) (by omega)
  have b2 : bits .and .u64 (x1 : Int) 3689348814741910323 = ((x1 &&& 3689348814741910323 : Nat) : Int) := bits_andU (b := 3689348814741910323) (by omega) (by omega)
  have b3 : IntKind.u64.wrap (((x1 / 4 &&& 3689348814741910323 : Nat) : Int) + ((x1 &&& 3689348814741910323 : Nat) : Int)) = (x2 : Int) := by rw [← Int.natCast_add, h2]; exact u64n (by omega)
  obtain ⟨x4, h5⟩ : ∃ x4 : Nat, x4 = x2 / 16 + x2 := ⟨_, rfl⟩
  rw [← h5] at h3
  have c1 : IntKind.u64.wrap ((x2 : Int) / 16 + (x2 : Int)) = (x4 : Int) := by rw [h5]; exact u64n (a := x2 / 16 + x2) (by omega)
  have c2 : bits .and .u64 (x4 : Int) 1085102592571150095 = (x3 : Int) := by rw [← h3]; exact bits_andU (b := 1085102592571150095) (by omega) (by omega)
  obtain ⟨y1, hy1⟩ : ∃ y1 : Nat, y1 = x3 + x3 / 256 := ⟨_, rfl⟩
  obtain ⟨y2, hy2⟩ : ∃ y2 : Nat, y2 = y1 + y1 / 65536 := ⟨_, rfl⟩
  obtain ⟨y3, hy3⟩ : ∃ y3 : Nat, y3 = y2 + y2 / 4294967296 := ⟨_, rfl⟩
  obtain ⟨l4, l5, l6⟩ := st5 l3 hy1 hy2 hy3
  have h6 : y3 % 128 = P := h4 y1 y2 y3 hy1 hy2 hy3
  clear h1 h2 h3 h4 h5 l0 m1 l2' m2 l1 l2 l3 hx
  have d1 : IntKind.u64.wrap ((x3 : Int) + (x3 : Int) / 256) = (y1 : Int) := u64s hy1 l4
  have d2 : IntKind.u64.wrap ((y1 : Int) + (y1 : Int) / 65536) = (y2 : Int) := u64s hy2 l5
  have d3 : IntKind.u64.wrap ((y2 : Int) + (y2 : Int) / 4294967296) = (y3 : Int) := by simpa only [Int.cast_ofNat_Int] using u64s hy3 l6
  clear hy1 hy2 hy3 l4 l5
  have d4 := i64n l6
  have d5 := w64n l6
  have d6 : bits .and .i64 (y3 : Int) 127 = ((y3 % 128 : Nat) : Int) := bits_and7 (Nat.lt_of_lt_of_le l6 (by decide))
  rw [h6] at d6
  clear h6 l6
  go_enter Tryz.func176, Tryz.ntmps176
  go_wp2
  go_ret
  refine ⟨?_, rfl⟩
  rfl
end Go.Proofs.YtofcicomhnkocaaGreat
namespace Go.Proofs.YtofcicomhnkocaaGreat
open Go.RowKit Go.Sort
set_option maxRecDepth 100000

set_option maxHeartbeats 1600000 in
theorem ones_any (x : Nat) (hx : x < 16777216) (w : World) :
    Calls Tryz.prog 134 #[.int .u64 (x : Int)] w fun e w' => e = .returned (.int .i64 (popN x : Nat)) ∧ w = w' := by
  have HC := Lib.hid (fun w => ones64_any x hx w)
  go_enter Tryz.func134, Tryz.ntmps134
  go_wp2_with fail
  refine (HC.out _).mono ?_
  rintro e w' ⟨rfl, rfl⟩
  go_wp2
  go_ret
  exact ⟨rfl, rfl⟩
set_option maxHeartbeats 1600000 in
theorem l8Count_any (x : Nat) (hx : x < 16777216) (w : World) :
    Calls Tryz.prog 83 #[.int .i64 (x : Int)] w fun e w' => e = .returned (.int .i64 (popN x : Nat)) ∧ w = w' := by
  have HX := Lib.hid hx
  have HR := Lib.hid (show popN x = cntB x 24 from rfl)
  generalize popN x = P at *
  go_enter Tryz.func83, Tryz.ntmps83
  go_wp2
  go_loop [3, 4] (fun s3 s4 => ∃ k : Nat, k ≤ 24 ∧ s3 = .int .i64 (cntB x k : Nat) ∧ s4 = .int .i64 k) (fun _ s4 => 24 - (intOf s4).toNat)
  case atStart => exact ⟨0, by omega, rfl, rfl⟩
  case round =>
    obtain ⟨k, hk, rfl, rfl⟩ := hrel
    by_cases hlt : k < 24
    · have hltI : (k : Int) < 24 := by omega
      have hb := bit_at k HX.out
      have HE := Lib.hid (show cntB x (k + 1) = cntB x k + if x.testBit k then 1 else 0 from rfl)
      have hl := cntB_le x k
      generalize cntB x k = c at *
      by_cases ht : x.testBit k = true
      · rw [if_pos ht] at hb HE
        have hw1 : wrap64 ((c : Int) + 1) = (c : Int) + 1 := IntWalk.wrap64_in _ (by omega)
        clear ht
        go_wp2
        go_round
        · exact ⟨k + 1, by omega, by rw [HE.out]; rfl, by go_num⟩
        · simp [intOf]; omega
      · rw [if_neg ht] at hb HE
        have hw1 : wrap64 ((c : Int) + 0) = (c : Int) := IntWalk.wrap64_in _ (by omega)
        clear ht
        go_wp2
        go_round
        · exact ⟨k + 1, by omega, by rw [HE.out]; rfl, by go_num⟩
        · simp [intOf]; omega
    · obtain rfl : k = 24 := by omega
      rw [← HR.out]
      go_wp2
      go_ret
      exact ⟨rfl, rfl⟩
end Go.Proofs.YtofcicomhnkocaaGreat
namespace Go.Proofs.YtofcicomhnkocaaGreat
open Go.RowKit Go.Sort
set_option maxRecDepth 100000

def useL (M : List Nat) : List Int := M.map fun m => ((popN m : Nat) : Int)
theorem useL_step {M : List Nat} {k : Nat} (hk : k < M.length) : useL (M.take (k + 1)) = useL (M.take k) ++ [((popN (M[k]?.getD 0) : Nat) : Int)] := by
  unfold useL
  rw [List.take_add_one, List.map_append, List.getElem?_eq_getElem hk]; rfl
theorem useL_len (M : List Nat) : (useL M).length = M.length := by simp [useL]
theorem orAll_lt {ls : List Lgt} {nf : Nat} (h : ∀ x ∈ ls, LgO nf x) {i : Nat} (hi : i < nf) : (orAll ls nf)[i]?.getD 0 < 16777216 := by
  rw [orAll_get hi (fun x hx f hf => ((h x hx).1 f hf).1)]
  exact usedN_lt h _
set_option maxHeartbeats 3200000 in
theorem usedOn_any (v : Value) (p : Pln) (w : World) (h : PlnR w v p) (hn2 : p.n.fs.length ≤ 1048576) (hl : p.ls.length ≤ 1000) (hlo : ∀ x ∈ p.ls, LgO p.n.fs.length x) :
    Calls Tryz.prog 85 #[v] w fun e w' => ∃ v', e = .returned v' ∧ Own w' w.heap.size v' (useL (orAll p.ls p.n.fs.length)) ∧ Below w.heap.size w w' := by
  have HFM := Lib.hid (fun w' (hb : Below w.heap.size w w') => fiberMasks_any v p w' (h.behind hb) hn2 hl hlo)
  have hMl : (orAll p.ls p.n.fs.length).length = p.n.fs.length := (orLs_len p.ls _).trans (by simp)
  have HLT := Lib.hid (fun i (hi : i < p.n.fs.length) => orAll_lt (ls := p.ls) hlo hi)
  obtain ⟨u1, u2, u3, rfl, r1, r2, r3, hsm⟩ := h
  have hnet : NetR w (.agg #[u1, u2]) p.n := ⟨u1, u2, rfl, r1, r2, hsm⟩
  obtain ⟨⟨a1, m1, c1, rfl⟩, a2, m2, c2, rfl⟩ := slice_of_net hnet
  obtain ⟨a3, m3, c3, rfl, -⟩ := Rdt.opn r3
  generalize orAll p.ls p.n.fs.length = M at *
  generalize p.n.fs.length = nf at *
  have HB1 := Lib.hid ((Below.refl w.heap.size w).alloc (Nat.le_refl _) (.cells #[.slice a1 m1 c1, .slice a2 m2 c2, .slice a3 m3 c3] 75))
  have HO1 := Lib.hid (own_none (w.alloc (.cells #[.slice a1 m1 c1, .slice a2 m2 c2, .slice a3 m3 c3] 75)) 3)
  have HB2 := Lib.hid (HB1.out.alloc HB1.out.size (.cells #[] 3))
  clear hnet r1 r2 r3 hsm hlo hl
  go_enter Tryz.func85, Tryz.ntmps85
  go_wp2_with fail
  generalize hw1 : w.alloc (.cells #[.slice a1 m1 c1, .slice a2 m2 c2, .slice a3 m3 c3] 75) = w1 at *
  have hz1 : w1.heap.size = w.heap.size + 1 := by rw [← hw1]; simp
  rw [hz1] at HO1
  generalize hw2 : w1.alloc (.cells #[] 3) = w2 at *
  have hz2 : w2.heap.size = w.heap.size + 1 + 1 := by rw [← hw2]; simp [hz1]
  clear hw1 hw2
  refine (HFM.out _ HB2.out).mono ?_
  rintro e w3 ⟨v3, rfl, o3, b3⟩
  have hlt2 : ∀ k, (Value.slice (some ⟨w.heap.size + 1, 0, none⟩) 0 0).ownBlock = some k → k < w2.heap.size := fun k hk => by
    obtain rfl : w.heap.size + 1 = k := by simpa [Value.ownBlock] using hk
    omega
  have HO3 := Lib.hid ((HO1.out.below b3 hlt2).mono (Nat.le_succ _))
  have HB3 := Lib.hid (HB2.out.trans (b3.mono HB2.out.size))
  have HN3 := Lib.hid (show ∀ g, (Value.slice (some ⟨w.heap.size + 1, 0, none⟩) 0 0).ownBlock = some g → v3.ownBlock ≠ some g from fun g hg e => by
    have h1 := (o3.lt g e).1
    obtain rfl : w.heap.size + 1 = g := by simpa [Value.ownBlock] using hg
    omega)
  have HR3 := Lib.hid o3.rd
  obtain ⟨a, c, m, HM, rfl, hmc, hm63, -⟩ := o3.rd.opn
  have hMM : M.length = m := by have := HM.out; rw [nats_len] at this; exact this
  have HMM := Lib.hid hMM
  have hmnf : m = nf := by omega
  have HNF := Lib.hid hmnf
  clear hlt2 o3 b3 hz1 hz2 hMM hmnf hMl HO1 HFM
  go_wp2_with fail
  go_loopw [3, 5, 10] (fun s3 _ i wr => ∃ (k : Nat) (ao : Option Addr) (no co : Nat), k ≤ m ∧ i = .int .i64 k ∧ s3 = .slice ao no co ∧ Hid (Own wr w.heap.size (.slice ao no co) (useL (M.take k))) ∧ Hid (Rd wr (.slice a m c) (nats M)) ∧ Hid (∀ g, (Value.slice ao no co).ownBlock = some g → (Value.slice a m c).ownBlock ≠ some g) ∧ Hid (Below w.heap.size w wr)) (fun _ _ i _ => m - (intOf i).toNat)
  case atStart => exact ⟨0, _, _, _, Nat.zero_le _, rfl, rfl, HO3.out, HR3.out, HN3.out, HB3.out⟩
  case round =>
    obtain ⟨k, ao, no, co, hk, rfl, rfl, HO, HR, HN, HB⟩ := hrel
    by_cases hlt : k < m
    · have hltI : (k : Int) < (m : Int) := by omega
      obtain ⟨a', c', m', HM', e', hmc', hm63', hcs⟩ := HR.out.opn
      cases e'
      obtain ⟨b, off, rfl, hbs, hcs⟩ := hcs (by omega)
      have c0 := hcs k hlt
      rw [nats_at] at c0
      have hx : M[k]?.getD 0 < 16777216 := HLT.out k (by have := HNF.out; omega)
      have HST := Lib.hid (useL_step (M := M) (k := k) (by rw [HMM.out]; exact hlt))
      have HLO := Lib.hid (show (useL (M.take k)).length ≤ 4000000 by rw [useL_len, List.length_take]; have := HNF.out; omega)
      generalize M[k]?.getD 0 = x at *
      have hu := u64n (a := x) (Nat.lt_of_lt_of_le hx (by decide))
      have HX := Lib.hid hx
      generalize useL (M.take k) = ys at *
      clear hcs hbs hx HM' hmc'
      go_wp2_with (first
        | (go_at_call 134; refine (ones_any x HX.out _).mono ?_; rintro e w' ⟨rfl, rfl⟩)
        | (at_builtin; go_loud (refine wpList_pushI rfl (.tmp 14) (.tmp 18) 58 rfl Tryz.underlying58 Tryz.infoI w.heap.size (.slice ao no co) ys rfl HO.out rfl HLO.out HB.out.size ?_); intro v5 w5 o5 g5 l5; have HO5 := Lib.hid o5; have HB5 := Lib.hid (HB.out.grown g5 HB.out.size (fun q hq => (HO.out.lt q hq).1)); have HR5 := Lib.hid (HR.out.keptB g5.size (fun q hq => g5.block q (HR.out.lt q hq) (fun e => HN.out q e.symm hq))); have HN5 := Lib.hid (show ∀ g, v5.ownBlock = some g → (Value.slice (some ⟨b, off, none⟩) m c).ownBlock ≠ some g from fun g hg e => (l5 g hg).elim (fun h => HN.out g h e) (fun h => absurd (HR.out.lt g e) (by omega))); obtain ⟨a5, n5, c5, rfl⟩ : ∃ a5 n5 c5, v5 = .slice a5 n5 c5 := own_slice o5; clear o5 g5 l5))
      go_roundw
      case rel => exact ⟨k + 1, _, _, _, by omega, by go_num, rfl, by rw [HST.out]; exact HO5.out, HR5.out, HN5.out, HB5.out⟩
      case measure => simp [intOf]; omega
    · obtain rfl : k = m := by omega
      have HT := Lib.hid (show M.take k = M from List.take_of_length_le (Nat.le_of_eq HMM.out))
      rw [HT.out] at HO
      go_wp2_with fail
      go_ret
      exact ⟨_, rfl, HO.out, HB.out⟩
end Go.Proofs.YtofcicomhnkocaaGreat
namespace Go.Proofs.YtofcicomhnkocaaGreat
open Go.RowKit Go.Sort
set_option maxRecDepth 100000

theorem res_tmp4 {fn : Func} {t u v x : Tmp} (h : fn.results = #[.tmp t, .tmp u, .tmp v, .tmp x]) (tmps : Array Value) (P : Program) (w : World) :
    (results fn tmps).run P w = .ok (.tuple #[tmps.getD t undef, tmps.getD u undef, tmps.getD v undef, tmps.getD x undef]) w := by
  simp [results, h]

theorem pln_nth (n : Net) (ps : List (List Lgt)) (t : Nat) : (ps.map (Pln.mk n))[t]?.getD ⟨n, []⟩ = ⟨n, ps[t]?.getD []⟩ := by
  rw [List.getElem?_map]
  cases ps[t]? <;> rfl
theorem pls_at {w' : World} {base : Nat} {n : Net} {ps : List (List Lgt)} {s : Value} {X : Nat → Prop} (h : GrwX w' base 75 3 s 8 ((ps.map (Pln.mk n)).flatMap plnD) X) (hl : ps.length = 8) (hs : NetSm n) :
    ∃ b off c, s = .slice (some ⟨b, off, none⟩) 8 c ∧ b < w'.heap.size ∧ Hid (∀ t, t < 8 → ∃ a1 m1 c1 a2 m2 c2 a3 m3 c3, w'.cell? ⟨b, off + t * 3, none⟩ = some (.slice a1 m1 c1) ∧ w'.cell? ⟨b, off + t * 3 + 1, none⟩ = some (.slice a2 m2 c2) ∧ w'.cell? ⟨b, off + t * 3 + 2, none⟩ = some (.slice a3 m3 c3) ∧
      PlnR w' (.agg #[.slice a1 m1 c1, .slice a2 m2 c2, .slice a3 m3 c3]) ⟨n, ps[t]?.getD []⟩) := by
  have hr : Rdt w' (rws 3 plnD (ps.map (Pln.mk n))) s := h.grw.ofr.rd
  obtain ⟨a, nn, cap, rfl, HN, hc, -, ha⟩ := rws_opn (m := 3) (en := plnD) (fun _ => rfl) (by omega) ⟨n, []⟩ hr
  have hn := HN.out
  rw [List.length_map, hl] at hn
  subst hn
  obtain ⟨b, off, rfl, hb, ha⟩ := ha (by omega)
  refine ⟨b, off, cap, rfl, hb, fun t ht => ?_⟩
  have g := fun r d hd => ha t ht r d hd
  rw [pln_nth] at g
  obtain ⟨u0, k0, l0⟩ := g 0 _ rfl
  obtain ⟨u1, k1, l1⟩ := g 1 _ rfl
  obtain ⟨u2, k2, l2⟩ := g 2 _ rfl
  obtain ⟨a1, m1, c1, rfl⟩ := Rdt.slice' l0
  obtain ⟨a2, m2, c2, rfl⟩ := Rdt.slice' l1
  obtain ⟨a3, m3, c3, rfl, -⟩ := Rdt.opn l2
  exact ⟨a1, m1, c1, a2, m2, c2, a3, m3, c3, k0, k1, k2, _, _, _, rfl, l0, l1, l2, hs⟩
theorem pls_ok {n : Net} {fs : List Fmt} {gs : List Gro} {ps : List (List Lgt)} {r : PRun} (h : planO n fs gs = some (ps, r)) : ps.length = 8 ∧ netOk n = true ∧ ∀ t, t < 8 → LsK n (ps[t]?.getD []) := by
  obtain ⟨-, h2, h3, h4⟩ := planO_some h
  refine ⟨runP_len h4, h2, fun t ht => ?_⟩
  obtain ⟨rt, e1, hr, -⟩ := (runP_all h3 h4).2 t ht
  rw [e1]
  exact hr.lsk h3
def planU (n : Net) (fs : List Fmt) (gs : List Gro) (t i : Nat) : Int := match planO n fs gs with
  | none => 0
  | some (ps, _) => ((popN (usedN (ps[t]?.getD []) (i : Int)) : Nat) : Int)
theorem useL_get {n : Net} {ls : List Lgt} (h : ∀ x ∈ ls, LgO n.fs.length x) {i : Nat} (hi : i < n.fs.length) : (useL (orAll ls n.fs.length))[i]?.getD 0 = ((popN (usedN ls (i : Int)) : Nat) : Int) := by
  have hl : (orAll ls n.fs.length).length = n.fs.length := (orLs_len ls _).trans (by simp)
  rw [← orAll_get hi (fun x hx f hf => ((h x hx).1 f hf).1)]
  unfold useL
  rw [List.getElem?_map, List.getElem?_eq_getElem (by omega)]; rfl
def pkR (U : Nat → Int) (t : Int) : Nat → Int × Int × Int → Int × Int × Int
  | 0, s => s
  | k + 1, s => if (pkR U t k s).2.2 < U k then ((k : Int), t, U k) else pkR U t k s
def pkA (U : Nat → Nat → Int) (nf : Nat) : Nat → Int × Int × Int → Int × Int × Int
  | 0, s => s
  | t + 1, s => pkR (U t) (t : Int) nf (pkA U nf t s)
theorem pkR_eq {U : Nat → Int} (h : ∀ i, 0 ≤ U i) : ∀ k, 1 ≤ k → pkR U 0 k (0, 0, -1) = pkR U 0 k (0, 0, 0)
  | 1, _ => by
    have h0 := h 0
    have e1 : pkR U 0 1 (0, 0, -1) = (0, 0, U 0) := if_pos (show (-1 : Int) < U 0 by omega)
    rw [e1]
    by_cases hp : 0 < U 0
    · exact (if_pos (show (0 : Int) < U 0 from hp)).symm
    · have e2 : pkR U 0 1 (0, 0, 0) = (0, 0, 0) := if_neg (show ¬ (0 : Int) < U 0 from hp)
      rw [e2, show U 0 = 0 by omega]
  | k + 2, _ => by rw [pkR, pkR_eq h (k + 1) (by omega)]; rfl
theorem pkA_eq {U : Nat → Nat → Int} (h : ∀ t i, 0 ≤ U t i) {nf : Nat} (hn : 1 ≤ nf) : ∀ t, 1 ≤ t → pkA U nf t (0, 0, -1) = pkA U nf t (0, 0, 0)
  | 1, _ => pkR_eq (h 0) nf hn
  | t + 2, _ => by rw [pkA, pkA_eq h hn (t + 1) (by omega)]; rfl
theorem planU_nn (n : Net) (fs : List Fmt) (gs : List Gro) (t i : Nat) : 0 ≤ planU n fs gs t i := by
  unfold planU
  split <;> omega
def pkK (n : Net) (fs : List Fmt) (gs : List Gro) : Bool := planK n fs gs && decide (0 < n.fs.length)
def pk3 (n : Net) (fs : List Fmt) (gs : List Gro) : Int × Int × Int := if pkK n fs gs then pkA (planU n fs gs) n.fs.length 8 (0, 0, 0) else (0, 0, 0)
def PkP (n : Net) (fs : List Fmt) (gs : List Gro) (w : World) (e : Ending) (w' : World) : Prop := e = .returned (.tuple #[.int .i64 (pk3 n fs gs).1, .int .i64 (pk3 n fs gs).2.1, .int .i64 (pk3 n fs gs).2.2, .bool (pkK n fs gs)]) ∧ Below w.heap.size w w'
end Go.Proofs.YtofcicomhnkocaaGreat
namespace Go.Proofs.YtofcicomhnkocaaGreat
open Go.RowKit Go.Sort
set_option maxRecDepth 100000

set_option maxHeartbeats 3200000 in
theorem implPeak_any (v vf vg : Value) (n : Net) (fs : List Fmt) (gs : List Gro) (w : World) (h : NetR w v n) (hf : Rdt w (flt 2 fmE fs) vf) (hg : Rdt w (flt 6 groE gs) vg) :
    Calls Tryz.prog 31 #[v, vf, vg] w (PkP n fs gs w) := by
  obtain ⟨NP, hNP⟩ : ∃ NP, NP = PkP n fs gs w := ⟨_, rfl⟩
  rw [← hNP]
  have HNP := Lib.hid hNP
  have HP := Lib.hid (fun w' (hb : Below w.heap.size w w') => planned_n v vf vg n fs gs w' (h.behind hb) (hf.behind hb) (hg.behind hb))
  have hnet := h
  obtain ⟨u1, u2, rfl, r1, r2, hsm⟩ := h
  obtain ⟨⟨a1, m1, c1, rfl⟩, -⟩ := slice_of_net hnet
  obtain ⟨a2, m2, c2, rfl, HN2, hc2, hm2, -⟩ := flt_opn (m := 4) (enc := fibE) (fun _ => rfl) (by omega) nilB r2
  obtain ⟨af, mf, cf, rfl, -, -, -, -⟩ := flt_opn (m := 2) (enc := fmE) (fun _ => rfl) (by omega) nilFm hf
  obtain ⟨ag, mg, cg, rfl, -, -, -, -⟩ := flt_opn (m := 6) (enc := groE) (fun _ => rfl) (by omega) nilG hg
  have HSM := Lib.hid (show NetSm n from hsm)
  have HB1 := Lib.hid ((Below.refl w.heap.size w).alloc (Nat.le_refl _) (.cells #[.slice a1 m1 c1, .slice a2 m2 c2] 35))
  have HX1 := Lib.hid (heap_alloc_new w (.cells #[.slice a1 m1 c1, .slice a2 m2 c2] 35))
  clear hnet hf hg hNP r1 r2 hsm
  go_enter Tryz.func31, Tryz.ntmps31
  go_wp2_with fail
  obtain ⟨bx, hbx⟩ : ∃ bx, bx = w.heap.size := ⟨_, rfl⟩
  rw [← hbx] at HX1 ⊢
  clear hbx
  generalize w.alloc (.cells #[.slice a1 m1 c1, .slice a2 m2 c2] 35) = w1 at *
  refine (HP.out w1 HB1.out).mono ?_
  rintro e w2 ⟨b2, aw, ms, cs, a, m, c, rfl, hpl, hno⟩
  have HB2 := Lib.hid (HB1.out.trans (b2.mono HB1.out.size))
  have HX2 := Lib.hid (kept_o' HX1.out b2)
  cases hO : planO n fs gs with
  | none =>
    obtain ⟨-, k2⟩ := planB_no hO
    have HE := Lib.hid (show pkK n fs gs = false by unfold pkK; rw [k2]; rfl)
    rw [k2]
    clear b2 hpl hO hno k2
    go_wp2
    rw [HNP.out]
    exact bodyPost_ret (res_tmp4 (t := 6) (u := 7) (v := 8) (x := 9) rfl _ _ _) rfl ⟨by unfold pk3; rw [HE.out]; rfl, HB2.out⟩
  | some x =>
    obtain ⟨ps, r⟩ := x
    have k3 := (planB_of hO).2.2
    rw [k3]
    have z1 := blkc HX2.out (j := 1) (u := .slice a2 m2 c2) rfl
    by_cases hz : m2 = 0
    · have HE := Lib.hid (show pkK n fs gs = false by unfold pkK; rw [k3, HN2.out, hz]; rfl)
      subst hz
      clear b2 hpl hO hno k3
      go_wp2
      rw [HNP.out]
      exact bodyPost_ret (res_tmp4 (t := 6) (u := 7) (v := 8) (x := 9) rfl _ _ _) rfl ⟨by unfold pk3; rw [HE.out]; rfl, HB2.out⟩
    have HE := Lib.hid (show pkK n fs gs = true by unfold pkK; rw [k3, HN2.out]; simp; omega)
    have hzI : ((m2 : Int) == 0) = false := by simp; omega
    obtain ⟨hg8, -, -⟩ := hpl ps r hO
    obtain ⟨hl8, hnok, hlsk⟩ := pls_ok hO
    obtain ⟨bs, offs, cc, es, hbs, HPL⟩ := pls_at hg8 hl8 HSM.out
    cases es
    have HLS := Lib.hid hlsk
    have HNOK := Lib.hid hnok
    have HU := Lib.hid (show ∀ t i, planU n fs gs t i = ((popN (usedN (ps[t]?.getD []) (i : Int)) : Nat) : Int) from fun t i => by unfold planU; rw [hO])
    clear b2 hpl hno k3 hg8 hl8 hnok hlsk hO
    have HRS := Lib.hid (show pk3 n fs gs = pkA (planU n fs gs) m2 8 (0, 0, -1) by
      unfold pk3; rw [HE.out, if_pos rfl, HN2.out, pkA_eq (planU_nn n fs gs) (by omega) 8 (by omega)])
    have h14 : m2 ≤ 14 := by have := (netOk_yes HNOK.out).2.2.1; have := HN2.out; omega
    have HUO := Lib.hid (fun t (ht : t < 8) (vp : Value) w' (hp : PlnR w' vp ⟨n, ps[t]?.getD []⟩) => usedOn_any vp ⟨n, ps[t]?.getD []⟩ w' hp (by show n.fs.length ≤ 1048576; rw [HN2.out]; omega) (Nat.le_trans (HLS.out t ht).1 (by decide)) ((HLS.out t ht).lgo HNOK.out))
    have HUG := Lib.hid (fun t (ht : t < 8) i (hi : i < m2) => (useL_get (n := n) (ls := ps[t]?.getD []) ((HLS.out t ht).lgo HNOK.out) (i := i) (by rw [HN2.out]; exact hi)).trans (HU.out t i).symm)
    have HUL := Lib.hid (fun (t : Nat) => show (useL (orAll (ps[t]?.getD []) n.fs.length)).length = m2 by rw [useL_len]; exact ((orLs_len (ps[t]?.getD []) _).trans (by simp)).trans HN2.out)
    generalize planU n fs gs = U at *
    go_wp2_with fail
    clear hzI z1 hz
    have HBS := Lib.hid hbs
    clear hbs
    go_loopw [13, 14, 15, 38] (fun s13 s14 s15 i wr => ∃ (t : Nat) (x1 x2 x3 : Int), t ≤ 8 ∧ i = .int .i64 t ∧ s13 = .int .i64 x1 ∧ s14 = .int .i64 x2 ∧ s15 = .int .i64 x3 ∧ Hid (pkA U m2 t (0, 0, -1) = (x1, x2, x3)) ∧ Hid (Below w2.heap.size w2 wr)) (fun _ _ _ i _ => 8 - (intOf i).toNat)
    case atStart => exact ⟨0, 0, 0, -1, by omega, rfl, rfl, rfl, rfl, rfl, Below.refl _ _⟩
    case round =>
      obtain ⟨t, x1, x2, x3, ht, rfl, rfl, rfl, rfl, HS, HB⟩ := hrel
      by_cases hlt : t < 8
      · have hltI : (t : Int) < 8 := by omega
        obtain ⟨p1, q1, d1, p2, q2, d2, p3, q3, d3, k0, k1, k2, hpr⟩ := HPL.out t hlt
        have c0 := (HB.out.cell (p := ⟨bs, offs + t * 3, none⟩) HBS.out).trans k0
        have c1 := (HB.out.cell (p := ⟨bs, offs + t * 3 + 1, none⟩) HBS.out).trans k1
        have c2 := (HB.out.cell (p := ⟨bs, offs + t * 3 + 2, none⟩) HBS.out).trans k2
        have HPR := Lib.hid (hpr.behind HB.out)
        clear k0 k1 k2 hpr
        go_upto_region 8 with fail
        have n2' := heap_alloc_new wr (.cells #[.slice p1 q1 d1, .slice p2 q2 d2, .slice p3 q3 d3] 75)
        have HB5 := Lib.hid ((Below.refl wr.heap.size wr).alloc (Nat.le_refl _) (.cells #[.slice p1 q1 d1, .slice p2 q2 d2, .slice p3 q3 d3] 75))
        obtain ⟨bq, hbq⟩ : ∃ bq, bq = wr.heap.size := ⟨_, rfl⟩
        rw [← hbq] at n2' ⊢
        clear hbq c0 c1 c2
        generalize wr.alloc (.cells #[.slice p1 q1 d1, .slice p2 q2 d2, .slice p3 q3 d3] 75) = w5 at *
        have y0 := blkc n2' (j := 0) (u := .slice p1 q1 d1) rfl
        have y1 := blkc n2' (j := 1) (u := .slice p2 q2 d2) rfl
        have y2 := blkc n2' (j := 2) (u := .slice p3 q3 d3) rfl
        have HL := Lib.hid (HUL.out t)
        have HG := Lib.hid (HUG.out t hlt)
        have HUS := Lib.hid (HUO.out t hlt _ w5 (HPR.out.behind HB5.out))
        have HNX := Lib.hid (show pkA U m2 (t + 1) (0, 0, -1) = pkR (U t) t m2 (x1, x2, x3) by rw [pkA, HS.out])
        have HB6 := Lib.hid (HB.out.trans (HB5.out.mono HB.out.size))
        try dsimp only at HUS
        generalize useL (orAll (ps[t]?.getD []) n.fs.length) = L at *
        generalize U t = V at HG HNX
        clear n2'
        go_wp2_with fail
        refine HUS.out.mono ?_
        rintro e w6 ⟨v6, rfl, o6, b6⟩
        obtain ⟨a6, c6, m6, HM6, rfl, hc6, hm6, hcs⟩ := o6.rd.opn
        have hm6' : m6 = m2 := by rw [← HM6.out]; exact HL.out
        subst hm6'
        have HB7 := Lib.hid (HB6.out.trans (b6.mono HB6.out.size))
        have HCS := Lib.hid hcs
        clear o6 b6 y0 y1 y2 hcs HUS
        go_wp2_with fail
        go_loop [13, 14, 15, 46] (fun s13 s14 s15 i => ∃ (k : Nat) (y1 y2 y3 : Int), k ≤ m6 ∧ i = .int .i64 k ∧ s13 = .int .i64 y1 ∧ s14 = .int .i64 y2 ∧ s15 = .int .i64 y3 ∧ Hid (pkR V t k (x1, x2, x3) = (y1, y2, y3))) (fun _ _ _ i => m6 - (intOf i).toNat)
        case atStart => exact ⟨0, x1, x2, x3, by omega, rfl, rfl, rfl, rfl, rfl⟩
        case round =>
          obtain ⟨k, y1, y2, y3, hk, rfl, rfl, rfl, rfl, HR⟩ := hrel
          by_cases hlk : k < m6
          · have hlkI : (k : Int) < (m6 : Int) := by omega
            obtain ⟨b, off, rfl, hb6, hcs⟩ := HCS.out (by omega)
            have c0 := hcs k hlk
            have HGK := Lib.hid (HG.out k hlk)
            rw [HGK.out] at c0
            have HST := Lib.hid (show pkR V t (k + 1) (x1, x2, x3) = if y3 < V k then ((k : Int), (t : Int), V k) else (y1, y2, y3) by rw [pkR, HR.out])
            generalize V k = u at *
            by_cases hgt : y3 < u
            · rw [if_pos hgt] at HST
              have hgd : decide (u > y3) = true := decide_eq_true hgt
              clear hcs hb6
              go_wp2
              go_round
              · exact ⟨k + 1, _, _, _, by omega, by go_num, rfl, rfl, rfl, HST.out⟩
              · simp [intOf]; omega
            · rw [if_neg hgt] at HST
              have hgd : decide (u > y3) = false := decide_eq_false hgt
              clear hcs hb6
              go_wp2
              go_round
              · exact ⟨k + 1, _, _, _, by omega, by go_num, rfl, rfl, rfl, HST.out⟩
              · simp [intOf]; omega
          · have hlkI : ¬ (k : Int) < (m6 : Int) := by omega
            obtain rfl : k = m6 := by omega
            go_wp2
            go_roundw
            case rel => exact ⟨t + 1, y1, y2, y3, by omega, by go_num, rfl, rfl, rfl, by rw [HNX.out]; exact HR.out, HB7.out⟩
            case measure => simp [intOf]; omega
      · obtain rfl : t = 8 := by omega
        have hr : pk3 n fs gs = (x1, x2, x3) := HRS.out.trans HS.out
        have HRR := Lib.hid hr
        clear hr
        go_wp2_with fail
        rw [HNP.out]
        exact bodyPost_ret (res_tmp4 (t := 6) (u := 7) (v := 8) (x := 9) rfl _ _ _) rfl ⟨by rw [HRR.out, HE.out]; rfl, HB2.out.trans (HB.out.mono HB2.out.size)⟩
end Go.Proofs.YtofcicomhnkocaaGreat
namespace Go.Proofs.YtofcicomhnkocaaGreat
open Go.RowKit Go.Sort
set_option maxRecDepth 100000

set_option maxHeartbeats 3200000 in
theorem specPeak_any (v vf vg : Value) (n : Net) (fs : List Fmt) (gs : List Gro) (w : World) (h : NetR w v n) (hf : Rdt w (flt 2 fmE fs) vf) (hg : Rdt w (flt 6 groE gs) vg) :
    Calls Tryz.prog 30 #[v, vf, vg] w (PkP n fs gs w) := by
  obtain ⟨NP, hNP⟩ : ∃ NP, NP = PkP n fs gs w := ⟨_, rfl⟩
  rw [← hNP]
  have HNP := Lib.hid hNP
  have HP := Lib.hid (fun w' (hb : Below w.heap.size w w') => l26Plan_n v vf vg n fs gs w' (h.behind hb) (hf.behind hb) (hg.behind hb))
  have hnet := h
  obtain ⟨u1, u2, rfl, r1, r2, hsm⟩ := h
  obtain ⟨⟨a1, m1, c1, rfl⟩, -⟩ := slice_of_net hnet
  obtain ⟨a2, m2, c2, rfl, HN2, hc2, hm2, -⟩ := flt_opn (m := 4) (enc := fibE) (fun _ => rfl) (by omega) nilB r2
  obtain ⟨af, mf, cf, rfl, -, -, -, -⟩ := flt_opn (m := 2) (enc := fmE) (fun _ => rfl) (by omega) nilFm hf
  obtain ⟨ag, mg, cg, rfl, -, -, -, -⟩ := flt_opn (m := 6) (enc := groE) (fun _ => rfl) (by omega) nilG hg
  have HSM := Lib.hid (show NetSm n from hsm)
  have HB1 := Lib.hid ((Below.refl w.heap.size w).alloc (Nat.le_refl _) (.cells #[.slice a1 m1 c1, .slice a2 m2 c2] 35))
  have HX1 := Lib.hid (heap_alloc_new w (.cells #[.slice a1 m1 c1, .slice a2 m2 c2] 35))
  clear hnet hf hg hNP r1 r2 hsm
  go_enter Tryz.func30, Tryz.ntmps30
  go_wp2_with fail
  obtain ⟨bx, hbx⟩ : ∃ bx, bx = w.heap.size := ⟨_, rfl⟩
  rw [← hbx] at HX1 ⊢
  clear hbx
  generalize w.alloc (.cells #[.slice a1 m1 c1, .slice a2 m2 c2] 35) = w1 at *
  refine (HP.out w1 HB1.out).mono ?_
  rintro e w2 ⟨b2, aw, ms, cs, a, m, c, rfl, hpl⟩
  have HB2 := Lib.hid (HB1.out.trans (b2.mono HB1.out.size))
  have HX2 := Lib.hid (kept_o' HX1.out b2)
  have HB3 := Lib.hid ((Below.refl w2.heap.size w2).alloc (Nat.le_refl _) (.cells #[.slice aw ms cs, .slice a m c] 95))
  have HB4 := Lib.hid (HB2.out.trans (HB3.out.mono HB2.out.size))
  cases hO : planO n fs gs with
  | none =>
    obtain ⟨-, k2⟩ := planB_no hO
    have HE := Lib.hid (show pkK n fs gs = false by unfold pkK; rw [k2]; rfl)
    rw [k2]
    clear b2 hpl hO k2
    go_wp2
    rw [HNP.out]
    exact bodyPost_ret (res_tmp4 (t := 6) (u := 7) (v := 8) (x := 9) rfl _ _ _) rfl ⟨by unfold pk3; rw [HE.out]; rfl, HB4.out⟩
  | some x =>
    obtain ⟨ps, r⟩ := x
    have k3 := (planB_of hO).2.2
    rw [k3]
    have z1 := blkc HX2.out (j := 1) (u := .slice a2 m2 c2) rfl
    by_cases hz : m2 = 0
    · have HE := Lib.hid (show pkK n fs gs = false by unfold pkK; rw [k3, HN2.out, hz]; rfl)
      have z3 := blkc (kept_o' HX2.out HB3.out) (j := 1) (u := .slice a2 m2 c2) rfl
      subst hz
      clear b2 hpl hO k3
      go_wp2
      rw [HNP.out]
      exact bodyPost_ret (res_tmp4 (t := 6) (u := 7) (v := 8) (x := 9) rfl _ _ _) rfl ⟨by unfold pk3; rw [HE.out]; rfl, HB4.out⟩
    have HE := Lib.hid (show pkK n fs gs = true by unfold pkK; rw [k3, HN2.out]; simp; omega)
    have hzI : ((m2 : Int) == 0) = false := by simp; omega
    obtain ⟨hg8, -, -⟩ := hpl ps r hO
    obtain ⟨hl8, hnok, hlsk⟩ := pls_ok hO
    obtain ⟨bs, offs, cc, es, hbs, HPL⟩ := pls_at hg8 hl8 HSM.out
    cases es
    have HLS := Lib.hid hlsk
    have HNOK := Lib.hid hnok
    have HU := Lib.hid (show ∀ t i, planU n fs gs t i = ((popN (usedN (ps[t]?.getD []) (i : Int)) : Nat) : Int) from fun t i => by unfold planU; rw [hO])
    clear b2 hpl k3 hg8 hl8 hnok hlsk hO
    have HRS := Lib.hid (show pk3 n fs gs = pkA (planU n fs gs) m2 8 (0, 0, 0) by
      unfold pk3; rw [HE.out, if_pos rfl, HN2.out])
    have h14 : m2 ≤ 14 := by have := (netOk_yes HNOK.out).2.2.1; have := HN2.out; omega
    have HUO := Lib.hid (fun t (ht : t < 8) (vp : Value) (k : Nat) w' (hp : PlnR w' vp ⟨n, ps[t]?.getD []⟩) => l9Used_any vp ⟨n, ps[t]?.getD []⟩ (k : Int) w' hp ((HLS.out t ht).lgo HNOK.out))
    have HUT := Lib.hid (fun t (ht : t < 8) (k : Nat) => usedN_lt ((HLS.out t ht).lgo HNOK.out) (k : Int))
    have HX3 := Lib.hid (heap_alloc_new w2 (.cells #[.slice (some ⟨bs, offs, none⟩) 8 cs, .slice a m c] 95))
    have HX5 := Lib.hid (kept_o' HX2.out HB3.out)
    generalize planU n fs gs = U at *
    go_upto_region 2 with fail
    obtain ⟨bq, hbq⟩ : ∃ bq, bq = w2.heap.size := ⟨_, rfl⟩
    rw [← hbq] at HX3 ⊢
    clear hbq
    generalize w2.alloc (.cells #[.slice (some ⟨bs, offs, none⟩) 8 cs, .slice a m c] 95) = w3 at *
    have z3 := blkc HX5.out (j := 1) (u := .slice a2 m2 c2) rfl
    go_wp2_with fail
    clear hzI z1 z3 hz
    have HBS := Lib.hid hbs
    clear hbs
    go_loopw [12, 13, 14, 15] (fun s12 s13 s14 i wr => ∃ (t : Nat) (x1 x2 x3 : Int), t ≤ 8 ∧ i = .int .i64 t ∧ s12 = .int .i64 x1 ∧ s13 = .int .i64 x2 ∧ s14 = .int .i64 x3 ∧ Hid (pkA U m2 t (0, 0, 0) = (x1, x2, x3)) ∧ Hid (Below w3.heap.size w3 wr)) (fun _ _ _ i _ => 8 - (intOf i).toNat)
    case atStart => exact ⟨0, 0, 0, 0, by omega, rfl, rfl, rfl, rfl, rfl, Below.refl _ _⟩
    case round =>
      obtain ⟨t, x1, x2, x3, ht, rfl, rfl, rfl, rfl, HS, HB⟩ := hrel
      by_cases hlt : t < 8
      · have hltI : (t : Int) < 8 := by omega
        obtain ⟨p1, q1, d1, p2, q2, d2, p3, q3, d3, k0, k1, k2, hpr⟩ := HPL.out t hlt
        have HK0 := Lib.hid k0
        have HK1 := Lib.hid k1
        have HK2 := Lib.hid k2
        have HPR := Lib.hid hpr
        have HNX := Lib.hid (show pkA U m2 (t + 1) (0, 0, 0) = pkR (U t) t m2 (x1, x2, x3) by rw [pkA, HS.out])
        have HUT2 := Lib.hid (HU.out t)
        have HUS := Lib.hid (HUO.out t hlt)
        have HUL := Lib.hid (HUT.out t hlt)
        generalize ps[t]?.getD [] = ls at *
        generalize U t = V at HUT2 HNX
        clear k0 k1 k2 hpr
        go_wp2_with fail
        go_loopw [12, 13, 14, 16] (fun s12 s13 s14 i wq => ∃ (k : Nat) (y1 y2 y3 : Int), k ≤ m2 ∧ i = .int .i64 k ∧ s12 = .int .i64 y1 ∧ s13 = .int .i64 y2 ∧ s14 = .int .i64 y3 ∧ Hid (pkR V t k (x1, x2, x3) = (y1, y2, y3)) ∧ Hid (Below w3.heap.size w3 wq)) (fun _ _ _ i _ => m2 - (intOf i).toNat)
        case atStart => exact ⟨0, x1, x2, x3, by omega, rfl, rfl, rfl, rfl, rfl, HB.out⟩
        case round =>
          obtain ⟨k, y1, y2, y3, hk, rfl, rfl, rfl, rfl, HR, HBQ⟩ := hrel
          have z5 := blkc (kept_o' HX5.out HBQ.out) (j := 1) (u := .slice a2 m2 c2) rfl
          by_cases hlk : k < m2
          · have hlkI : (k : Int) < (m2 : Int) := by omega
            have z3 := blkc (kept_o' HX3.out HBQ.out) (j := 0) (u := .slice (some ⟨bs, offs, none⟩) 8 cs) rfl
            have HBW := Lib.hid (HB3.out.trans (HBQ.out.mono HB3.out.size))
            have e0 := (HBW.out.cell (p := ⟨bs, offs + t * 3, none⟩) HBS.out).trans HK0.out
            have e1 := (HBW.out.cell (p := ⟨bs, offs + t * 3 + 1, none⟩) HBS.out).trans HK1.out
            have e2 := (HBW.out.cell (p := ⟨bs, offs + t * 3 + 2, none⟩) HBS.out).trans HK2.out
            have HC1 := Lib.hid (HUS.out _ k wr (HPR.out.behind HBW.out))
            have HM := Lib.hid (HUT2.out k)
            have HML := Lib.hid (HUL.out k)
            have HST := Lib.hid (show pkR V t (k + 1) (x1, x2, x3) = if y3 < V k then ((k : Int), (t : Int), V k) else (y1, y2, y3) by rw [pkR, HR.out])
            try dsimp only at HC1
            generalize usedN ls (k : Int) = M at *
            go_wp2_with fail
            refine HC1.out.mono ?_
            rintro e w7 ⟨rfl, b7⟩
            have HB7 := Lib.hid (HBQ.out.trans (b7.mono HBQ.out.size))
            have HCM := Lib.hid (l8Count_any M HML.out w7)
            clear b7 z5 z3 e0 e1 e2
            rw [← HM.out] at HCM
            generalize V k = u at *
            by_cases hgt : y3 < u
            · rw [if_pos hgt] at HST
              have hgd : decide (u > y3) = true := decide_eq_true hgt
              go_wp2_with (go_at_call 83; refine HCM.out.mono ?_; rintro e w' ⟨rfl, rfl⟩)
              go_roundw
              case rel => exact ⟨k + 1, _, _, _, by omega, by go_num, rfl, rfl, rfl, HST.out, HB7.out⟩
              case measure => simp [intOf]; omega
            · rw [if_neg hgt] at HST
              have hgd : decide (u > y3) = false := decide_eq_false hgt
              go_wp2_with (go_at_call 83; refine HCM.out.mono ?_; rintro e w' ⟨rfl, rfl⟩)
              go_roundw
              case rel => exact ⟨k + 1, _, _, _, by omega, by go_num, rfl, rfl, rfl, HST.out, HB7.out⟩
              case measure => simp [intOf]; omega
          · have hlkI : ¬ (k : Int) < (m2 : Int) := by omega
            obtain rfl : k = m2 := by omega
            go_wp2_with fail
            go_roundw
            case rel => exact ⟨t + 1, y1, y2, y3, by omega, by go_num, rfl, rfl, rfl, by rw [HNX.out]; exact HR.out, HBQ.out⟩
            case measure => simp [intOf]; omega
      · have hltI : ¬ (t : Int) < 8 := by omega
        obtain rfl : t = 8 := by omega
        have hr : pk3 n fs gs = (x1, x2, x3) := HRS.out.trans HS.out
        have HRR := Lib.hid hr
        clear hr
        go_wp2_with fail
        rw [HNP.out]
        exact bodyPost_ret (res_tmp4 (t := 6) (u := 7) (v := 8) (x := 9) rfl _ _ _) rfl ⟨by rw [HRR.out, HE.out]; rfl, HB4.out.trans (HB.out.mono HB4.out.size)⟩
end Go.Proofs.YtofcicomhnkocaaGreat
