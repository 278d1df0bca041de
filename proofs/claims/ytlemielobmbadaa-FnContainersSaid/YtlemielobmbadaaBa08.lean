/- Joined: XSymW XAny. -/
import Derived.Test.YtlemielobmbadaaInt
import Derived.Test.YtlemielobmbadaaBa04
import Derived.Test.YtlemielobmbadaaProg
import Derived.WalkKit
import Derived.WalkSpells
import Derived.WalkLawsBesides
import Derived.Deep.QuietTactic
import Derived.BigQuiet
import Derived.Lib.Hide
import Derived.Handy
namespace Go.Proofs.Ytlemielobmbadaa
open Go.RowKit

theorem within_any (n lo hi : Int) (w : World) : Calls Try.prog 68 #[.int .i64 n, .int .i64 lo, .int .i64 hi] w fun e w' => e = .returned (.bool (inB n lo hi)) ∧ w = w' := by
  by_cases h1 : lo ≤ n
  · have hd : decide (lo ≤ n) = true := by simpa using h1
    go_enter Try.func68, Try.ntmps68
    go_wp2
    go_ret
    exact ⟨by simp [inB, h1], rfl⟩
  · have hd : decide (lo ≤ n) = false := by simpa using h1
    go_enter Try.func68, Try.ntmps68
    go_wp2
    go_ret
    exact ⟨by rw [inB, hd]; rfl, rfl⟩

theorem l1In_any (n lo hi : Int) (w : World) : Calls Try.prog 71 #[.int .i64 n, .int .i64 lo, .int .i64 hi] w fun e w' => e = .returned (.bool (inB n lo hi)) ∧ w = w' := by
  by_cases h1 : lo ≤ n
  · have hd : decide (lo ≤ n) = true := by simpa using h1
    go_enter Try.func71, Try.ntmps71
    go_wp2
    go_ret
    exact ⟨by simp [inB, h1], rfl⟩
  · have hd : decide (lo ≤ n) = false := by simpa using h1
    go_enter Try.func71, Try.ntmps71
    go_wp2
    go_ret
    exact ⟨by rw [inB, hd]; rfl, rfl⟩

theorem isSymbol_any (n : Int) (w : World) : Calls Try.prog 109 #[.int .i64 n] w fun e w' => e = .returned (.bool (inB n 0 15)) ∧ w = w' := by
  go_enter Try.func109, Try.ntmps109
  go_wp2_with (go_at_call 68; refine (within_any _ _ _ _).mono ?_; rintro e w' ⟨rfl, rfl⟩)
  go_ret
  exact ⟨rfl, rfl⟩

set_option maxHeartbeats 400000 in
theorem product_any (a b : Int) (w : World) (ha : 0 ≤ a) (ha2 : a ≤ 15) (hb : 0 ≤ b) (hb2 : b ≤ 15) :
    Calls Try.prog 116 #[.int .i64 a, .int .i64 b] w fun e w' => e = .returned (.int .i64 (mulI a b)) ∧ w = w' := by
  obtain ⟨a, rfl⟩ := Int.eq_ofNat_of_zero_le ha
  obtain ⟨b, rfl⟩ := Int.eq_ofNat_of_zero_le hb
  go_enter Try.func116, Try.ntmps116
  go_wp2
  go_loop [5, 8] (fun o i => ∃ (k : Nat), k ≤ 4 ∧ i = .int .i64 k ∧ o = .int .i64 (m1 a b k : Nat)) (fun _ i => 4 - (intOf i).toNat)
  case atStart => exact ⟨0, by omega, rfl, rfl⟩
  case round =>
    obtain ⟨k, hk, rfl, rfl⟩ := hrel
    by_cases hlt : k < 4
    · have hy := m1_yes0 a (by omega) b (by omega) k hlt
      have hn := m1_no0 a (by omega) b (by omega) k hlt
      have HY := Lib.hid hy
      have HN := Lib.hid hn
      clear hy hn
      go_wp2
      · go_round
        case rel => exact ⟨k + 1, by omega, by go_num, by rw [HY.out (by assumption)]⟩
        case measure => simp [intOf]; omega
      · go_round
        case rel => exact ⟨k + 1, by omega, by go_num, by rw [HN.out (by assumption)]⟩
        case measure => simp [intOf]; omega
    · obtain rfl : k = 4 := by omega
      have hl := m1_le0 a (by omega) b (by omega)
      have hM : mulI a b = r1 (m1 a b 4) 3 := rfl
      have HM := Lib.hid hM
      clear hM
      generalize m1 a b 4 = x at *
      go_wp2
      go_loop [5, 7] (fun o i => ∃ (j : Nat), 3 ≤ j ∧ j ≤ 6 ∧ i = .int .i64 j ∧ o = .int .i64 (r1 x (6 - j) : Nat)) (fun _ i => (intOf i).toNat)
      case atStart => exact ⟨6, by omega, by omega, rfl, rfl⟩
      case round =>
        obtain ⟨j, hj, hj2, rfl, rfl⟩ := hrel
        by_cases h4 : 4 ≤ j
        · have hy := r1_yes x hl j (by omega) h4
          have hn := r1_no x hl j (by omega) h4
          have HY := Lib.hid hy
          have HN := Lib.hid hn
          clear hy hn
          go_wp2
          · go_round
            case rel => exact ⟨j - 1, by omega, by omega, int_eq (by omega), by rw [HY.out (by assumption)]⟩
            case measure => simp [intOf]; omega
          · go_round
            case rel => exact ⟨j - 1, by omega, by omega, int_eq (by omega), by rw [HN.out (by assumption)]⟩
            case measure => simp [intOf]; omega
        · obtain rfl : j = 3 := by omega
          go_wp2
          go_ret
          exact ⟨by rw [HM.out]; rfl, rfl⟩

set_option maxHeartbeats 400000 in
theorem times_any (a b : Int) (w : World) (ha : 0 ≤ a) (ha2 : a ≤ 15) (hb : 0 ≤ b) (hb2 : b ≤ 15) :
    Calls Try.prog 127 #[.int .i64 a, .int .i64 b] w fun e w' => e = .returned (.int .i64 (mulI a b)) ∧ w = w' := by
  obtain ⟨a, rfl⟩ := Int.eq_ofNat_of_zero_le ha
  obtain ⟨b, rfl⟩ := Int.eq_ofNat_of_zero_le hb
  go_enter Try.func127, Try.ntmps127
  go_wp2
  go_loop [5, 6] (fun o i => ∃ (k : Nat), k ≤ 4 ∧ i = .int .i64 k ∧ o = .int .i64 (m1 a b k : Nat)) (fun _ i => 4 - (intOf i).toNat)
  case atStart => exact ⟨0, by omega, rfl, rfl⟩
  case round =>
    obtain ⟨k, hk, rfl, rfl⟩ := hrel
    by_cases hlt : k < 4
    · have hy := m1_yes0 a (by omega) b (by omega) k hlt
      have hn := m1_no0 a (by omega) b (by omega) k hlt
      have HY := Lib.hid hy
      have HN := Lib.hid hn
      clear hy hn
      go_wp2
      · go_round
        case rel => exact ⟨k + 1, by omega, by go_num, by rw [HY.out (by assumption)]⟩
        case measure => simp [intOf]; omega
      · go_round
        case rel => exact ⟨k + 1, by omega, by go_num, by rw [HN.out (by assumption)]⟩
        case measure => simp [intOf]; omega
    · obtain rfl : k = 4 := by omega
      have hl := m1_le0 a (by omega) b (by omega)
      have hM : mulI a b = r1 (m1 a b 4) 3 := rfl
      have HM := Lib.hid hM
      clear hM
      generalize m1 a b 4 = x at *
      go_wp2
      go_loop [5, 7] (fun o i => ∃ (j : Nat), 3 ≤ j ∧ j ≤ 6 ∧ i = .int .i64 j ∧ o = .int .i64 (r1 x (6 - j) : Nat)) (fun _ i => (intOf i).toNat)
      case atStart => exact ⟨6, by omega, by omega, rfl, rfl⟩
      case round =>
        obtain ⟨j, hj, hj2, rfl, rfl⟩ := hrel
        by_cases h4 : 4 ≤ j
        · have hy := r1_yes x hl j (by omega) h4
          have hn := r1_no x hl j (by omega) h4
          have HY := Lib.hid hy
          have HN := Lib.hid hn
          clear hy hn
          go_wp2
          · go_round
            case rel => exact ⟨j - 1, by omega, by omega, int_eq (by omega), by rw [HY.out (by assumption)]⟩
            case measure => simp [intOf]; omega
          · go_round
            case rel => exact ⟨j - 1, by omega, by omega, int_eq (by omega), by rw [HN.out (by assumption)]⟩
            case measure => simp [intOf]; omega
        · obtain rfl : j = 3 := by omega
          go_wp2
          go_ret
          exact ⟨by rw [HM.out]; rfl, rfl⟩

set_option maxHeartbeats 400000 in
theorem inverse_any (a : Int) (w : World) (ha : 1 ≤ a) (ha2 : a ≤ 15) :
    Calls Try.prog 118 #[.int .i64 a] w fun e w' => e = .returned (.int .i64 (invI a)) ∧ w = w' := by
  have hi := invI_bd ha ha2
  have hm := invI_mul ha ha2
  have hf := fun b h1 h2 => invI_first ha ha2 b h1 h2
  have HM := Lib.hid hm
  have HF := Lib.hid hf
  clear hm hf
  generalize invI a = v at *
  go_enter Try.func118, Try.ntmps118
  go_wp2
  go_loop [3] (fun i => ∃ (k : Nat), 1 ≤ k ∧ (k : Int) ≤ v ∧ i = .int .i64 k) (fun i => 16 - (intOf i).toNat)
  case atStart => exact ⟨1, by omega, by omega, rfl⟩
  case round =>
    obtain ⟨k, hk1, hk, rfl⟩ := hrel
    by_cases hlt : (k : Int) < v
    · have hne : (mulI a k != 1) = true := by simpa using HF.out k hlt hk1
      go_wp2_with (go_at_call 116; refine (product_any _ _ _ (by omega) (by omega) (by omega) (by omega)).mono ?_; rintro e w' ⟨rfl, rfl⟩)
      go_round
      case rel => exact ⟨k + 1, by omega, by omega, by go_num⟩
      case measure => simp [intOf]; omega
    · obtain rfl : v = (k : Int) := by omega
      have hne : (mulI a k != 1) = false := by simpa using HM.out
      go_wp2_with (go_at_call 116; refine (product_any _ _ _ (by omega) (by omega) (by omega) (by omega)).mono ?_; rintro e w' ⟨rfl, rfl⟩)
      go_ret
      exact ⟨rfl, rfl⟩

set_option maxHeartbeats 400000 in
theorem sinverse_any (a : Int) (w : World) (ha : 1 ≤ a) (ha2 : a ≤ 15) :
    Calls Try.prog 128 #[.int .i64 a] w fun e w' => e = .returned (.int .i64 (invI a)) ∧ w = w' := by
  have hi := invI_bd ha ha2
  have hm := invI_mul ha ha2
  have hf := fun b h1 h2 => invI_first ha ha2 b h1 h2
  have HM := Lib.hid hm
  have HF := Lib.hid hf
  clear hm hf
  generalize invI a = v at *
  go_enter Try.func128, Try.ntmps128
  go_wp2
  go_loop [3] (fun i => ∃ (k : Nat), 1 ≤ k ∧ (k : Int) ≤ v ∧ i = .int .i64 k) (fun i => 16 - (intOf i).toNat)
  case atStart => exact ⟨1, by omega, by omega, rfl⟩
  case round =>
    obtain ⟨k, hk1, hk, rfl⟩ := hrel
    by_cases hlt : (k : Int) < v
    · have hne : (mulI a k == 1) = false := by simpa using HF.out k hlt hk1
      go_wp2_with (go_at_call 127; refine (times_any _ _ _ (by omega) (by omega) (by omega) (by omega)).mono ?_; rintro e w' ⟨rfl, rfl⟩)
      go_round
      case rel => exact ⟨k + 1, by omega, by omega, by go_num⟩
      case measure => simp [intOf]; omega
    · obtain rfl : v = (k : Int) := by omega
      have hne : (mulI a k == 1) = true := by simpa using HM.out
      go_wp2_with (go_at_call 127; refine (times_any _ _ _ (by omega) (by omega) (by omega) (by omega)).mono ?_; rintro e w' ⟨rfl, rfl⟩)
      go_ret
      exact ⟨rfl, rfl⟩

end Go.Proofs.Ytlemielobmbadaa
namespace Go.Proofs.Ytlemielobmbadaa
open Go.RowKit

theorem any_false_take {xs : List Int} {p : Int → Bool} {k : Nat} (hk : k < xs.length) (h : (xs.take k).any p = false) (e : p (xs[k]?.getD 0) = false) : (xs.take (k + 1)).any p = false := by
  rw [take_succ' _ _ hk, List.any_append, h]; simp [e]
theorem any_true_at {xs : List Int} {p : Int → Bool} {k : Nat} (hk : k < xs.length) (e : p (xs[k]?.getD 0) = true) : xs.any p = true := by
  rw [List.any_eq_true]; refine ⟨xs[k], List.getElem_mem hk, ?_⟩; simpa [List.getElem?_eq_getElem hk] using e

/-- What a list's search gives: the first place, or -1. -/
def idxF (xs : List Int) (p : Int → Bool) : Int := match xs.findIdx? p with | some k => k | none => -1
theorem idxF_none {xs : List Int} {p : Int → Bool} (h : xs.any p = false) : idxF xs p = -1 := by
  have : xs.findIdx? p = none := by
    rw [List.findIdx?_eq_none_iff]; simpa [List.any_eq_false] using h
  simp [idxF, this]
theorem idxF_some {xs : List Int} {p : Int → Bool} {k : Nat} (hk : k < xs.length) (h : (xs.take k).any p = false) (e : p (xs[k]?.getD 0) = true) : idxF xs p = k := by
  have : xs.findIdx? p = some k := by
    rw [List.findIdx?_eq_some_iff_getElem]
    refine ⟨hk, by simpa [List.getElem?_eq_getElem hk] using e, fun j hj => ?_⟩
    simp only [List.any_eq_false] at h
    have := h xs[j] (List.mem_take_iff_getElem.2 ⟨j, by omega, by simp⟩)
    simpa using this
  simp [idxF, this]
theorem idxF_geq (xs : List Int) (p : Int → Bool) : decide (0 ≤ idxF xs p) = xs.any p := by
  cases h : xs.findIdx? p with
  | none =>
    rw [List.findIdx?_eq_none_iff] at h
    have : xs.any p = false := by simpa [List.any_eq_false] using h
    rw [this]; simp [idxF_none this]
  | some k =>
    have := h
    rw [List.findIdx?_eq_some_iff_getElem] at h
    obtain ⟨hk, e, _⟩ := h
    have h2 : xs.any p = true := List.any_eq_true.2 ⟨_, List.getElem_mem hk, e⟩
    rw [h2]; simp [idxF, this]

/-- Number F is a function of Go text. -/
def IsFn (F : FuncId) : Prop := ∀ (args : Array Value) (w : World), (callFunc F args).run Try.prog w = .ok (.enter F args) w
theorem isFn_of {F : FuncId} {fn : Func} (h1 : Try.prog.funcs[F]? = some fn) (h2 : (fn.name == "runtime.NumGoroutine") = false) (h3 : fn.body.isNone = false) : IsFn F := by
  intro args w
  unfold callFunc
  simp only [Sem.run_bind, run_program, Result.andThen_ok, h1, h2, h3]
  rfl

set_option maxHeartbeats 800000 in
theorem indexFunc_any (v : Value) (xs : List Int) (F : FuncId) (p : Int → Bool) (w : World) (h : Rd w v xs) (hF : IsFn F)
    (hp : ∀ (x : Int) (w : World), Calls Try.prog F #[.int .i64 x] w fun e w' => e = .returned (.bool (p x)) ∧ w = w') :
    Calls Try.prog 125 #[v, .func (.func F) #[] #[]] w fun e w' => e = .returned (.int .i64 (idxF xs p)) ∧ w = w' := by
  obtain ⟨a, cap, n, HX, rfl, _, hla, ha⟩ := h.opn
  have HP := Lib.hid hp
  clear hp
  have hF := show ∀ (args : Array Value) (w : World), (callFunc F args).run Try.prog w = .ok (.enter F args) w from hF
  have HI := Lib.hid (fun k hk h e => idxF_some (xs := xs) (p := p) (k := k) hk h e)
  have HN := Lib.hid (idxF_none (xs := xs) (p := p))
  generalize idxF xs p = r at *
  go_enter Try.func125, Try.ntmps125
  go_wp2
  go_loop [8] (fun i => ∃ k : Nat, k ≤ n ∧ i = .int .i64 k ∧ Hid ((xs.take k).any p = false)) (fun i => n - (intOf i).toNat)
  case atStart => exact ⟨0, by omega, rfl, by simp [Hid]⟩
  case round =>
    obtain ⟨k, hk, rfl, HT⟩ := hrel
    by_cases hlt : k < n
    · obtain ⟨b, off, rfl, _, hc⟩ := ha (by omega)
      have hcell := hc k hlt
      clear hc
      cases he : p (xs[k]?.getD 0)
      · go_wp2_with fail
        refine (HP.out _ _).mono ?_
        rintro e w' ⟨rfl, rfl⟩
        go_wp2
        go_round
        case rel => exact ⟨k + 1, by omega, by go_num, any_false_take (by rw [HX.out]; exact hlt) HT.out he⟩
        case measure => simp [intOf]; omega
      · go_wp2_with fail
        refine (HP.out _ _).mono ?_
        rintro e w' ⟨rfl, rfl⟩
        go_wp2
        go_ret
        exact ⟨by rw [HI.out k (by rw [HX.out]; exact hlt) HT.out he]; rfl, rfl⟩
    · obtain rfl : k = n := by omega
      have hh := HT.out
      rw [← HX.out, List.take_length] at hh
      have HH := Lib.hid hh
      clear hh
      go_wp2
      go_ret
      exact ⟨by rw [HN.out HH.out]; rfl, rfl⟩

theorem containsFunc_any (v : Value) (xs : List Int) (F : FuncId) (p : Int → Bool) (w : World) (h : Rd w v xs) (hF : IsFn F)
    (hp : ∀ (x : Int) (w : World), Calls Try.prog F #[.int .i64 x] w fun e w' => e = .returned (.bool (p x)) ∧ w = w') :
    Calls Try.prog 107 #[v, .func (.func F) #[] #[]] w fun e w' => e = .returned (.bool (xs.any p)) ∧ w = w' := by
  have HG := Lib.hid (idxF_geq xs p)
  have HC := Lib.hid (indexFunc_any v xs F p w h hF hp)
  clear hp h hF
  generalize idxF xs p = i at *
  generalize xs.any p = r at *
  go_enter Try.func107, Try.ntmps107
  go_wp2_with fail
  refine (HC.out).mono ?_
  rintro e w' ⟨rfl, rfl⟩
  go_wp2
  go_ret
  exact ⟨by rw [← HG.out]; rfl, rfl⟩

theorem notSymbol_any (x : Int) (w : World) : Calls Try.prog 108 #[.int .i64 x] w fun e w' => e = .returned (.bool (!inB x 0 15)) ∧ w = w' := by
  go_enter Try.func108, Try.ntmps108
  go_wp2_with (go_at_call 109; refine (isSymbol_any _ _).mono ?_; rintro e w' ⟨rfl, rfl⟩)
  go_ret
  exact ⟨rfl, rfl⟩

theorem areSymbols_any (v : Value) (xs : List Int) (w : World) (h : Rd w v xs) :
    Calls Try.prog 69 #[v] w fun e w' => e = .returned (.bool (symL xs)) ∧ w = w' := by
  have HS := Lib.hid (show (!(xs.any fun x => !inB x 0 15)) = symL xs from by simp [symL, List.all_eq_not_any_not])
  go_enter Try.func69, Try.ntmps69
  go_wp2_with fail
  refine (containsFunc_any _ xs _ (fun x => !inB x 0 15) _ h (isFn_of Try.func108 (by kernel_rfl) (by kernel_rfl)) notSymbol_any).mono ?_
  rintro e w' ⟨rfl, rfl⟩
  go_wp2
  go_ret
  exact ⟨by rw [← HS.out]; rfl, rfl⟩
end Go.Proofs.Ytlemielobmbadaa
