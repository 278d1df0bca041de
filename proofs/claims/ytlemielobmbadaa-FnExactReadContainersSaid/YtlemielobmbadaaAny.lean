/- slices.ContainsFunc on integers, with a function that captures nothing; areSymbols. -/
import Derived.Test.YtlemielobmbadaaLeavP
import Derived.Test.YtlemielobmbadaaSymW
namespace Go.Proofs.Ytlemielobmbadaa
open Go.RowKit

theorem any_false_take {xs : List Int} {p : Int → Bool} {k : Nat} (hk : k < xs.length) (h : (xs.take k).any p = false) (e : p (xs[k]?.getD 0) = false) : (xs.take (k + 1)).any p = false := by
  rw [take_succ' _ _ hk, List.any_append, h]; simp [e]
theorem any_true_at {xs : List Int} {p : Int → Bool} {k : Nat} (hk : k < xs.length) (e : p (xs[k]?.getD 0) = true) : xs.any p = true := by
  rw [List.any_eq_true]; refine ⟨xs[k], List.getElem_mem hk, ?_⟩; simpa [List.getElem?_eq_getElem hk] using e

/-- What a list's search gives: the first place, or -1. -/
def idxF (xs : List Int) (p : Int → Bool) : Int := match xs.findIdx? p with | some k => k | none => -1
theorem idxF_none {xs : List Int} {p : Int → Bool} (h : xs.any p = false) : idxF xs p = -1 := by
  have : xs.findIdx? p = none := by
    rw [List.findIdx?_eq_none_iff]; simpa [List.any_eq_false] using h
  simp [idxF, this]
theorem idxF_some {xs : List Int} {p : Int → Bool} {k : Nat} (hk : k < xs.length) (h : (xs.take k).any p = false) (e : p (xs[k]?.getD 0) = true) : idxF xs p = k := by
  have : xs.findIdx? p = some k := by
    rw [List.findIdx?_eq_some_iff_getElem]
    refine ⟨hk, by simpa [List.getElem?_eq_getElem hk] using e, fun j hj => ?_⟩
    simp only [List.any_eq_false] at h
    have := h xs[j] (List.mem_take_iff_getElem.2 ⟨j, by omega, by simp⟩)
    simpa using this
  simp [idxF, this]
theorem idxF_geq (xs : List Int) (p : Int → Bool) : decide (0 ≤ idxF xs p) = xs.any p := by
  cases h : xs.findIdx? p with
  | none =>
    rw [List.findIdx?_eq_none_iff] at h
    have : xs.any p = false := by simpa [List.any_eq_false] using h
    rw [this]; simp [idxF_none this]
  | some k =>
    have := h
    rw [List.findIdx?_eq_some_iff_getElem] at h
    obtain ⟨hk, e, _⟩ := h
    have h2 : xs.any p = true := List.any_eq_true.2 ⟨_, List.getElem_mem hk, e⟩
    rw [h2]; simp [idxF, this]

/-- Number F is a function of Go text. -/
def IsFn (F : FuncId) : Prop := ∀ (args : Array Value) (w : World), (callFunc F args).run Try.prog w = .ok (.enter F args) w
theorem isFn_of {F : FuncId} {fn : Func} (h1 : Try.prog.funcs[F]? = some fn) (h2 : (fn.name == "runtime.NumGoroutine") = false) (h3 : fn.body.isNone = false) : IsFn F := by
  intro args w
  unfold callFunc
  simp only [Sem.run_bind, run_program, Result.andThen_ok, h1, h2, h3]
  rfl

set_option maxHeartbeats 800000 in
theorem indexFunc_any (v : Value) (xs : List Int) (F : FuncId) (p : Int → Bool) (w : World) (h : Rd w v xs) (hF : IsFn F)
    (hp : ∀ (x : Int) (w : World), Calls Try.prog F #[.int .i64 x] w fun e w' => e = .returned (.bool (p x)) ∧ w = w') :
    Calls Try.prog 125 #[v, .func (.func F) #[] #[]] w fun e w' => e = .returned (.int .i64 (idxF xs p)) ∧ w = w' := by
  obtain ⟨a, cap, n, HX, rfl, _, hla, ha⟩ := h.opn
  have HP := Lib.hid hp
  clear hp
  have hF := show ∀ (args : Array Value) (w : World), (callFunc F args).run Try.prog w = .ok (.enter F args) w from hF
  have HI := Lib.hid (fun k hk h e => idxF_some (xs := xs) (p := p) (k := k) hk h e)
  have HN := Lib.hid (idxF_none (xs := xs) (p := p))
  generalize idxF xs p = r at *
  go_enter Try.func125, Try.ntmps125
  go_wp2
  go_loop [8] (fun i => ∃ k : Nat, k ≤ n ∧ i = .int .i64 k ∧ Hid ((xs.take k).any p = false)) (fun i => n - (intOf i).toNat)
  case atStart => exact ⟨0, by omega, rfl, by simp [Hid]⟩
  case round =>
    obtain ⟨k, hk, rfl, HT⟩ := hrel
    by_cases hlt : k < n
    · obtain ⟨b, off, rfl, _, hc⟩ := ha (by omega)
      have hcell := hc k hlt
      clear hc
      cases he : p (xs[k]?.getD 0)
      · go_wp2_with fail
        refine (HP.out _ _).mono ?_
        rintro e w' ⟨rfl, rfl⟩
        go_wp2
        go_round
        case rel => exact ⟨k + 1, by omega, by go_num, any_false_take (by rw [HX.out]; exact hlt) HT.out he⟩
        case measure => simp [intOf]; omega
      · go_wp2_with fail
        refine (HP.out _ _).mono ?_
        rintro e w' ⟨rfl, rfl⟩
        go_wp2
        go_ret
        exact ⟨by rw [HI.out k (by rw [HX.out]; exact hlt) HT.out he]; rfl, rfl⟩
    · obtain rfl : k = n := by omega
      have hh := HT.out
      rw [← HX.out, List.take_length] at hh
      have HH := Lib.hid hh
      clear hh
      go_wp2
      go_ret
      exact ⟨by rw [HN.out HH.out]; rfl, rfl⟩

theorem containsFunc_any (v : Value) (xs : List Int) (F : FuncId) (p : Int → Bool) (w : World) (h : Rd w v xs) (hF : IsFn F)
    (hp : ∀ (x : Int) (w : World), Calls Try.prog F #[.int .i64 x] w fun e w' => e = .returned (.bool (p x)) ∧ w = w') :
    Calls Try.prog 107 #[v, .func (.func F) #[] #[]] w fun e w' => e = .returned (.bool (xs.any p)) ∧ w = w' := by
  have HG := Lib.hid (idxF_geq xs p)
  have HC := Lib.hid (indexFunc_any v xs F p w h hF hp)
  clear hp h hF
  generalize idxF xs p = i at *
  generalize xs.any p = r at *
  go_enter Try.func107, Try.ntmps107
  go_wp2_with fail
  refine (HC.out).mono ?_
  rintro e w' ⟨rfl, rfl⟩
  go_wp2
  go_ret
  exact ⟨by rw [← HG.out]; rfl, rfl⟩

theorem notSymbol_any (x : Int) (w : World) : Calls Try.prog 108 #[.int .i64 x] w fun e w' => e = .returned (.bool (!inB x 0 15)) ∧ w = w' := by
  go_enter Try.func108, Try.ntmps108
  go_wp2_with (go_at_call 109; refine (isSymbol_any _ _).mono ?_; rintro e w' ⟨rfl, rfl⟩)
  go_ret
  exact ⟨rfl, rfl⟩

theorem areSymbols_any (v : Value) (xs : List Int) (w : World) (h : Rd w v xs) :
    Calls Try.prog 69 #[v] w fun e w' => e = .returned (.bool (symL xs)) ∧ w = w' := by
  have HS := Lib.hid (show (!(xs.any fun x => !inB x 0 15)) = symL xs from by simp [symL, List.all_eq_not_any_not])
  go_enter Try.func69, Try.ntmps69
  go_wp2_with fail
  refine (containsFunc_any _ xs _ (fun x => !inB x 0 15) _ h (isFn_of Try.func108 (by kernel_rfl) (by kernel_rfl)) notSymbol_any).mono ?_
  rintro e w' ⟨rfl, rfl⟩
  go_wp2
  go_ret
  exact ⟨by rw [← HS.out]; rfl, rfl⟩
end Go.Proofs.Ytlemielobmbadaa
