/- Plain Lean and walks: demands. (Printed by gendem.py.) -/
import Derived.Test.YtphhenlokbodnaaFib
namespace Go.Proofs.Ytphhenlokbodnaa
open Go.RowKit
set_option maxRecDepth 100000

structure Dem where
  a : Int
  b : Int
  r : Int
  c : Int
def demV (d : Dem) : Value := .agg #[.int .i64 d.a, .int .i64 d.b, .int .i64 d.r, .int .i64 d.c]
def demOk (d : Dem) (m : Nat) : Bool := inB d.a 0 ((m : Int) - 1) && inB d.b 0 ((m : Int) - 1) && (d.a != d.b) && inB d.r 1 1000 && inB d.c 0 2
set_option maxHeartbeats 1600000 in
theorem l10Demand_any (a1 a2 : Option Addr) (m c1 n2 c2 : Nat) (d : Dem) (w : World) (hm : m ≤ 1000) :
    Calls Try.prog 59 #[.agg #[.slice a1 m c1, .slice a2 n2 c2], demV d] w fun e w' => e = .returned (.bool (demOk d m)) ∧ Below w.heap.size w w' := by
  obtain ⟨a, b, r, c⟩ := d
  have hal := (Below.refl w.heap.size w).alloc (Nat.le_refl _) (.cells #[.slice a1 m c1, .slice a2 n2 c2] 32)
  have HB := Lib.hid (hal.alloc hal.size (.cells #[.int .i64 a, .int .i64 b, .int .i64 r, .int .i64 c] 67))
  have HF := Lib.hid (show demOk ⟨a, b, r, c⟩ m = (inB a 0 ((m : Int) - 1) && inB b 0 ((m : Int) - 1) && (a != b) && inB r 1 1000 && inB c 0 2) from rfl)
  generalize demOk ⟨a, b, r, c⟩ m = q at *
  unfold demV
  clear hal
  cases h0 : inB a 0 ((m : Int) - 1)
  · rw [h0] at HF
    go_enter Try.func59, Try.ntmps59
    go_wp2_with (go_at_call 48; refine (l1In_any _ _ _ _).mono ?_; rintro e w' ⟨rfl, rfl⟩)
    go_ret
    exact ⟨by rw [HF.out]; rfl, HB.out⟩
  rw [h0] at HF
  cases h1 : inB b 0 ((m : Int) - 1)
  · rw [h1] at HF
    go_enter Try.func59, Try.ntmps59
    go_wp2_with (go_at_call 48; refine (l1In_any _ _ _ _).mono ?_; rintro e w' ⟨rfl, rfl⟩)
    go_ret
    exact ⟨by rw [HF.out]; rfl, HB.out⟩
  rw [h1] at HF
  cases h2 : (a != b)
  · rw [h2] at HF
    go_enter Try.func59, Try.ntmps59
    go_wp2_with (go_at_call 48; refine (l1In_any _ _ _ _).mono ?_; rintro e w' ⟨rfl, rfl⟩)
    go_ret
    exact ⟨by rw [HF.out]; rfl, HB.out⟩
  rw [h2] at HF
  cases h3 : inB r 1 1000
  · rw [h3] at HF
    go_enter Try.func59, Try.ntmps59
    go_wp2_with (go_at_call 48; refine (l1In_any _ _ _ _).mono ?_; rintro e w' ⟨rfl, rfl⟩)
    go_ret
    exact ⟨by rw [HF.out]; rfl, HB.out⟩
  rw [h3] at HF
  go_enter Try.func59, Try.ntmps59
  go_wp2_with (go_at_call 48; refine (l1In_any _ _ _ _).mono ?_; rintro e w' ⟨rfl, rfl⟩)
  go_ret
  exact ⟨by rw [HF.out]; rfl, HB.out⟩
set_option maxHeartbeats 1600000 in
theorem isDemand_any (a1 a2 : Option Addr) (m c1 n2 c2 : Nat) (d : Dem) (w : World) (hm : m ≤ 1000) :
    Calls Try.prog 43 #[.agg #[.slice a1 m c1, .slice a2 n2 c2], demV d] w fun e w' => e = .returned (.bool (demOk d m)) ∧ Below w.heap.size w w' := by
  obtain ⟨a, b, r, c⟩ := d
  have hal := (Below.refl w.heap.size w).alloc (Nat.le_refl _) (.cells #[.slice a1 m c1, .slice a2 n2 c2] 32)
  have HB := Lib.hid (hal.alloc hal.size (.cells #[.int .i64 a, .int .i64 b, .int .i64 r, .int .i64 c] 67))
  have HF := Lib.hid (show demOk ⟨a, b, r, c⟩ m = (inB a 0 ((m : Int) - 1) && inB b 0 ((m : Int) - 1) && (a != b) && inB r 1 1000 && inB c 0 2) from rfl)
  generalize demOk ⟨a, b, r, c⟩ m = q at *
  unfold demV
  clear hal
  cases h0 : inB a 0 ((m : Int) - 1)
  · rw [h0] at HF
    go_enter Try.func43, Try.ntmps43
    go_wp2_with (go_at_call 44; refine (within_any _ _ _ _).mono ?_; rintro e w' ⟨rfl, rfl⟩)
    go_ret
    exact ⟨by rw [HF.out]; rfl, HB.out⟩
  rw [h0] at HF
  cases h1 : inB b 0 ((m : Int) - 1)
  · rw [h1] at HF
    go_enter Try.func43, Try.ntmps43
    go_wp2_with (go_at_call 44; refine (within_any _ _ _ _).mono ?_; rintro e w' ⟨rfl, rfl⟩)
    go_ret
    exact ⟨by rw [HF.out]; rfl, HB.out⟩
  rw [h1] at HF
  cases h2 : (a != b)
  · rw [h2] at HF
    go_enter Try.func43, Try.ntmps43
    go_wp2_with (go_at_call 44; refine (within_any _ _ _ _).mono ?_; rintro e w' ⟨rfl, rfl⟩)
    go_ret
    exact ⟨by rw [HF.out]; rfl, HB.out⟩
  rw [h2] at HF
  cases h3 : inB r 1 1000
  · rw [h3] at HF
    go_enter Try.func43, Try.ntmps43
    go_wp2_with (go_at_call 44; refine (within_any _ _ _ _).mono ?_; rintro e w' ⟨rfl, rfl⟩)
    go_ret
    exact ⟨by rw [HF.out]; rfl, HB.out⟩
  rw [h3] at HF
  go_enter Try.func43, Try.ntmps43
  go_wp2_with (go_at_call 44; refine (within_any _ _ _ _).mono ?_; rintro e w' ⟨rfl, rfl⟩)
  go_ret
  exact ⟨by rw [HF.out]; rfl, HB.out⟩
end Go.Proofs.Ytphhenlokbodnaa
