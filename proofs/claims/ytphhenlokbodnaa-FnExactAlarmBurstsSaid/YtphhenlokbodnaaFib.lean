/- Plain Lean and walks: fibers. -/
import Derived.Test.YtphhenlokbodnaaNamF
namespace Go.Proofs.Ytphhenlokbodnaa
open Go.RowKit
set_option maxRecDepth 100000

structure Fib where
  a : Int
  b : Int
  l : Int
  r : Int
def nilB : Fib := ⟨0, 0, 0, 0⟩
def fibE (f : Fib) : List Value := [.int .i64 f.a, .int .i64 f.b, .int .i64 f.l, .int .i64 f.r]
def fibV (f : Fib) : Value := .agg #[.int .i64 f.a, .int .i64 f.b, .int .i64 f.l, .int .i64 f.r]
def fibOk (f : Fib) (m : Nat) : Bool := inB f.a 0 ((m : Int) - 1) && inB f.b (f.a + 1) ((m : Int) - 1) && inB f.l 1 5000 && inB f.r 0 9
set_option maxHeartbeats 1600000 in
theorem l2Fiber_any (f : Fib) (m : Nat) (w : World) (hm : m ≤ 1000) :
    Calls Try.prog 73 #[fibV f, .int .i64 (m : Int)] w fun e w' => e = .returned (.bool (fibOk f m)) ∧ Below w.heap.size w w' := by
  obtain ⟨a, b, l, r⟩ := f
  have HB := Lib.hid ((Below.refl w.heap.size w).alloc (Nat.le_refl _) (.cells #[.int .i64 a, .int .i64 b, .int .i64 l, .int .i64 r] 94))
  have HF := Lib.hid (show fibOk ⟨a, b, l, r⟩ m = (inB a 0 ((m : Int) - 1) && inB b (a + 1) ((m : Int) - 1) && inB l 1 5000 && inB r 0 9) from rfl)
  generalize fibOk ⟨a, b, l, r⟩ m = q at *
  unfold fibV
  cases h1 : inB a 0 ((m : Int) - 1)
  · rw [h1] at HF
    go_enter Try.func73, Try.ntmps73
    go_wp2_with (go_at_call 48; refine (l1In_any _ _ _ _).mono ?_; rintro e w' ⟨rfl, rfl⟩)
    go_ret
    exact ⟨by rw [HF.out]; rfl, HB.out⟩
  rw [h1] at HF
  have hb1 := inB_true h1
  cases h2 : inB b (a + 1) ((m : Int) - 1)
  · rw [h2] at HF
    go_enter Try.func73, Try.ntmps73
    go_wp2_with (go_at_call 48; refine (l1In_any _ _ _ _).mono ?_; rintro e w' ⟨rfl, rfl⟩)
    go_ret
    exact ⟨by rw [HF.out]; rfl, HB.out⟩
  rw [h2] at HF
  cases h3 : inB l 1 5000
  · rw [h3] at HF
    go_enter Try.func73, Try.ntmps73
    go_wp2_with (go_at_call 48; refine (l1In_any _ _ _ _).mono ?_; rintro e w' ⟨rfl, rfl⟩)
    go_ret
    exact ⟨by rw [HF.out]; rfl, HB.out⟩
  rw [h3] at HF
  go_enter Try.func73, Try.ntmps73
  go_wp2_with (go_at_call 48; refine (l1In_any _ _ _ _).mono ?_; rintro e w' ⟨rfl, rfl⟩)
  go_ret
  exact ⟨by rw [HF.out]; rfl, HB.out⟩
/-- The order of fibers: behind. -/
def fibGt (f g : Fib) : Bool := if f.a ≠ g.a then decide (g.a < f.a) else if f.b ≠ g.b then decide (g.b < f.b) else if f.l ≠ g.l then decide (g.l < f.l) else decide (g.r < f.r)
def smallF (f : Fib) : Prop := (-100000 ≤ f.a ∧ f.a ≤ 100000) ∧ (-100000 ≤ f.b ∧ f.b ≤ 100000) ∧ (-100000 ≤ f.l ∧ f.l ≤ 100000) ∧ (-100000 ≤ f.r ∧ f.r ≤ 100000)
/-- The order of fibers, as the reference has it. -/
def befF (f g : Fib) : Int := if f.a ≠ g.a then f.a - g.a else if f.b ≠ g.b then f.b - g.b else if f.l ≠ g.l then f.l - g.l else f.r - g.r
theorem befF_gt (f g : Fib) : decide (0 < befF f g) = fibGt f g := by
  unfold befF fibGt
  by_cases e1 : f.a ≠ g.a
  · rw [if_pos e1, if_pos e1]; congr 1; simp only [eq_iff_iff]; omega
  · rw [if_neg e1, if_neg e1]
    by_cases e2 : f.b ≠ g.b
    · rw [if_pos e2, if_pos e2]; congr 1; simp only [eq_iff_iff]; omega
    · rw [if_neg e2, if_neg e2]
      by_cases e3 : f.l ≠ g.l
      · rw [if_pos e3, if_pos e3]; congr 1; simp only [eq_iff_iff]; omega
      · rw [if_neg e3, if_neg e3]; congr 1; simp only [eq_iff_iff]; omega
set_option maxHeartbeats 1600000 in
theorem l2Before_any (f g : Fib) (w : World) (hf : smallF f) (hg : smallF g) :
    Calls Try.prog 74 #[fibV f, fibV g] w fun e w' => e = .returned (.int .i64 (befF f g)) ∧ Below w.heap.size w w' := by
  obtain ⟨a, b, l, r⟩ := f
  obtain ⟨a', b', l', r'⟩ := g
  obtain ⟨a1, b1, l1, r1⟩ := hf
  obtain ⟨a2, b2, l2, r2⟩ := hg
  simp only at a1 b1 l1 r1 a2 b2 l2 r2
  have hal := (Below.refl w.heap.size w).alloc (Nat.le_refl _) (.cells #[.int .i64 a, .int .i64 b, .int .i64 l, .int .i64 r] 94)
  have HB := Lib.hid (hal.alloc hal.size (.cells #[.int .i64 a', .int .i64 b', .int .i64 l', .int .i64 r'] 94))
  have HD := Lib.hid (show ∀ d : Int, (if a ≠ a' then d = a - a' else if b ≠ b' then d = b - b' else if l ≠ l' then d = l - l' else d = r - r') → befF ⟨a, b, l, r⟩ ⟨a', b', l', r'⟩ = d from by
    intro d h
    unfold befF
    simp only
    split at h
    · rename_i e
      rw [if_pos e]; exact h.symm
    · rename_i e
      rw [if_neg e]
      split at h
      · rename_i e2
        rw [if_pos e2]; exact h.symm
      · rename_i e2
        rw [if_neg e2]
        split at h
        · rename_i e3
          rw [if_pos e3]; exact h.symm
        · rename_i e3
          rw [if_neg e3]; exact h.symm)
  generalize befF ⟨a, b, l, r⟩ ⟨a', b', l', r'⟩ = q at *
  unfold fibV
  clear hal
  by_cases e1 : a = a'
  case neg =>
    have e1b : (a != a') = true := by rw [bne_iff_ne]; exact e1
    have HX := Lib.hid (HD.out (a - a') (by rw [if_pos e1]))
    clear e1
    go_enter Try.func74, Try.ntmps74
    go_wp2
    go_ret
    exact ⟨by rw [HX.out]; rfl, HB.out⟩
  have e1b : (a != a') = false := by simp [e1]
  by_cases e2 : b = b'
  case neg =>
    have e2b : (b != b') = true := by rw [bne_iff_ne]; exact e2
    have HX := Lib.hid (HD.out (b - b') (by rw [if_neg (by simpa using e1), if_pos e2]))
    clear e1 e2
    go_enter Try.func74, Try.ntmps74
    go_wp2
    go_ret
    exact ⟨by rw [HX.out]; rfl, HB.out⟩
  have e2b : (b != b') = false := by simp [e2]
  by_cases e3 : l = l'
  case neg =>
    have e3b : (l != l') = true := by rw [bne_iff_ne]; exact e3
    have HX := Lib.hid (HD.out (l - l') (by rw [if_neg (by simpa using e1), if_neg (by simpa using e2), if_pos e3]))
    clear e1 e2 e3
    go_enter Try.func74, Try.ntmps74
    go_wp2
    go_ret
    exact ⟨by rw [HX.out]; rfl, HB.out⟩
  have e3b : (l != l') = false := by simp [e3]
  have HX := Lib.hid (HD.out (r - r') (by rw [if_neg (by simpa using e1), if_neg (by simpa using e2), if_neg (by simpa using e3)]))
  clear e1 e2 e3
  go_enter Try.func74, Try.ntmps74
  go_wp2
  go_ret
  exact ⟨by rw [HX.out]; rfl, HB.out⟩
end Go.Proofs.Ytphhenlokbodnaa
