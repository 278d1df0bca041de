/- Walks: the program's order of fibers. -/
import Derived.Test.YtphhenlokbodnaaCmp
namespace Go.Proofs.Ytphhenlokbodnaa
open Go.RowKit
set_option maxRecDepth 100000

theorem orI_fib (f g : Fib) : decide (0 < orI [cmpI f.a g.a, cmpI f.b g.b, cmpI f.l g.l, cmpI f.r g.r]) = fibGt f g := by
  have hc : ∀ a b : Int, (a = b ∧ cmpI a b = 0) ∨ (a ≠ b ∧ cmpI a b ≠ 0 ∧ decide (0 < cmpI a b) = decide (b < a)) := by
    intro a b
    unfold cmpI
    by_cases h1 : a < b
    · rw [if_pos h1]; right; refine ⟨by omega, by omega, ?_⟩
      rw [decide_eq_false (show ¬ (0:Int) < -1 by omega), decide_eq_false (show ¬ b < a by omega)]
    · rw [if_neg h1]
      by_cases h2 : b < a
      · rw [if_pos h2]; right; refine ⟨by omega, by omega, ?_⟩
        rw [decide_eq_true h2]; rfl
      · rw [if_neg h2]; left; exact ⟨by omega, rfl⟩
  unfold fibGt
  rcases hc f.a g.a with ⟨e1, z1⟩ | ⟨e1, z1, d1⟩
  · rw [if_neg (by simpa using e1), orI, if_pos z1]
    rcases hc f.b g.b with ⟨e2, z2⟩ | ⟨e2, z2, d2⟩
    · rw [if_neg (by simpa using e2), orI, if_pos z2]
      rcases hc f.l g.l with ⟨e3, z3⟩ | ⟨e3, z3, d3⟩
      · rw [if_neg (by simpa using e3), orI, if_pos z3]
        rcases hc f.r g.r with ⟨e4, z4⟩ | ⟨e4, z4, d4⟩
        · rw [orI, if_pos z4, orI, e4, decide_eq_false (by omega), decide_eq_false (by omega)]
        · rw [orI, if_neg z4, d4]
      · rw [if_pos e3, orI, if_neg z3, d3]
    · rw [if_pos e2, orI, if_neg z2, d2]
  · rw [if_pos e1, orI, if_neg z1, d1]
/-- The order of fibers, as the program has it. -/
def cmpF (f g : Fib) : Int := orI [cmpI f.a g.a, cmpI f.b g.b, cmpI f.l g.l, cmpI f.r g.r]
theorem cmpF_gt (f g : Fib) : decide (0 < cmpF f g) = fibGt f g := orI_fib f g
theorem rd_alloc (w : World) (T : TypeId) (xs : List Int) (h : xs.length ≤ maxLen) : Rd (w.alloc (.cells (ints xs).toArray T)) (.slice (some ⟨w.heap.size, 0, none⟩) xs.length xs.length) xs := by
  refine .inr ⟨w.heap.size, 0, xs.length, rfl, Nat.le_refl _, h, by simp, fun j hj => ?_⟩
  have hn := heap_alloc_new w (.cells (ints xs).toArray T)
  rw [cell_of_row _ _ _ _ _ _ hn]
  simp [hj]
theorem blkc {w : World} {b j : Nat} {us : Array Value} {T : TypeId} {u : Value} (h : w.heap[b]? = some (.cells us T (0, 0))) (hj : us[j]? = some u) : w.cell? ⟨b, j, none⟩ = some u := by
  rw [cell_of_row _ _ _ _ _ _ h, hj]
set_option maxHeartbeats 1600000 in
theorem compareFibers_any (f g : Fib) (w : World) :
    Calls Try.prog 64 #[fibV f, fibV g] w fun e w' => e = .returned (.int .i64 (cmpF f g)) ∧ Below w.heap.size w w' := by
  have HO := Lib.hid (show cmpF f g = orI [cmpI f.a g.a, cmpI f.b g.b, cmpI f.l g.l, cmpI f.r g.r] from rfl)
  generalize cmpF f g = q at *
  obtain ⟨a, b, l, r⟩ := f
  obtain ⟨a', b', l', r'⟩ := g
  unfold fibV
  go_enter Try.func64, Try.ntmps64
  go_wp2
  have hA := heap_alloc_new w (.cells #[.int .i64 a, .int .i64 b, .int .i64 l, .int .i64 r] 94)
  have hA2 := (heap_alloc_old _ (.cells #[.int .i64 a', .int .i64 b', .int .i64 l', .int .i64 r'] 94) (Array.getElem?_eq_some_iff.1 hA).1).trans hA
  have hB2 := heap_alloc_new (w.alloc (.cells #[.int .i64 a, .int .i64 b, .int .i64 l, .int .i64 r] 94)) (.cells #[.int .i64 a', .int .i64 b', .int .i64 l', .int .i64 r'] 94)
  rw [show (w.alloc (.cells #[.int .i64 a, .int .i64 b, .int .i64 l, .int .i64 r] 94)).heap.size = w.heap.size + 1 by simp] at hB2
  have hal := (Below.refl w.heap.size w).alloc (Nat.le_refl _) (.cells #[.int .i64 a, .int .i64 b, .int .i64 l, .int .i64 r] 94)
  have HB := Lib.hid (hal.alloc hal.size (.cells #[.int .i64 a', .int .i64 b', .int .i64 l', .int .i64 r'] 94))
  clear hA hal
  generalize (w.alloc (.cells #[.int .i64 a, .int .i64 b, .int .i64 l, .int .i64 r] 94)).alloc (.cells #[.int .i64 a', .int .i64 b', .int .i64 l', .int .i64 r'] 94) = W at *
  have c0 := blkc hA2 (j := 0) rfl
  have c1 := blkc hA2 (j := 1) rfl
  have c2 := blkc hA2 (j := 2) rfl
  have c3 := blkc hA2 (j := 3) rfl
  have c4 := blkc hB2 (j := 0) rfl
  have c5 := blkc hB2 (j := 1) rfl
  have c6 := blkc hB2 (j := 2) rfl
  have c7 := blkc hB2 (j := 3) rfl
  clear hA2 hB2
  go_still_tail 20, (by kernel_rfl)
  still_call ((compare_any _ _ _).mono fun _ _ h => ⟨h.1, h.2.symm⟩)
  repeat still_step
  still_call ((compare_any _ _ _).mono fun _ _ h => ⟨h.1, h.2.symm⟩)
  repeat still_step
  still_call ((compare_any _ _ _).mono fun _ _ h => ⟨h.1, h.2.symm⟩)
  repeat still_step
  still_call ((compare_any _ _ _).mono fun _ _ h => ⟨h.1, h.2.symm⟩)
  repeat still_step
  refine wpStill_nil ?_
  go_wp2_with fail
  refine (or_any _ [cmpI a a', cmpI b b', cmpI l l', cmpI r r'] _ (show Rd (W.alloc (.cells #[.int .i64 (cmpI a a'), .int .i64 (cmpI b b'), .int .i64 (cmpI l l'), .int .i64 (cmpI r r')] 3)).drew (.slice (some ⟨W.heap.size, 0, none⟩) 4 4) [cmpI a a', cmpI b b', cmpI l l', cmpI r r'] from (rd_alloc W 3 [cmpI a a', cmpI b b', cmpI l l', cmpI r r'] (by show 4 ≤ maxLen; decide)).drew)).mono ?_
  rintro e w' ⟨rfl, rfl⟩
  go_wp2
  go_ret
  exact ⟨by rw [HO.out]; rfl, (HB.out.alloc HB.out.size _).drew⟩
end Go.Proofs.Ytphhenlokbodnaa
