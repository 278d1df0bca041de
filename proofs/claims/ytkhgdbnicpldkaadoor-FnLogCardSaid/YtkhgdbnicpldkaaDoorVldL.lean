/- The law of IsValidLog. -/
import Derived.Test.YtkhgdbnicpldkaaDoorLogV
namespace Go.Proofs.YtkhgdbnicpldkaaDoor
open Go.RowKit

theorem szLog_any (d p : ByteArray) (n left : Int) (hd : d.size ≤ maxLen) (hp : p.size ≤ maxLen) (h0 : 0 ≤ left) (h1 : left ≤ 1048576) (w : World) :
    Calls Tryd.prog 20 #[.agg #[.string d, .string p, .int .i64 n], .int .i64 left] w fun e w' =>
      ∃ r, e = .returned (.int .i64 r) ∧ Below w.heap.size w w' ∧ (0 ≤ r → (d.size : Int) + p.size + r = left) ∧ r ≤ left := by
  unfold maxLen at hd hp
  have hb0 : Below w.heap.size w (w.alloc (.cells #[.string d, .string p, .int .i64 n] 36)) := (Below.refl _ _).alloc (Nat.le_refl _) _
  by_cases c1 : left - (d.size : Int) < 0
  · go_enter Tryd.func20, Tryd.ntmps20
    go_wp2
    go_ret
    exact ⟨-1, rfl, hb0, fun h => by omega, by omega⟩
  · by_cases c2 : left - (d.size : Int) - (p.size : Int) < 0
    · go_enter Tryd.func20, Tryd.ntmps20
      go_wp2
      go_ret
      exact ⟨-1, rfl, hb0, fun h => by omega, by omega⟩
    · go_enter Tryd.func20, Tryd.ntmps20
      go_wp2
      go_ret
      exact ⟨_, rfl, hb0, fun h => by omega, by omega⟩

theorem toLog_any (d p : ByteArray) (n : Int) (w : World) :
    Calls Tryd.prog 22 #[.agg #[.string d, .string p, .int .i64 n]] w fun e w' =>
      e = .returned (.agg #[.string d, .string p, .int .i64 n]) ∧ Below w.heap.size w w' := by
  go_enter Tryd.func22, Tryd.ntmps22
  go_wp2
  exact bodyPost_ret (v := .agg #[.string d, .string p, .int .i64 n]) (by simp [results, Tryd.results22, go_sem]) rfl ⟨rfl, by refine (((Below.refl _ _).alloc (Nat.le_refl _) _).alloc ?_ _).alloc ?_ _ <;> simp <;> omega⟩

set_option maxHeartbeats 3200000 in
set_option maxRecDepth 100000 in
theorem FnExactIsValidLog_walk (d p : ByteArray) (n : Int) (w : World) (hd : d.size ≤ maxLen) (hp : p.size ≤ maxLen) (_hn : (Lit.int .i64 n).wf = true) (ht : TabOk w) (hmx : MaxOk w) :
    Calls Tryd.prog 5 #[.agg #[.string d, .string p, .int .i64 n]] w fun e w' => e = .returned (.bool true) ∧ Below w.heap.size w w' := by
  have hb0 : Below w.heap.size w (w.alloc (.cells #[.string d, .string p, .int .i64 n] 36)) := (Below.refl _ _).alloc (Nat.le_refl _) _
  have q : ∀ w' : World, Below (w.heap.size + 1) (w.alloc (.cells #[.string d, .string p, .int .i64 n] 36)) w' → w'.cell? ⟨w.heap.size, 0, none⟩ = some (.string d) ∧ w'.cell? ⟨w.heap.size, 1, none⟩ = some (.string p) ∧ w'.cell? ⟨w.heap.size, 2, none⟩ = some (.int .i64 n) := fun w' h => by
    obtain ⟨h1, h2, h3, _⟩ := cell3 (w1 := w') (by simpa using h)
    exact ⟨h1, h2, h3⟩
  have HQ := Lib.hid q
  have HTW := Lib.hid (fun w' (hb : Below w.heap.size w w') => ht.below hb)
  have HMW := Lib.hid (fun w' (hb : Below w.heap.size w w') => hmx.below hb)
  have HSZ := Lib.hid (fun w => szLog_any d p n 1048576 hd hp (by omega) (by omega) w)
  have HTO := Lib.hid (fun w => toLog_any d p n w)
  have hs0 : (w.alloc (.cells #[.string d, .string p, .int .i64 n] 36)).heap.size = w.heap.size + 1 := by simp
  clear q ht hmx
  go_enter Tryd.func5, Tryd.ntmps5
  go_wp2_with fail
  refine (HSZ.out _).mono ?_
  rintro e w1 ⟨r, rfl, b1, hr, hr2⟩
  rw [hs0] at b1
  obtain ⟨q1, q2, q3⟩ := HQ.out _ b1
  have hB1 := hb0.trans (b1.mono (by simp))
  have hz1 := b1.size
  rw [hs0] at hz1
  by_cases hneg : r < 0
  · go_wp2
    go_ret
    exact ⟨rfl, hB1⟩
  have hsz := hr (by omega)
  have HS := Lib.hid (fun w => specVl_any d p n (by omega) w)
  have HI := Lib.hid (fun w ht hm => implVl_any d p n (by omega) w ht hm)
  unfold VlPost at HS HI
  generalize vlB d p n = v at *
  have e1 : (v != v) = false := by simp
  clear hr
  go_wp2_with fail
  refine (HTO.out _).mono ?_
  rintro e w2 ⟨rfl, b2⟩
  have c2 := b1.trans (b2.mono hz1)
  have hz2 := c2.size
  rw [hs0] at hz2
  have hB2 := hb0.trans (c2.mono (by simp))
  obtain ⟨q1, q2, q3⟩ := HQ.out _ c2
  go_wp2_with fail
  refine (HS.out _).mono ?_
  rintro e w3 ⟨rfl, b3⟩
  have c3 := c2.trans (b3.mono hz2)
  have hz3 := c3.size
  rw [hs0] at hz3
  have hB3 := hb0.trans (c3.mono (by simp))
  obtain ⟨q1, q2, q3⟩ := HQ.out _ c3
  go_wp2_with fail
  refine (HTO.out _).mono ?_
  rintro e w4 ⟨rfl, b4⟩
  have c4 := c3.trans (b4.mono hz3)
  have hz4 := c4.size
  rw [hs0] at hz4
  have hB4 := hb0.trans (c4.mono (by simp))
  obtain ⟨q1, q2, q3⟩ := HQ.out _ c4
  go_wp2_with fail
  refine (HI.out _ (HTW.out _ hB4) (HMW.out _ hB4)).mono ?_
  rintro e w5 ⟨rfl, b5⟩
  have c5 := c4.trans (b5.mono hz4)
  have hB5 := hb0.trans (c5.mono (by simp))
  go_wp2
  go_ret
  exact ⟨rfl, hB5⟩
end Go.Proofs.YtkhgdbnicpldkaaDoor
