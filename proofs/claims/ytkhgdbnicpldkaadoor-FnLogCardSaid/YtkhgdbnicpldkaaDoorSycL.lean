/- SyncLog: walks and law. -/
import Derived.Test.YtkhgdbnicpldkaaDoorVldL
namespace Go.Proofs.YtkhgdbnicpldkaaDoor
open Go.RowKit

def syS (d p : ByteArray) (n : Int) : ByteArray := if vlB d p n then d ++ p else ⟨#[]⟩
def syN (d p : ByteArray) (n : Int) : Int := if vlB d p n then n else 0
def SyPost (w : World) (d p : ByteArray) (n : Int) (e : Ending) (w' : World) : Prop :=
  e = .returned (.tuple #[.agg #[.string (syS d p n), .string ⟨#[]⟩, .int .i64 (syN d p n)], .bool (vlB d p n)]) ∧ Below w.heap.size w w'
theorem SyPost.t (w : World) (d p : ByteArray) (n : Int) (h : vlB d p n = true) (e : Ending) (w' : World) (he : e = .returned (.tuple #[.agg #[.string (d ++ p), .string ⟨#[]⟩, .int .i64 n], .bool true])) (hb : Below w.heap.size w w') : SyPost w d p n e w' := by
  refine ⟨?_, hb⟩
  unfold syS syN
  rw [h, if_pos rfl, if_pos rfl]
  exact he
theorem SyPost.f (w : World) (d p : ByteArray) (n : Int) (h : vlB d p n = false) (e : Ending) (w' : World) (he : e = .returned (.tuple #[.agg #[.string ⟨#[]⟩, .string ⟨#[]⟩, .int .i64 0], .bool false])) (hb : Below w.heap.size w w') : SyPost w d p n e w' := by
  refine ⟨?_, hb⟩
  unfold syS syN
  rw [h, if_neg (by simp), if_neg (by simp)]
  exact he

set_option maxHeartbeats 3200000 in
set_option maxRecDepth 100000 in
theorem specSy_any (d p : ByteArray) (n : Int) (hs : d.size + p.size ≤ 1048576) (w : World) :
    Calls Tryd.prog 26 #[.agg #[.string d, .string p, .int .i64 n]] w (SyPost w d p n) := by
  have hcat : ¬ 9223372036854775807 < d.size + p.size := by omega
  have hb0 : Below w.heap.size w ((w.alloc (.cells #[.string d, .string p, .int .i64 n] 31)).alloc (.cells #[.string ⟨#[]⟩, .string ⟨#[]⟩, .int .i64 0] 31)) := ((Below.refl _ _).alloc (Nat.le_refl _) _).alloc (by simp) _
  have hs0 : ((w.alloc (.cells #[.string d, .string p, .int .i64 n] 31)).alloc (.cells #[.string ⟨#[]⟩, .string ⟨#[]⟩, .int .i64 0] 31)).heap.size = w.heap.size + 1 + 1 := by simp
  have HL := (fun w => l27Log_any d p n hs w)
  unfold VlPost at HL
  generalize hv : vlB d p n = v at HL
  have HV := Lib.hid hv
  have HL := Lib.hid HL
  clear hv
  go_enter Tryd.func26, Tryd.ntmps26
  go_wp2_with fail
  refine (HL.out _).mono ?_
  rintro e w1 ⟨rfl, b1⟩
  obtain ⟨q1, q2, q3, q4⟩ := cell3 b1
  have q40 := q4 0
  have q41 := q4 1
  have q42 := q4 2
  have hsz0 : (w.alloc (.cells #[.string d, .string p, .int .i64 n] 31)).heap.size = w.heap.size + 1 := by simp
  rw [hsz0] at q1 q2 q3 q40 q41 q42
  have hal := (Below.refl (w.heap.size + 1) (w.alloc (.cells #[.string d, .string p, .int .i64 n] 31))).alloc (by simp) (.cells #[.string ⟨#[]⟩, .string ⟨#[]⟩, .int .i64 0] 31)
  rw [hs0] at b1
  obtain ⟨p1, p2, p3, _⟩ := cell3 (w := w) (w1 := w1) (a := .string d) (b := .string p) (c := .int .i64 n) (T := 31) (by simpa using hal.trans (b1.mono (by omega)))
  have hB1 := Lib.hid (hb0.trans (b1.mono (by omega)))
  clear q4 b1 hb0 hal
  cases v
  · go_wp2
    exact bodyPost_ret (v := .tuple #[.agg #[.string ⟨#[]⟩, .string ⟨#[]⟩, .int .i64 0], .bool false]) (by simp [results, Tryd.results26, go_sem, q1, q2, q3]) rfl (SyPost.f w d p n HV.out _ _ rfl (by repeat (first | exact hB1.out | refine below_set ?_ (by omega))))
  · go_wp2
    exact bodyPost_ret (v := .tuple #[.agg #[.string (d ++ p), .string ⟨#[]⟩, .int .i64 n], .bool true]) (by simp [results, Tryd.results26, go_sem, q1, q2, q3]) rfl (SyPost.t w d p n HV.out _ _ rfl (by repeat (first | exact hB1.out | refine below_set ?_ (by omega))))

set_option maxHeartbeats 3200000 in
set_option maxRecDepth 100000 in
theorem implSy_any (d p : ByteArray) (n : Int) (hs : d.size + p.size ≤ 1048576) (w : World) (ht : TabOk w) (hmx : MaxOk w) :
    Calls Tryd.prog 27 #[.agg #[.string d, .string p, .int .i64 n]] w (SyPost w d p n) := by
  have hcat : ¬ 9223372036854775807 < d.size + p.size := by omega
  have hb0 : Below w.heap.size w ((w.alloc (.cells #[.string d, .string p, .int .i64 n] 31)).alloc (.cells #[.string ⟨#[]⟩, .string ⟨#[]⟩, .int .i64 0] 31)) := ((Below.refl _ _).alloc (Nat.le_refl _) _).alloc (by simp) _
  have hs0 : ((w.alloc (.cells #[.string d, .string p, .int .i64 n] 31)).alloc (.cells #[.string ⟨#[]⟩, .string ⟨#[]⟩, .int .i64 0] 31)).heap.size = w.heap.size + 1 + 1 := by simp
  have HL := (fun w ht hm => implVl_any d p n hs w ht hm)
  unfold VlPost at HL
  generalize hv : vlB d p n = v at HL
  have HV := Lib.hid hv
  have HL := Lib.hid HL
  clear hv
  go_enter Tryd.func27, Tryd.ntmps27
  go_wp2_with fail
  refine (HL.out _ (ht.below hb0) (hmx.below hb0)).mono ?_
  rintro e w1 ⟨rfl, b1⟩
  obtain ⟨q1, q2, q3, q4⟩ := cell3 b1
  have q40 := q4 0
  have q41 := q4 1
  have q42 := q4 2
  have hsz0 : (w.alloc (.cells #[.string d, .string p, .int .i64 n] 31)).heap.size = w.heap.size + 1 := by simp
  rw [hsz0] at q1 q2 q3 q40 q41 q42
  have hal := (Below.refl (w.heap.size + 1) (w.alloc (.cells #[.string d, .string p, .int .i64 n] 31))).alloc (by simp) (.cells #[.string ⟨#[]⟩, .string ⟨#[]⟩, .int .i64 0] 31)
  rw [hs0] at b1
  obtain ⟨p1, p2, p3, _⟩ := cell3 (w := w) (w1 := w1) (a := .string d) (b := .string p) (c := .int .i64 n) (T := 31) (by simpa using hal.trans (b1.mono (by omega)))
  have hB1 := Lib.hid (hb0.trans (b1.mono (by omega)))
  clear q4 b1 hb0 hal
  cases v
  · go_wp2
    exact bodyPost_ret (v := .tuple #[.agg #[.string ⟨#[]⟩, .string ⟨#[]⟩, .int .i64 0], .bool false]) (by simp [results, Tryd.results27, go_sem, q1, q2, q3]) rfl (SyPost.f w d p n HV.out _ _ rfl (by repeat (first | exact hB1.out | refine below_set ?_ (by omega))))
  · go_wp2
    exact bodyPost_ret (v := .tuple #[.agg #[.string (d ++ p), .string ⟨#[]⟩, .int .i64 n], .bool true]) (by simp [results, Tryd.results27, go_sem, q1, q2, q3]) rfl (SyPost.t w d p n HV.out _ _ rfl (by repeat (first | exact hB1.out | refine below_set ?_ (by omega))))

set_option maxHeartbeats 3200000 in
set_option maxRecDepth 100000 in
theorem FnExactSyncLog_walk (d p : ByteArray) (n : Int) (w : World) (hd : d.size ≤ maxLen) (hp : p.size ≤ maxLen) (_hn : (Lit.int .i64 n).wf = true) (ht : TabOk w) (hmx : MaxOk w) :
    Calls Tryd.prog 7 #[.agg #[.string d, .string p, .int .i64 n]] w fun e w' => e = .returned (.bool true) ∧ Below w.heap.size w w' := by
  have hb0 : Below w.heap.size w (w.alloc (.cells #[.string d, .string p, .int .i64 n] 36)) := (Below.refl _ _).alloc (Nat.le_refl _) _
  have q : ∀ w' : World, Below (w.heap.size + 1) (w.alloc (.cells #[.string d, .string p, .int .i64 n] 36)) w' → w'.cell? ⟨w.heap.size, 0, none⟩ = some (.string d) ∧ w'.cell? ⟨w.heap.size, 1, none⟩ = some (.string p) ∧ w'.cell? ⟨w.heap.size, 2, none⟩ = some (.int .i64 n) := fun w' h => by
    obtain ⟨h1, h2, h3, _⟩ := cell3 (w1 := w') (by simpa using h)
    exact ⟨h1, h2, h3⟩
  have HQ := Lib.hid q
  have HTW := Lib.hid (fun w' (hb : Below w.heap.size w w') => ht.below hb)
  have HMW := Lib.hid (fun w' (hb : Below w.heap.size w w') => hmx.below hb)
  have HSZ := Lib.hid (fun w => szLog_any d p n 1048576 hd hp (by omega) (by omega) w)
  have HTO := Lib.hid (fun w => toLog_any d p n w)
  have hs0 : (w.alloc (.cells #[.string d, .string p, .int .i64 n] 36)).heap.size = w.heap.size + 1 := by simp
  clear q ht hmx
  go_enter Tryd.func7, Tryd.ntmps7
  go_wp2_with fail
  refine (HSZ.out _).mono ?_
  rintro e w1 ⟨r, rfl, b1, hr, hr2⟩
  rw [hs0] at b1
  obtain ⟨q1, q2, q3⟩ := HQ.out _ b1
  have hB1 := hb0.trans (b1.mono (by simp))
  have hz1 := b1.size
  rw [hs0] at hz1
  by_cases hneg : r < 0
  · go_wp2
    go_ret
    exact ⟨rfl, hB1⟩
  have hsz := hr (by omega)
  have HS := (fun w => specSy_any d p n (by omega) w)
  have HI := (fun w ht hm => implSy_any d p n (by omega) w ht hm)
  unfold SyPost at HS HI
  have HS := Lib.hid HS
  have HI := Lib.hid HI
  generalize vlB d p n = v at *
  generalize syS d p n = s at *
  generalize syN d p n = k at *
  have e1 : (v != v) = false := by simp
  clear hr
  go_wp2_with fail
  refine (HTO.out _).mono ?_
  rintro e w2 ⟨rfl, b2⟩
  have c2 := b1.trans (b2.mono hz1)
  have hz2 := c2.size
  rw [hs0] at hz2
  have hB2 := hb0.trans (c2.mono (by simp))
  obtain ⟨q1, q2, q3⟩ := HQ.out _ c2
  go_wp2_with fail
  refine (HS.out _).mono ?_
  rintro e w3 ⟨rfl, b3⟩
  have c3' := c2.trans (b3.mono hz2)
  have hz3' := c3'.size
  rw [hs0] at hz3'
  have c3 := c3'.alloc hz3' (.cells #[.string s, .string ⟨#[]⟩, .int .i64 k] 31)
  have hz3 := c3.size
  rw [hs0] at hz3
  have hB3 := hb0.trans (c3.mono (by simp))
  obtain ⟨q1, q2, q3⟩ := HQ.out _ c3
  go_wp2_with fail
  refine (HTO.out _).mono ?_
  rintro e w4 ⟨rfl, b4⟩
  obtain ⟨r1, r2, r3, _⟩ := cell3 b4
  have hl4 : w3.heap.size < w4.heap.size := by have := b4.size; simp at this; omega
  have c4 := c3.trans (b4.mono hz3)
  have hz4 := c4.size
  rw [hs0] at hz4
  have hB4 := hb0.trans (c4.mono (by simp))
  obtain ⟨q1, q2, q3⟩ := HQ.out _ c4
  go_wp2_with fail
  refine (HI.out _ (HTW.out _ hB4) (HMW.out _ hB4)).mono ?_
  rintro e w5 ⟨rfl, b5⟩
  have c5 := c4.trans (b5.mono hz4)
  have hz5 := c5.size
  rw [hs0] at hz5
  have b5' := b5.alloc b5.size (.cells #[.string s, .string ⟨#[]⟩, .int .i64 k] 31)
  have s1 := (b5'.cell (p := ⟨w3.heap.size, 0, none⟩) hl4).trans r1
  have s2 := (b5'.cell (p := ⟨w3.heap.size, 1, none⟩) hl4).trans r2
  have s3 := (b5'.cell (p := ⟨w3.heap.size, 2, none⟩) hl4).trans r3
  have c6 := c5.alloc hz5 (.cells #[.string s, .string ⟨#[]⟩, .int .i64 k] 31)
  have hz6 := c6.size
  rw [hs0] at hz6
  clear b5' r1 r2 r3
  go_wp2_with fail
  refine (eqLog_any _ _ _ _).mono ?_
  rintro e w7 ⟨rfl, b7⟩
  have hB7 := hb0.trans ((c6.trans (b7.mono hz6)).mono (by simp))
  go_wp2
  go_ret
  exact ⟨rfl, hB7⟩
end Go.Proofs.YtkhgdbnicpldkaaDoor
