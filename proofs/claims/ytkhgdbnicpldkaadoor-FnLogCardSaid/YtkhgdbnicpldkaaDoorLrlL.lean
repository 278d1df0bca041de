/- LogRecords: walks and law. -/
import Derived.Test.YtkhgdbnicpldkaaDoorVldL
import Derived.Test.YtkhgdbnicpldkaaDoorLrcW
namespace Go.Proofs.YtkhgdbnicpldkaaDoor
open Go.RowKit

def lrL (d p : ByteArray) (n : Int) : List (L × L) := if vlB d p n then (finR (d.data.toList ++ p.data.toList)).1 else []
def LrPost (w : World) (d p : ByteArray) (n : Int) (e : Ending) (w' : World) : Prop :=
  ∃ v, e = .returned (.tuple #[v, .bool (vlB d p n)]) ∧ w'.ownsRow w.heap.size 27 2 v (lrL d p n).length (recC (lrL d p n)) ∧ (lrL d p n).length ≤ 60 ∧ Below w.heap.size w w'
theorem LrPost.f {w w' : World} {d p : ByteArray} {n : Int} {e : Ending} {v : Value} (h : vlB d p n = false) (he : e = .returned (.tuple #[v, .bool false])) (ho : w'.ownsRow w.heap.size 27 2 v 0 (recC [])) (hb : Below w.heap.size w w') : LrPost w d p n e w' := by
  have e : lrL d p n = [] := by unfold lrL; rw [h]; rfl
  refine ⟨v, by rw [h]; exact he, ?_, ?_, hb⟩ <;> rw [e]
  · exact ho
  · simp
theorem LrPost.t {w w' : World} {d p : ByteArray} {n : Int} {e : Ending} {v : Value} (h : vlB d p n = true) (he : e = .returned (.tuple #[v, .bool true])) (ho : w'.ownsRow w.heap.size 27 2 v (finR (d.data.toList ++ p.data.toList)).1.length (recC (finR (d.data.toList ++ p.data.toList)).1)) (h60 : (finR (d.data.toList ++ p.data.toList)).1.length ≤ 60) (hb : Below w.heap.size w w') : LrPost w d p n e w' := by
  have e : lrL d p n = (finR (d.data.toList ++ p.data.toList)).1 := by unfold lrL; rw [h]; rfl
  refine ⟨v, by rw [h]; exact he, ?_, ?_, hb⟩ <;> rw [e]
  · exact ho
  · exact h60
theorem row_mono {w : World} {base base' : Nat} {e : TypeId} {size : Nat} {v : Value} {n : Nat} {xs : List Value} (h : w.ownsRow base e size v n xs) (hb : base' ≤ base) : w.ownsRow base' e size v n xs := by
  refine ⟨h.1, ?_⟩
  rcases h.2 with h | ⟨g, cap, cur, rfl, h1, h2⟩
  · exact .inl h
  · exact .inr ⟨g, cap, cur, rfl, by omega, h2⟩

set_option maxHeartbeats 3200000 in
set_option maxRecDepth 100000 in
theorem specLr_any (d p : ByteArray) (n : Int) (hs : d.size + p.size ≤ 1048576) (w : World) :
    Calls Tryd.prog 30 #[.agg #[.string d, .string p, .int .i64 n]] w (LrPost w d p n) := by
  have hb0 : Below w.heap.size w (w.alloc (.cells #[.string d, .string p, .int .i64 n] 31)) := (Below.refl _ _).alloc (Nat.le_refl _) _
  have hs0 : (w.alloc (.cells #[.string d, .string p, .int .i64 n] 31)).heap.size = w.heap.size + 1 := by simp
  have HL := (fun w => l27Log_any d p n hs w)
  unfold VlPost at HL
  generalize hv : vlB d p n = v at HL
  have HV := Lib.hid hv
  have HL := Lib.hid HL
  have HOP := (fun w => l27Open_any (d ++ p) (by rw [cat_size]; omega) w)
  rw [cat_data] at HOP
  have HOP := Lib.hid HOP
  have hcat : ¬ 9223372036854775807 < d.size + p.size := by omega
  clear hv
  go_enter Tryd.func30, Tryd.ntmps30
  go_wp2_with fail
  refine (HL.out _).mono ?_
  rintro e w1 ⟨rfl, b1⟩
  obtain ⟨q1, q2, q3, _⟩ := cell3 b1
  have hB1 := Lib.hid (hb0.trans (b1.mono (by omega)))
  have hz1 : w.heap.size ≤ w1.heap.size := hB1.out.size
  clear b1 hb0
  cases v
  · have h0 : (w1.alloc (.cells #[] 27)).ownsRow w.heap.size 27 2 (.slice (some ⟨w1.heap.size, 0, none⟩) 0 0) 0 (recC []) :=
      World.ownsRow_lit (base := w.heap.size) (e := 27) (size := 2) w1 #[] 0 hz1 (by simp) rfl
    go_wp2
    go_ret2
    exact LrPost.f HV.out rfl h0 (hB1.out.alloc hz1 _)
  · go_wp2_with fail
    refine (HOP.out _).mono ?_
    rintro e w2 ⟨v1, rfl, o1, _, h60, b2⟩
    have hB2 := Lib.hid (hB1.out.trans (b2.mono hz1))
    have HO := Lib.hid (row_mono o1 hz1)
    clear o1 b2
    go_wp2
    go_ret2
    exact LrPost.t HV.out rfl HO.out h60 hB2.out

set_option maxHeartbeats 3200000 in
set_option maxRecDepth 100000 in
theorem implLr_any (d p : ByteArray) (n : Int) (hs : d.size + p.size ≤ 1048576) (w : World) (ht : TabOk w) (hmx : MaxOk w) :
    Calls Tryd.prog 31 #[.agg #[.string d, .string p, .int .i64 n]] w (LrPost w d p n) := by
  have hb0 : Below w.heap.size w (w.alloc (.cells #[.string d, .string p, .int .i64 n] 31)) := (Below.refl _ _).alloc (Nat.le_refl _) _
  have hs0 : (w.alloc (.cells #[.string d, .string p, .int .i64 n] 31)).heap.size = w.heap.size + 1 := by simp
  have HL := (fun w ht hm => implVl_any d p n hs w ht hm)
  unfold VlPost at HL
  generalize hv : vlB d p n = v at HL
  have HV := Lib.hid hv
  have HL := Lib.hid HL
  have HOP := (fun w ht hm => readRecords_any (d ++ p) (by rw [cat_size]; omega) w ht hm)
  rw [cat_data] at HOP
  have HOP := Lib.hid HOP
  have hcat : ¬ 9223372036854775807 < d.size + p.size := by omega
  have HT := Lib.hid (ht.below hb0)
  have HM := Lib.hid (hmx.below hb0)
  have HTW := Lib.hid (fun w' (hb : Below w.heap.size w w') => ht.below hb)
  have HMW := Lib.hid (fun w' (hb : Below w.heap.size w w') => hmx.below hb)
  clear hv ht hmx
  go_enter Tryd.func31, Tryd.ntmps31
  go_wp2_with fail
  refine (HL.out _ HT.out HM.out).mono ?_
  rintro e w1 ⟨rfl, b1⟩
  obtain ⟨q1, q2, q3, _⟩ := cell3 b1
  have hB1 := Lib.hid (hb0.trans (b1.mono (by omega)))
  have hz1 : w.heap.size ≤ w1.heap.size := hB1.out.size
  clear b1 hb0
  cases v
  · go_wp2
    go_ret2
    exact LrPost.f HV.out rfl (World.ownsRow_nil _ _ _ _) hB1.out
  · go_wp2_with fail
    refine (HOP.out _ (HTW.out _ hB1.out) (HMW.out _ hB1.out)).mono ?_
    rintro e w2 ⟨v1, v2, rfl, o1, _, _, _, _, h60, b2⟩
    have hB2 := Lib.hid (hB1.out.trans (b2.mono hz1))
    have HO := Lib.hid (row_mono o1 hz1)
    clear o1 b2
    go_wp2
    go_ret2
    exact LrPost.t HV.out rfl HO.out h60 hB2.out

set_option maxHeartbeats 3200000 in
set_option maxRecDepth 100000 in
theorem FnExactLogRecords_walk (d p : ByteArray) (n : Int) (w : World) (hd : d.size ≤ maxLen) (hp : p.size ≤ maxLen) (_hn : (Lit.int .i64 n).wf = true) (ht : TabOk w) (hmx : MaxOk w) :
    Calls Tryd.prog 9 #[.agg #[.string d, .string p, .int .i64 n]] w fun e w' => e = .returned (.bool true) ∧ Below w.heap.size w w' := by
  have hb0 : Below w.heap.size w (w.alloc (.cells #[.string d, .string p, .int .i64 n] 36)) := (Below.refl _ _).alloc (Nat.le_refl _) _
  have q : ∀ w' : World, Below (w.heap.size + 1) (w.alloc (.cells #[.string d, .string p, .int .i64 n] 36)) w' → w'.cell? ⟨w.heap.size, 0, none⟩ = some (.string d) ∧ w'.cell? ⟨w.heap.size, 1, none⟩ = some (.string p) ∧ w'.cell? ⟨w.heap.size, 2, none⟩ = some (.int .i64 n) := fun w' h => by
    obtain ⟨h1, h2, h3, _⟩ := cell3 (w1 := w') (by simpa using h)
    exact ⟨h1, h2, h3⟩
  have HQ := Lib.hid q
  have HTW := Lib.hid (fun w' (hb : Below w.heap.size w w') => ht.below hb)
  have HMW := Lib.hid (fun w' (hb : Below w.heap.size w w') => hmx.below hb)
  have HSZ := Lib.hid (fun w => szLog_any d p n 1048576 hd hp (by omega) (by omega) w)
  have HTO := Lib.hid (fun w => toLog_any d p n w)
  have HTO2 := HTO
  have HTW2 := HTW
  have HMW2 := HMW
  have hs0 : (w.alloc (.cells #[.string d, .string p, .int .i64 n] 36)).heap.size = w.heap.size + 1 := by simp
  have HB0 := Lib.hid (fun w' (h : Below (w.heap.size + 1) (w.alloc (.cells #[.string d, .string p, .int .i64 n] 36)) w') => hb0.trans (h.mono (by simp)))
  clear q ht hmx hb0
  go_enter Tryd.func9, Tryd.ntmps9
  go_wp2_with fail
  refine (HSZ.out _).mono ?_
  rintro e w1 ⟨r, rfl, b1, hr, hr2⟩
  rw [hs0] at b1
  obtain ⟨q1, q2, q3⟩ := HQ.out _ b1
  have hz1 := b1.size
  rw [hs0] at hz1
  by_cases hneg : r < 0
  · have HB1 := Lib.hid (HB0.out _ b1)
    clear b1
    go_wp2
    go_ret
    exact ⟨rfl, HB1.out⟩
  have hsz := hr (by omega)
  have HS := fun w => specLr_any d p n (by omega) w
  have HI := fun w ht hm => implLr_any d p n (by omega) w ht hm
  unfold LrPost at HS HI
  have HS := Lib.hid HS
  have HI := Lib.hid HI
  generalize vlB d p n = v at *
  generalize lrL d p n = rs at *
  have e1 : (v != v) = false := by simp
  clear hr
  go_wp2_with fail
  refine (HTO.out _).mono ?_
  rintro e w2 ⟨rfl, b2⟩
  have c2 := b1.trans (b2.mono hz1)
  have hz2 := c2.size
  rw [hs0] at hz2
  obtain ⟨q1, q2, q3⟩ := HQ.out _ c2
  go_wp2_with fail
  refine (HS.out _).mono ?_
  rintro e w3 ⟨vw, rfl, ow, h60, b3⟩
  have c3 := c2.trans (b3.mono hz2)
  have hz3 := c3.size
  rw [hs0] at hz3
  obtain ⟨q1, q2, q3⟩ := HQ.out _ c3
  go_wp2_with fail
  refine (HTO.out _).mono ?_
  rintro e w4 ⟨rfl, b4⟩
  have c4 := c3.trans (b4.mono hz3)
  have hz4 := c4.size
  rw [hs0] at hz4
  have ow := row_below ow b4
  obtain ⟨q1, q2, q3⟩ := HQ.out _ c4
  go_wp2_with fail
  refine (HI.out _ (HTW.out _ (HB0.out _ c4)) (HMW.out _ (HB0.out _ c4))).mono ?_
  rintro e w5 ⟨vg, rfl, og, _, b5⟩
  have c5 := c4.trans (b5.mono hz4)
  have hz5 := c5.size
  rw [hs0] at hz5
  have ow := row_below ow b5
  have hwl := Lib.hid (fun k hk => (ow.lt k hk).2)
  have HN := Lib.hid (show ∀ k, vg.ownBlock = some k → w4.heap.size ≤ k from fun k hk => (og.lt k hk).1)
  have HWL4 := Lib.hid (show ∀ k, vw.ownBlock = some k → k < w4.heap.size from fun k hk => (‹w4.ownsRow w2.heap.size 27 2 vw rs.length (recC rs)›.lt k hk).2)
  obtain ⟨m, hm⟩ : ∃ m, rs.length = m := ⟨_, rfl⟩
  rw [hm] at ow og h60
  obtain ⟨aw, cw, rfl⟩ := row_form ow
  obtain ⟨ag, cg, rfl⟩ := row_form og
  have OW := Lib.hid ow
  have OG := Lib.hid og
  have C5 := Lib.hid c5
  have HEQ := Lib.hid (fun w va vb (ha : RRd w va rs) (hb : RRd w vb rs) => eqRecS_any va vb rs w ha hb)
  have HRR := Lib.hid (fun (w : World) base v (h : w.ownsRow base 27 2 v m (recC rs)) => (rrd_of h (by omega)).1)
  obtain ⟨mm, hmm⟩ : ∃ mm, 1 + 2 * m = mm := ⟨_, rfl⟩
  have HMK := (fun (w : World) base v xs (h : w.ownsRow base 27 2 v m xs) => markRecS_any v m 1 base xs w h (by omega) (by omega) (by omega))
  have HHD := (fun (w : World) base v (h : w.ownsRow base 27 2 v m (mkC 1 (2 * m))) => heldRecS_any v m 1 base w h (by omega) (by omega) (by omega))
  rw [hmm] at HMK HHD
  have HMK := Lib.hid HMK
  have HHD := Lib.hid HHD
  have hmn : ¬ (mm : Int) < 0 := by omega
  have hme : ((mm : Int) != (mm : Int)) = false := by simp
  have HM := Lib.hid hm
  clear hm hmm ow og c5 b5 b4 b3 b2 c2 c3 c4 b1 hneg HTO HTW HMW hwl
  go_wp2_with fail
  refine (HEQ.out _ _ _ (HRR.out _ _ _ OG.out) (HRR.out _ _ _ OW.out)).mono ?_
  rintro e w6 ⟨rfl, b6⟩
  have C6 := Lib.hid (C5.out.trans (b6.mono hz5))
  have hz6 : w.heap.size + 1 ≤ w6.heap.size := Nat.le_trans hz5 b6.size
  have OW6 := Lib.hid (row_below OW.out b6)
  have OG6 := Lib.hid (row_below OG.out b6)
  clear b6
  go_wp2_with fail
  refine (HMK.out _ _ _ _ OG6.out).mono ?_
  rintro e w7 ⟨rfl, og7, g7⟩
  have C7 := Lib.hid (C6.out.grown g7 hz6 (fun k hk => by have := HN.out k hk; omega))
  have hz7 : w.heap.size + 1 ≤ w7.heap.size := Nat.le_trans hz6 g7.size
  have OW7 := Lib.hid (row_kept OW6.out (fun k hk => g7.block k (OW6.out.lt k hk).2 (fun e => by have := HWL4.out k hk; have := HN.out k e.symm; omega)))
  have OG7 := Lib.hid og7
  clear og7 g7
  go_wp2_with fail
  refine (HHD.out _ _ _ OG7.out).mono ?_
  rintro e w8 ⟨rfl, b8⟩
  have C8 := Lib.hid (C7.out.trans (b8.mono hz7))
  have hz8 : w.heap.size + 1 ≤ w8.heap.size := Nat.le_trans hz7 b8.size
  have OW8 := Lib.hid (row_below OW7.out b8)
  have OG8 := Lib.hid (row_below OG7.out b8)
  obtain ⟨q1, q2, q3⟩ := HQ.out _ C8.out
  clear b8
  go_wp2_with fail
  refine (HTO2.out _).mono ?_
  rintro e w9 ⟨rfl, b9⟩
  have C9 := Lib.hid (C8.out.trans (b9.mono hz8))
  have hz9 : w.heap.size + 1 ≤ w9.heap.size := Nat.le_trans hz8 b9.size
  have OW9 := Lib.hid (row_below OW8.out b9)
  have OG9 := Lib.hid (row_below OG8.out b9)
  clear b9
  go_wp2_with fail
  refine (HI.out _ (HTW2.out _ (HB0.out _ C9.out)) (HMW2.out _ (HB0.out _ C9.out))).mono ?_
  rintro e w10 ⟨vh, rfl, oh, _, b10⟩
  have C10 := Lib.hid (C9.out.trans (b10.mono hz9))
  have hz10 : w.heap.size + 1 ≤ w10.heap.size := Nat.le_trans hz9 b10.size
  have OW10 := Lib.hid (row_below OW9.out b10)
  have OG10 := Lib.hid (row_below OG9.out b10)
  rw [HM.out] at oh
  obtain ⟨ah, ch, rfl⟩ := row_form oh
  have OH := Lib.hid oh
  clear b10 oh
  go_wp2_with fail
  refine (HEQ.out _ _ _ (HRR.out _ _ _ OH.out) (HRR.out _ _ _ OW10.out)).mono ?_
  rintro e w11 ⟨rfl, b11⟩
  have C11 := Lib.hid (C10.out.trans (b11.mono hz10))
  have hz11 : w.heap.size + 1 ≤ w11.heap.size := Nat.le_trans hz10 b11.size
  have OG11 := Lib.hid (row_below OG10.out b11)
  clear b11
  go_wp2_with fail
  refine (HHD.out _ _ _ OG11.out).mono ?_
  rintro e w12 ⟨rfl, b12⟩
  have C12 := Lib.hid (C11.out.trans (b12.mono hz11))
  clear b12
  go_wp2
  go_ret
  exact ⟨rfl, HB0.out _ C12.out⟩
end Go.Proofs.YtkhgdbnicpldkaaDoor
