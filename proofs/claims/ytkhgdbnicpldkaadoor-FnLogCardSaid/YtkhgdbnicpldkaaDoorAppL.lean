/- AppendRecord: walks and law. -/
import Derived.Test.YtkhgdbnicpldkaaDoorVldL
import Derived.Test.YtkhgdbnicpldkaaDoorEnrL
import Derived.Deep.CutRange
namespace Go.Proofs.YtkhgdbnicpldkaaDoor
open Go.RowKit

theorem goR_count {S : L} : ∀ {f : Nat} {o : List (L × L)} {n : Nat}, o.length ≤ 60 → (goR S f o n).1.length ≤ 60
  | 0, _, _, h => h
  | f + 1, o, n, h => by
    cases hq : rdR (S.drop n) o.length with
    | none => rw [goR_none hq]; exact h
    | some q =>
      rw [goR_at hq]
      exact goR_count (by have := (rdR_has hq).2; simp; omega)
theorem vlB_count {d p : ByteArray} {n : Int} (h : vlB d p n = true) : ∃ k : Nat, k ≤ 60 ∧ n = k := by
  unfold vlB vlOk at h
  simp only [Bool.and_eq_true, decide_eq_true_eq] at h
  exact ⟨_, goR_count (by simp), h.2.symm⟩
theorem recLine_len {k : Nat} {c r : ByteArray} (hk : k < 60) (h : recOk c r = true) : (lineL k c.data.toList r.data.toList).length ≤ 400 := by
  have e1 : mk c.data.toList = c := ba_ext (by simp)
  have e2 : mk r.data.toList = r := ba_ext (by simp)
  exact line_len hk (by rw [e1, e2]; exact h)

/-- The world in which the function's own variables lie. -/
def W0 (w : World) (d p : ByteArray) (n : Int) (c r : ByteArray) : World :=
  ((w.alloc (.cells #[.string d, .string p, .int .i64 n] 31)).alloc (.cells #[.string c, .string r] 27)).alloc (.cells #[.string ⟨#[]⟩, .string ⟨#[]⟩, .int .i64 0] 31)
theorem W0_size (w : World) (d p : ByteArray) (n : Int) (c r : ByteArray) : (W0 w d p n c r).heap.size = w.heap.size + 3 := by simp [W0]
theorem W0_below (w : World) (d p : ByteArray) (n : Int) (c r : ByteArray) : Below w.heap.size w (W0 w d p n c r) := by
  refine (((Below.refl _ _).alloc (Nat.le_refl _) _).alloc ?_ _).alloc ?_ _ <;> simp <;> omega
theorem W0_cells {w w' : World} {d p : ByteArray} {n : Int} {c r : ByteArray} (hb : Below (w.heap.size + 3) (W0 w d p n c r) w') :
    w'.cell? ⟨w.heap.size, 0, none⟩ = some (.string d) ∧ w'.cell? ⟨w.heap.size, 1, none⟩ = some (.string p) ∧ w'.cell? ⟨w.heap.size, 2, none⟩ = some (.int .i64 n) ∧
    w'.cell? ⟨w.heap.size + 1, 0, none⟩ = some (.string c) ∧ w'.cell? ⟨w.heap.size + 1, 1, none⟩ = some (.string r) ∧
    w'.cell? ⟨w.heap.size + 2, 0, none⟩ = some (.string ⟨#[]⟩) ∧ w'.cell? ⟨w.heap.size + 2, 1, none⟩ = some (.string ⟨#[]⟩) ∧ w'.cell? ⟨w.heap.size + 2, 2, none⟩ = some (.int .i64 0) ∧
    w'.frozen? ⟨w.heap.size, 0, none⟩ = false ∧ w'.frozen? ⟨w.heap.size, 1, none⟩ = false ∧ w'.frozen? ⟨w.heap.size, 2, none⟩ = false ∧
    w'.frozen? ⟨w.heap.size + 2, 0, none⟩ = false ∧ w'.frozen? ⟨w.heap.size + 2, 1, none⟩ = false ∧ w'.frozen? ⟨w.heap.size + 2, 2, none⟩ = false := by
  have e1 : (w.alloc (.cells #[.string d, .string p, .int .i64 n] 31)).heap.size = w.heap.size + 1 := by simp
  have e2 : ((w.alloc (.cells #[.string d, .string p, .int .i64 n] 31)).alloc (.cells #[.string c, .string r] 27)).heap.size = w.heap.size + 2 := by simp
  have g1 : w'.heap[w.heap.size]? = some (.cells #[.string d, .string p, .int .i64 n] 31 (0, 0)) := by
    rw [hb.block _ (by omega)]; unfold W0
    rw [heap_alloc_old _ _ (by rw [e2]; omega), heap_alloc_old _ _ (by rw [e1]; omega)]
    exact heap_alloc_new w _
  have g2 : w'.heap[w.heap.size + 1]? = some (.cells #[.string c, .string r] 27 (0, 0)) := by
    rw [hb.block _ (by omega)]; unfold W0
    rw [heap_alloc_old _ _ (by rw [e2]; omega), ← e1]
    exact heap_alloc_new _ _
  have g3 : w'.heap[w.heap.size + 2]? = some (.cells #[.string ⟨#[]⟩, .string ⟨#[]⟩, .int .i64 0] 31 (0, 0)) := by
    rw [hb.block _ (by omega)]; unfold W0
    rw [← e2]
    exact heap_alloc_new _ _
  refine ⟨?_, ?_, ?_, ?_, ?_, ?_, ?_, ?_, frozen_of_row _ _ _ _ _ g1, frozen_of_row _ _ _ _ _ g1, frozen_of_row _ _ _ _ _ g1, frozen_of_row _ _ _ _ _ g3, frozen_of_row _ _ _ _ _ g3, frozen_of_row _ _ _ _ _ g3⟩
  · rw [cell_of_row _ _ _ _ _ _ g1]; rfl
  · rw [cell_of_row _ _ _ _ _ _ g1]; rfl
  · rw [cell_of_row _ _ _ _ _ _ g1]; rfl
  · rw [cell_of_row _ _ _ _ _ _ g2]; rfl
  · rw [cell_of_row _ _ _ _ _ _ g2]; rfl
  · rw [cell_of_row _ _ _ _ _ _ g3]; rfl
  · rw [cell_of_row _ _ _ _ _ _ g3]; rfl
  · rw [cell_of_row _ _ _ _ _ _ g3]; rfl

def apC (d p : ByteArray) (n : Int) (c r : ByteArray) : Int := if vlB d p n = true ∧ recOk c r = true then (if n = 60 then 2 else 0) else 1
def apP (d p : ByteArray) (n : Int) (c r : ByteArray) : ByteArray := if apC d p n c r = 0 then p ++ mk (lineL n.toNat c.data.toList r.data.toList) else p
def apN (d p : ByteArray) (n : Int) (c r : ByteArray) : Int := if apC d p n c r = 0 then n + 1 else n
def ApPost (w : World) (d p : ByteArray) (n : Int) (c r : ByteArray) (e : Ending) (w' : World) : Prop :=
  e = .returned (.tuple #[.agg #[.string d, .string (apP d p n c r), .int .i64 (apN d p n c r)], .int .i64 (apC d p n c r)]) ∧ Below w.heap.size w w'
theorem ApPost.one {w w' : World} {d p : ByteArray} {n : Int} {c r : ByteArray} {x : Int} {e : Ending} (h : apC d p n c r = x) (hx : x ≠ 0) (he : e = .returned (.tuple #[.agg #[.string d, .string p, .int .i64 n], .int .i64 x])) (hb : Below w.heap.size w w') : ApPost w d p n c r e w' := by
  refine ⟨?_, hb⟩
  unfold apP apN
  rw [h, if_neg hx, if_neg hx]
  exact he
theorem ApPost.a {w w' : World} {d p : ByteArray} {n : Int} {c r : ByteArray} {e : Ending} (h : vlB d p n = false) (he : e = .returned (.tuple #[.agg #[.string d, .string p, .int .i64 n], .int .i64 1])) (hb : Below w.heap.size w w') : ApPost w d p n c r e w' :=
  ApPost.one (x := 1) (by unfold apC; rw [h, if_neg (by simp)]) (by omega) he hb
theorem ApPost.b {w w' : World} {d p : ByteArray} {n : Int} {c r : ByteArray} {e : Ending} (h : recOk c r = false) (he : e = .returned (.tuple #[.agg #[.string d, .string p, .int .i64 n], .int .i64 1])) (hb : Below w.heap.size w w') : ApPost w d p n c r e w' :=
  ApPost.one (x := 1) (by unfold apC; rw [h, if_neg (by simp)]) (by omega) he hb
theorem ApPost.c {w w' : World} {d p : ByteArray} {n : Int} {c r : ByteArray} {e : Ending} (h : vlB d p n = true) (h2 : recOk c r = true) (h3 : n = 60) (he : e = .returned (.tuple #[.agg #[.string d, .string p, .int .i64 n], .int .i64 2])) (hb : Below w.heap.size w w') : ApPost w d p n c r e w' :=
  ApPost.one (x := 2) (by unfold apC; rw [h, h2, if_pos (by simp), if_pos h3]) (by omega) he hb
theorem ApPost.d {w w' : World} {d p : ByteArray} {k : Nat} {c r : ByteArray} {e : Ending} {ll : L} (h : vlB d p k = true) (h2 : recOk c r = true) (h3 : k ≠ 60) (hl : lineL k c.data.toList r.data.toList = ll) (he : e = .returned (.tuple #[.agg #[.string d, .string (p ++ mk ll), .int .i64 ((k : Int) + 1)], .int .i64 0])) (hb : Below w.heap.size w w') : ApPost w d p k c r e w' := by
  have h0 : apC d p k c r = 0 := by unfold apC; rw [h, h2, if_pos (by simp), if_neg (by omega)]
  refine ⟨?_, hb⟩
  unfold apP apN
  rw [h0, if_pos rfl, if_pos rfl, Int.toNat_natCast, hl]
  exact he

set_option maxHeartbeats 3200000 in
set_option maxRecDepth 100000 in
theorem specAp_any (d p c r : ByteArray) (n : Int) (hs : d.size + p.size ≤ 1048576) (hc : c.size ≤ maxLen) (hr : r.size ≤ maxLen) (w : World) :
    Calls Tryd.prog 28 #[.agg #[.string d, .string p, .int .i64 n], .agg #[.string c, .string r]] w (ApPost w d p n c r) := by
  have hb0 : Below w.heap.size w (W0 w d p n c r) := W0_below w d p n c r
  have hs0 : (W0 w d p n c r).heap.size = w.heap.size + 3 := W0_size w d p n c r
  have HC := Lib.hid (fun w' (hb : Below (w.heap.size + 3) (W0 w d p n c r) w') => W0_cells hb)
  have HL := (fun w => l27Log_any d p n hs w)
  unfold VlPost at HL
  generalize hv : vlB d p n = v at HL
  have HV := Lib.hid hv
  have HL := Lib.hid HL
  have HG := fun w => l27Good_any c r w hc hr
  generalize hg : recOk c r = g at HG
  have HGV := Lib.hid hg
  have HG := Lib.hid HG
  clear hv hg
  go_enter Tryd.func28, Tryd.ntmps28
  go_wp2_with fail
  refine (HL.out _).mono ?_
  rintro e w1 ⟨rfl, b1⟩
  have b1 : Below (w.heap.size + 3) (W0 w d p n c r) w1 := by rw [← hs0]; exact b1
  obtain ⟨q1, q2, q3, q4, q5, q6, q7, q8, f1, f2, f3, f4, f5, f6⟩ := HC.out w1 b1
  have hB1 := Lib.hid (hb0.trans (b1.mono (by omega)))
  have hz1 := b1.size
  rw [hs0] at hz1
  cases v
  · go_wp2
    exact bodyPost_ret (v := .tuple #[.agg #[.string d, .string p, .int .i64 n], .int .i64 1]) (by simp [results, Tryd.results28, go_sem, q6, q7, q8]) rfl (ApPost.a HV.out rfl (by repeat (first | exact hB1.out | refine below_set ?_ (by omega))))
  go_wp2_with fail
  refine (HG.out _).mono ?_
  rintro e w2 ⟨rfl, b2⟩
  have b2 := b1.trans (b2.mono hz1)
  clear q1 q2 q3 q4 q5 q6 q7 q8 f1 f2 f3 f4 f5 f6 b1 hz1 hB1
  obtain ⟨q1, q2, q3, q4, q5, q6, q7, q8, f1, f2, f3, f4, f5, f6⟩ := HC.out w2 b2
  have hB1 := Lib.hid (hb0.trans (b2.mono (by omega)))
  have hz1 := b2.size
  rw [hs0] at hz1
  cases g
  · go_wp2
    exact bodyPost_ret (v := .tuple #[.agg #[.string d, .string p, .int .i64 n], .int .i64 1]) (by simp [results, Tryd.results28, go_sem, q6, q7, q8]) rfl (ApPost.b HGV.out rfl (by repeat (first | exact hB1.out | refine below_set ?_ (by omega))))
  obtain ⟨k, hk60, rfl⟩ := vlB_count HV.out
  by_cases h60 : k = 60
  · subst h60
    go_wp2
    exact bodyPost_ret (v := .tuple #[.agg #[.string d, .string p, .int .i64 60], .int .i64 2]) (by simp [results, Tryd.results28, go_sem, q6, q7, q8]) rfl (ApPost.c HV.out HGV.out rfl rfl (by repeat (first | exact hB1.out | refine below_set ?_ (by omega))))
  have h60I : ¬ (k : Int) = 60 := by omega
  have h60d : ((k : Int) == 60) = false := by simpa using h60I
  have h60e : decide ((k : Int) = 60) = false := by simpa using h60I
  have HLN := (fun w => l27Line_any k (by omega) c r (by have := recOk_parts HGV.out; omega) (by have := recOk_parts HGV.out; omega) w)
  have hll := recLine_len (k := k) (by omega) HGV.out
  have HK := Lib.hid (show k ≠ 60 from h60)
  generalize hl0 : lineL k c.data.toList r.data.toList = ll at HLN hll
  have HLL := Lib.hid hl0
  have HLN := Lib.hid HLN
  have hcat : ¬ 9223372036854775807 < p.size + (mk ll).size := by have := mk_size ll; omega
  have hcat2 : ¬ 9223372036854775807 < p.size + ll.length := by omega
  have hz2 : w.heap.size + 3 ≤ w2.drew.heap.size := hz1
  have HB2 := Lib.hid b2
  clear hl0 b2 hll h60 HL HG
  go_upto_region 5 with fail
  go_cut [] from 19 to 26 (fun wx => wx.cell? ⟨w.heap.size, 0, none⟩ = some (.string d) ∧ wx.cell? ⟨w.heap.size, 1, none⟩ = some (.string (p ++ mk ll)) ∧ wx.cell? ⟨w.heap.size, 2, none⟩ = some (.int .i64 k) ∧ wx.cell? ⟨w.heap.size + 2, 0, none⟩ = some (.string ⟨#[]⟩) ∧ wx.cell? ⟨w.heap.size + 2, 1, none⟩ = some (.string ⟨#[]⟩) ∧ wx.cell? ⟨w.heap.size + 2, 2, none⟩ = some (.int .i64 0) ∧ wx.frozen? ⟨w.heap.size, 2, none⟩ = false ∧ wx.frozen? ⟨w.heap.size + 2, 0, none⟩ = false ∧ wx.frozen? ⟨w.heap.size + 2, 1, none⟩ = false ∧ wx.frozen? ⟨w.heap.size + 2, 2, none⟩ = false ∧ Hid (Below w.heap.size w wx))
  case first =>
    obtain ⟨p1, p2, p3, p4, p5, p6, p7, p8, g1, g2, g3, g4, g5, g6⟩ := HC.out w2.drew HB2.out.drew
    go_region_with (first | (go_at_call 44; refine (HLN.out _).mono ?_; rintro e w5 ⟨rfl, b5⟩; obtain ⟨r1, r2, r3, r4, r5, r6, r7, r8, s1, s2, s3, s4, s5, s6⟩ := HC.out w5 (HB2.out.drew.trans (b5.mono hz2))))
    all_goals
      go_wp2_with fail
      go_meet
      have hB5 := (hb0.trans ((HB2.out.drew.trans (b5.mono hz2)).mono (by omega))).setCell (p := ⟨w.heap.size, 1, none⟩) (Nat.le_refl _) (.string (p ++ mk ll))
      clear HC HLN
      exact ⟨(World.cell?_setCell_other _ _ _ _ (by simp)).trans r1, World.cell?_setCell_same _ _ _ r2, (World.cell?_setCell_other _ _ _ _ (by simp)).trans r3, (World.cell?_setCell_other _ _ _ _ (by simp)).trans r6, (World.cell?_setCell_other _ _ _ _ (by simp)).trans r7, (World.cell?_setCell_other _ _ _ _ (by simp)).trans r8, by simp [go_sem, s3], by simp [go_sem, s4], by simp [go_sem, s5], by simp [go_sem, s6], hB5⟩
  case rest =>
  obtain ⟨r1, r2, r3, r6, r7, r8, s3, s4, s5, s6, hB⟩ := hcut
  go_wp2
  exact bodyPost_ret (v := .tuple #[.agg #[.string d, .string (p ++ mk ll), .int .i64 ((k : Int) + 1)], .int .i64 0]) (by simp [results, Tryd.results28, go_sem, r6, r7, r8]) rfl (ApPost.d HV.out HGV.out HK.out HLL.out rfl (by repeat (first | exact hB.out | refine below_set ?_ (by omega))))

set_option maxHeartbeats 3200000 in
set_option maxRecDepth 100000 in
theorem implAp_any (d p c r : ByteArray) (n : Int) (hs : d.size + p.size ≤ 1048576) (hc : c.size ≤ maxLen) (hr : r.size ≤ maxLen) (w : World) (ht : TabOk w) (hmx : MaxOk w) :
    Calls Tryd.prog 29 #[.agg #[.string d, .string p, .int .i64 n], .agg #[.string c, .string r]] w (ApPost w d p n c r) := by
  have hb0 : Below w.heap.size w (W0 w d p n c r) := W0_below w d p n c r
  have hs0 : (W0 w d p n c r).heap.size = w.heap.size + 3 := W0_size w d p n c r
  have HC := Lib.hid (fun w' (hb : Below (w.heap.size + 3) (W0 w d p n c r) w') => W0_cells hb)
  have HT0 := Lib.hid (ht.below hb0)
  have HM0 := Lib.hid (hmx.below hb0)
  have HT1 := Lib.hid (fun w' (hb : Below (w.heap.size + 3) (W0 w d p n c r) w') => (show TabOk w'.drew from (ht.below (hb0.trans (hb.mono (Nat.le_add_right _ 3))).drew)))
  clear ht hmx
  have HL := (fun w ht hm => implVl_any d p n hs w ht hm)
  unfold VlPost at HL
  generalize hv : vlB d p n = v at HL
  have HV := Lib.hid hv
  have HL := Lib.hid HL
  have HG := fun w => implIsRec_any c r w hc hr
  generalize hg : recOk c r = g at HG
  have HGV := Lib.hid hg
  have HG := Lib.hid HG
  clear hv hg
  go_enter Tryd.func29, Tryd.ntmps29
  go_wp2_with fail
  refine (HL.out _ HT0.out HM0.out).mono ?_
  rintro e w1 ⟨rfl, b1⟩
  have b1 : Below (w.heap.size + 3) (W0 w d p n c r) w1 := by rw [← hs0]; exact b1
  obtain ⟨q1, q2, q3, q4, q5, q6, q7, q8, f1, f2, f3, f4, f5, f6⟩ := HC.out w1 b1
  have hB1 := Lib.hid (hb0.trans (b1.mono (by omega)))
  have hz1 := b1.size
  rw [hs0] at hz1
  cases v
  · go_wp2
    exact bodyPost_ret (v := .tuple #[.agg #[.string d, .string p, .int .i64 n], .int .i64 1]) (by simp [results, Tryd.results29, go_sem, q6, q7, q8]) rfl (ApPost.a HV.out rfl (by repeat (first | exact hB1.out | refine below_set ?_ (by omega))))
  go_wp2_with fail
  refine (HG.out _).mono ?_
  rintro e w2 ⟨rfl, b2⟩
  have b2 := b1.trans (b2.mono hz1)
  clear q1 q2 q3 q4 q5 q6 q7 q8 f1 f2 f3 f4 f5 f6 b1 hz1 hB1
  obtain ⟨q1, q2, q3, q4, q5, q6, q7, q8, f1, f2, f3, f4, f5, f6⟩ := HC.out w2 b2
  have hB1 := Lib.hid (hb0.trans (b2.mono (by omega)))
  have hz1 := b2.size
  rw [hs0] at hz1
  cases g
  · go_wp2
    exact bodyPost_ret (v := .tuple #[.agg #[.string d, .string p, .int .i64 n], .int .i64 1]) (by simp [results, Tryd.results29, go_sem, q6, q7, q8]) rfl (ApPost.b HGV.out rfl (by repeat (first | exact hB1.out | refine below_set ?_ (by omega))))
  obtain ⟨k, hk60, rfl⟩ := vlB_count HV.out
  by_cases h60 : k = 60
  · subst h60
    go_wp2
    exact bodyPost_ret (v := .tuple #[.agg #[.string d, .string p, .int .i64 60], .int .i64 2]) (by simp [results, Tryd.results29, go_sem, q6, q7, q8]) rfl (ApPost.c HV.out HGV.out rfl rfl (by repeat (first | exact hB1.out | refine below_set ?_ (by omega))))
  have h60I : ¬ (k : Int) = 60 := by omega
  have h60d : ((k : Int) == 60) = false := by simpa using h60I
  have h60e : decide ((k : Int) = 60) = false := by simpa using h60I
  have HLN := (fun w ht => encodeRec_any k (by omega) c r HGV.out w ht)
  have hll := recLine_len (k := k) (by omega) HGV.out
  have HK := Lib.hid (show k ≠ 60 from h60)
  generalize hl0 : lineL k c.data.toList r.data.toList = ll at HLN hll
  have HLL := Lib.hid hl0
  have HLN := Lib.hid HLN
  have hcat : ¬ 9223372036854775807 < p.size + (mk ll).size := by have := mk_size ll; omega
  have hcat2 : ¬ 9223372036854775807 < p.size + ll.length := by omega
  have hz2 : w.heap.size + 3 ≤ w2.drew.heap.size := hz1
  have HB2 := Lib.hid b2
  clear hl0 b2 hll h60 HL HG
  go_upto_region 5 with fail
  go_cut [5] from 21 to 33 (fun s5 wx => s5 = .int .i64 0 ∧ wx.cell? ⟨w.heap.size + 2, 0, none⟩ = some (.string d) ∧ wx.cell? ⟨w.heap.size + 2, 1, none⟩ = some (.string (p ++ mk ll)) ∧ wx.cell? ⟨w.heap.size + 2, 2, none⟩ = some (.int .i64 ((k : Int) + 1)) ∧ Hid (Below w.heap.size w wx))
  case first =>
    obtain ⟨p1, p2, p3, p4, p5, p6, p7, p8, g1, g2, g3, g4, g5, g6⟩ := HC.out w2.drew HB2.out.drew
    have hw1 : IntKind.i64.wrap ((k : Int) + 1) = (k : Int) + 1 := IntWalk.i64_in _ (by omega)
    go_region_held3 (fun w' => w'.cell? ⟨w.heap.size, 0, none⟩ = some (.string d) ∧ w'.cell? ⟨w.heap.size, 1, none⟩ = some (.string p) ∧ w'.cell? ⟨w.heap.size, 2, none⟩ = some (.int .i64 k) ∧ w'.cell? ⟨w.heap.size + 1, 0, none⟩ = some (.string c) ∧ w'.cell? ⟨w.heap.size + 1, 1, none⟩ = some (.string r))
      (first | exact ⟨p1, p2, p3, p4, p5⟩ | exact ⟨r1, r2, r3, r4, r5⟩ | (refine ⟨?_, ?_, ?_, ?_, ?_⟩ <;> (rw [World.cell?_setCell_other _ _ _ _ (by simp <;> omega), World.cell?_setCell_other _ _ _ _ (by simp <;> omega), World.cell?_setCell_other _ _ _ _ (by simp <;> omega)]; first | assumption)))
      ((go_at_call 46; refine (HLN.out _ (HT1.out _ HB2.out)).mono ?_; rintro e w5 ⟨rfl, b5⟩; obtain ⟨r1, r2, r3, r4, r5, r6, r7, r8, s1, s2, s3, s4, s5, s6⟩ := HC.out w5 (HB2.out.drew.trans (b5.mono hz2))))
    all_goals
      go_wp2_with fail
      go_meet
      have hB5 := hb0.trans ((HB2.out.drew.trans (b5.mono hz2)).mono (Nat.le_add_right _ 3))
      clear HC HLN
      exact ⟨rfl, by simp [go_sem, r6], by simp [go_sem, r7], by simp [go_sem, r8], (show Below _ _ _ from below_set (below_set (below_set hB5 (by omega)) (by omega)) (by omega))⟩
  case rest =>
  obtain ⟨rfl, r6, r7, r8, hB⟩ := hcut
  go_wp2
  exact bodyPost_ret (v := .tuple #[.agg #[.string d, .string (p ++ mk ll), .int .i64 ((k : Int) + 1)], .int .i64 0]) (by simp [results, Tryd.results29, go_sem, r6, r7, r8]) rfl (ApPost.d HV.out HGV.out HK.out HLL.out rfl hB.out)

/-- The world in which the law's own variables lie. -/
def V0 (w : World) (d p : ByteArray) (n : Int) (c r : ByteArray) : World :=
  (w.alloc (.cells #[.string d, .string p, .int .i64 n] 36)).alloc (.cells #[.string c, .string r] 23)
theorem V0_size (w : World) (d p : ByteArray) (n : Int) (c r : ByteArray) : (V0 w d p n c r).heap.size = w.heap.size + 2 := by simp [V0]
theorem V0_below (w : World) (d p : ByteArray) (n : Int) (c r : ByteArray) : Below w.heap.size w (V0 w d p n c r) := by
  refine ((Below.refl _ _).alloc (Nat.le_refl _) _).alloc ?_ _ <;> simp
theorem V0_cells {w w' : World} {d p : ByteArray} {n : Int} {c r : ByteArray} (hb : Below (w.heap.size + 2) (V0 w d p n c r) w') :
    w'.cell? ⟨w.heap.size, 0, none⟩ = some (.string d) ∧ w'.cell? ⟨w.heap.size, 1, none⟩ = some (.string p) ∧ w'.cell? ⟨w.heap.size, 2, none⟩ = some (.int .i64 n) ∧
    w'.cell? ⟨w.heap.size + 1, 0, none⟩ = some (.string c) ∧ w'.cell? ⟨w.heap.size + 1, 1, none⟩ = some (.string r) := by
  have e1 : (w.alloc (.cells #[.string d, .string p, .int .i64 n] 36)).heap.size = w.heap.size + 1 := by simp
  have g1 : w'.heap[w.heap.size]? = some (.cells #[.string d, .string p, .int .i64 n] 36 (0, 0)) := by
    rw [hb.block _ (by omega)]; unfold V0
    rw [heap_alloc_old _ _ (by rw [e1]; omega)]
    exact heap_alloc_new w _
  have g2 : w'.heap[w.heap.size + 1]? = some (.cells #[.string c, .string r] 23 (0, 0)) := by
    rw [hb.block _ (by omega)]; unfold V0
    rw [← e1]
    exact heap_alloc_new _ _
  refine ⟨?_, ?_, ?_, ?_, ?_⟩
  · rw [cell_of_row _ _ _ _ _ _ g1]; rfl
  · rw [cell_of_row _ _ _ _ _ _ g1]; rfl
  · rw [cell_of_row _ _ _ _ _ _ g1]; rfl
  · rw [cell_of_row _ _ _ _ _ _ g2]; rfl
  · rw [cell_of_row _ _ _ _ _ _ g2]; rfl

/-- Memory as it was since the law's own variables were laid. -/
def Sd (w : World) (d p : ByteArray) (n : Int) (c r : ByteArray) (w' : World) : Prop := Below (w.heap.size + 2) (V0 w d p n c r) w'
section
variable {w w' w'' : World} {d p c r : ByteArray} {n : Int}
theorem Sd.size (h : Sd w d p n c r w') : w.heap.size + 2 ≤ w'.heap.size := by
  have h1 := Below.size h
  rw [V0_size] at h1; exact h1
theorem Sd.call (h : Sd w d p n c r w') (b : Below w'.heap.size w' w'') : Sd w d p n c r w'' := Below.trans h (b.mono h.size)
theorem Sd.alloc (h : Sd w d p n c r w') (o : Obj) : Sd w d p n c r (w'.alloc o) := Below.alloc h h.size o
theorem Sd.drew (h : Sd w d p n c r w') : Sd w d p n c r w'.drew := Below.drew h
theorem Sd.set {b j : Nat} {u : Value} (h : Sd w d p n c r w') (hb : w.heap.size + 2 ≤ b) : Sd w d p n c r (w'.setCell ⟨b, j, none⟩ u) := below_set h hb
/-- What the region's loads ask. -/
def SdAll (w : World) (d p : ByteArray) (n : Int) (c r : ByteArray) (w' : World) : Prop :=
  Sd w d p n c r w' ∧ w'.cell? ⟨w.heap.size, 0, none⟩ = some (.string d) ∧ w'.cell? ⟨w.heap.size, 1, none⟩ = some (.string p) ∧ w'.cell? ⟨w.heap.size, 2, none⟩ = some (.int .i64 n) ∧
    w'.cell? ⟨w.heap.size + 1, 0, none⟩ = some (.string c) ∧ w'.cell? ⟨w.heap.size + 1, 1, none⟩ = some (.string r)
theorem sd_mk (h : Sd w d p n c r w') : SdAll w d p n c r w' := ⟨h, V0_cells h⟩
end
/-- Memory as it was since two moments. -/
def Se (w : World) (d p : ByteArray) (n : Int) (c r : ByteArray) (X w' : World) : Prop := Sd w d p n c r w' ∧ Below X.heap.size X w'
section
variable {w w' w'' X : World} {d p c r : ByteArray} {n : Int}
theorem Se.base (h : Se w d p n c r X w') : Below (w.heap.size + 2) (V0 w d p n c r) w' := h.1
theorem Se.size (h : Se w d p n c r X w') : X.heap.size ≤ w'.heap.size := Below.size h.2
theorem Se.call (h : Se w d p n c r X w') (b : Below w'.heap.size w' w'') : Se w d p n c r X w'' := ⟨h.1.call b, Below.trans h.2 (b.mono h.size)⟩
theorem Se.alloc (h : Se w d p n c r X w') (o : Obj) : Se w d p n c r X (w'.alloc o) := ⟨h.1.alloc o, Below.alloc h.2 h.size o⟩
theorem Se.drew (h : Se w d p n c r X w') : Se w d p n c r X w'.drew := ⟨h.1.drew, Below.drew h.2⟩
theorem Se.set {b j : Nat} {u : Value} (h : Se w d p n c r X w') (hb : X.heap.size ≤ b) (hX : w.heap.size + 2 ≤ X.heap.size) : Se w d p n c r X (w'.setCell ⟨b, j, none⟩ u) := ⟨h.1.set (Nat.le_trans hX hb), below_set h.2 hb⟩
theorem se_mk (h : Se w d p n c r X w') : Se w d p n c r X w' ∧ w'.cell? ⟨w.heap.size, 0, none⟩ = some (.string d) ∧ w'.cell? ⟨w.heap.size, 1, none⟩ = some (.string p) ∧ w'.cell? ⟨w.heap.size, 2, none⟩ = some (.int .i64 n) ∧
    w'.cell? ⟨w.heap.size + 1, 0, none⟩ = some (.string c) ∧ w'.cell? ⟨w.heap.size + 1, 1, none⟩ = some (.string r) := ⟨h, V0_cells h.1⟩
end

theorem kept_old {X Y : World} {b : Nat} {x : Obj} (h : X.heap[b]? = some x) (hb : Below X.heap.size X Y) : Y.heap[b]? = some x := by
  rw [hb.block b (Array.getElem?_eq_some_iff.1 h).1]; exact h
theorem kept_new {X Y : World} {o : Obj} (hb : Below (X.alloc o).heap.size (X.alloc o) Y) : Y.heap[X.heap.size]? = some o := kept_old (heap_alloc_new X o) hb
theorem kept_newD {X Y : World} {o : Obj} (hb : Below (X.drew.alloc o).heap.size (X.drew.alloc o) Y) : Y.heap[X.heap.size]? = some o := kept_old (heap_alloc_new X.drew o) hb
theorem blk3 {X : World} {b : Nat} {u v x : Value} {T : TypeId} (h : X.heap[b]? = some (.cells #[u, v, x] T (0, 0))) :
    X.cell? ⟨b, 0, none⟩ = some u ∧ X.cell? ⟨b, 1, none⟩ = some v ∧ X.cell? ⟨b, 2, none⟩ = some x ∧ X.frozen? ⟨b, 0, none⟩ = false ∧ X.frozen? ⟨b, 1, none⟩ = false ∧ X.frozen? ⟨b, 2, none⟩ = false ∧ b < X.heap.size := by
  refine ⟨?_, ?_, ?_, frozen_of_row _ _ _ _ _ h, frozen_of_row _ _ _ _ _ h, frozen_of_row _ _ _ _ _ h, (Array.getElem?_eq_some_iff.1 h).1⟩
  · rw [cell_of_row _ _ _ _ _ _ h]; rfl
  · rw [cell_of_row _ _ _ _ _ _ h]; rfl
  · rw [cell_of_row _ _ _ _ _ _ h]; rfl

set_option maxHeartbeats 3200000 in
set_option maxRecDepth 100000 in
theorem FnExactAppendRecord_walk (d p : ByteArray) (n : Int) (c r : ByteArray) (w : World) (hd : d.size ≤ maxLen) (hp : p.size ≤ maxLen) (_hn : (Lit.int .i64 n).wf = true) (hc : c.size ≤ maxLen) (hr : r.size ≤ maxLen) (ht : TabOk w) (hmx : MaxOk w) :
    Calls Tryd.prog 8 #[.agg #[.string d, .string p, .int .i64 n], .agg #[.string c, .string r]] w fun e w' => e = .returned (.bool true) ∧ Below w.heap.size w w' := by
  have hb0 : Below w.heap.size w (V0 w d p n c r) := V0_below w d p n c r
  have hs0 : (V0 w d p n c r).heap.size = w.heap.size + 2 := V0_size w d p n c r
  have HC := Lib.hid (fun w' (hb : Below (w.heap.size + 2) (V0 w d p n c r) w') => V0_cells hb)
  have HTW := Lib.hid (fun w' (hb : Below (w.heap.size + 2) (V0 w d p n c r) w') => ht.below (hb0.trans (hb.mono (Nat.le_add_right _ 2))))
  have HMW := Lib.hid (fun w' (hb : Below (w.heap.size + 2) (V0 w d p n c r) w') => hmx.below (hb0.trans (hb.mono (Nat.le_add_right _ 2))))
  have HB0 := Lib.hid (fun w' (hb : Below (w.heap.size + 2) (V0 w d p n c r) w') => hb0.trans (hb.mono (Nat.le_add_right _ 2)))
  have HSZ := Lib.hid (fun w => szLog_any d p n 1048576 hd hp (by omega) (by omega) w)
  have HTO := Lib.hid (fun w => toLog_any d p n w)
  have HTR := Lib.hid (fun w => toRec_any c r w)
  clear ht hmx hb0
  go_enter Tryd.func8, Tryd.ntmps8
  go_wp2_with fail
  refine (HSZ.out _).mono ?_
  rintro e w1 ⟨l1, rfl, b1, hr1, hr2⟩
  have b1 : Below (w.heap.size + 2) (V0 w d p n c r) w1 := by rw [← hs0]; exact b1
  have hz1 := b1.size
  rw [hs0] at hz1
  obtain ⟨q1, q2, q3, q4, q5⟩ := HC.out _ b1
  by_cases hneg : l1 < 0
  · have hnd : decide (l1 < 0) = true := by simpa using hneg
    go_wp2
    go_ret
    exact ⟨rfl, HB0.out _ b1⟩
  have hnd : decide (l1 < 0) = false := by simpa using hneg
  have hsz := hr1 (by omega)
  have HZ := Lib.hid (szRec_any c r l1 w1 hc hr (by omega) (by omega))
  obtain ⟨z, hz⟩ : ∃ z, szRec c r l1 = z := ⟨_, rfl⟩
  rw [hz] at HZ
  clear hz hr1
  go_wp2_with fail
  refine HZ.out.mono ?_
  rintro e w2 ⟨rfl, b2⟩
  have b2 := b1.trans (b2.mono hz1)
  clear q1 q2 q3 q4 q5 hz1 b1 HZ
  obtain ⟨q1, q2, q3, q4, q5⟩ := HC.out _ b2
  by_cases hneg2 : z < 0
  · have hnd2 : decide (z < 0) = true := by simpa using hneg2
    go_wp2
    go_ret
    exact ⟨rfl, HB0.out _ b2⟩
  have hnd2 : decide (z < 0) = false := by simpa using hneg2
  have HS := fun w => specAp_any d p c r n (by omega) hc hr w
  have HI := fun w ht hm => implAp_any d p c r n (by omega) hc hr w ht hm
  unfold ApPost at HS HI
  have HS := Lib.hid HS
  have HI := Lib.hid HI
  generalize apP d p n c r = P at *
  generalize apN d p n c r = N at *
  generalize apC d p n c r = C at *
  have hz2 := b2.size
  rw [hs0] at hz2
  have HB2 := Lib.hid b2
  go_upto_region 8 with fail
  go_cut [6, 7] from 20 to 27 (fun s6 s7 wx => s7 = .int .i64 C ∧ ∃ b, s6 = .pointer (some ⟨b, 0, none⟩) ∧ Hid (b < wx.heap.size) ∧ wx.cell? ⟨b, 0, none⟩ = some (.string d) ∧ wx.cell? ⟨b, 1, none⟩ = some (.string P) ∧ wx.cell? ⟨b, 2, none⟩ = some (.int .i64 N) ∧ Hid (Sd w d p n c r wx))
  case first =>
    have S0 : Sd w d p n c r w2.drew := HB2.out.drew
    clear q1 q2 q3 q4 q5
    go_region_held3 (fun w' => Sd w d p n c r w' ∧ w'.cell? ⟨w.heap.size, 0, none⟩ = some (.string d) ∧ w'.cell? ⟨w.heap.size, 1, none⟩ = some (.string p) ∧ w'.cell? ⟨w.heap.size, 2, none⟩ = some (.int .i64 n) ∧ w'.cell? ⟨w.heap.size + 1, 0, none⟩ = some (.string c) ∧ w'.cell? ⟨w.heap.size + 1, 1, none⟩ = some (.string r))
      (first
        | exact sd_mk (by assumption)
        | exact sd_mk (Sd.alloc (And.left (by assumption)) _)
        | exact sd_mk (Sd.alloc (by assumption) _)
        | exact sd_mk (Sd.set (Sd.set (Sd.set (And.left (by assumption)) (by omega)) (by omega)) (by omega)))
      (first
        | (go_at_call 22; refine (HTO.out _).mono ?_; rintro e w5 ⟨rfl, b5⟩; have s5 : Sd w d p n c r w5 := Sd.call (And.left (by assumption)) b5; have z5 := s5.size; (first | have k5 := kept_newD b5 | have k5 := kept_new b5 | skip); clear b5)
        | (go_at_call 15; refine (HTR.out _).mono ?_; rintro e w6 ⟨rfl, b6⟩; have s6 : Sd w d p n c r w6 := Sd.call (And.left (by assumption)) b6; have z6 := s6.size; (try have k6 := kept_new b6); (try have k6 := kept_old k5 b6); clear b6)
        | (go_at_call 28; refine (HS.out _).mono ?_; rintro e w7 ⟨rfl, b7⟩; have s7 : Sd w d p n c r w7 := Sd.call (And.left (by assumption)) b7; have z7 := s7.size; (try have k7 := kept_new b7); (try have k7 := kept_old k6 b7); clear b7; (try (have l0 := blk3 k7; obtain ⟨l1, l2, l3, l4, l5, l6, l7⟩ := l0))))
    · go_wp2_with fail
      go_meet
      exact ⟨rfl, _, rfl, (by show _ < (_ : World).heap.size; simp), by simp [go_sem], by simp [go_sem], by simp [go_sem], Sd.alloc s7 _⟩
    all_goals
      go_wp2_with fail
      go_meet
      exact ⟨rfl, _, rfl, (by show _ < (_ : World).heap.size; simp; exact l7), by simp [go_sem, l1], by simp [go_sem, l2], by simp [go_sem, l3], Sd.set (Sd.set (Sd.set s7 (by omega)) (by omega)) (by omega)⟩
  case rest =>
  obtain ⟨rfl, b0, rfl, HB0', r1, r2, r3, HS0⟩ := hcut
  have HR := Lib.hid (fun (X w' : World) (h : Se w d p n c r X w') (hb : b0 < X.heap.size) (e1 : X.cell? ⟨b0, 0, none⟩ = some (.string d)) (e2 : X.cell? ⟨b0, 1, none⟩ = some (.string P)) (e3 : X.cell? ⟨b0, 2, none⟩ = some (.int .i64 N)) =>
    (show w'.cell? ⟨b0, 0, none⟩ = some (.string d) ∧ w'.cell? ⟨b0, 1, none⟩ = some (.string P) ∧ w'.cell? ⟨b0, 2, none⟩ = some (.int .i64 N) from ⟨(h.2.cell (p := ⟨b0, 0, none⟩) hb).trans e1, (h.2.cell (p := ⟨b0, 1, none⟩) hb).trans e2, (h.2.cell (p := ⟨b0, 2, none⟩) hb).trans e3⟩))
  go_upto_region 9 with fail
  go_cut [8, 9] from 28 to 35 (fun s8 s9 wx => s9 = .int .i64 C ∧ ∃ b, s8 = .pointer (some ⟨b, 0, none⟩) ∧ wx.cell? ⟨b, 0, none⟩ = some (.string d) ∧ wx.cell? ⟨b, 1, none⟩ = some (.string P) ∧ wx.cell? ⟨b, 2, none⟩ = some (.int .i64 N) ∧ Hid (Se w d p n c r wc wx))
  case first =>
    have S0 : Se w d p n c r wc wc.drew := ⟨HS0.out.drew, (Below.refl _ _).drew⟩
    have hX := HS0.out.size
    clear r1 r2 r3 HR HB0'
    go_region_held3 (fun w' => Se w d p n c r wc w' ∧ w'.cell? ⟨w.heap.size, 0, none⟩ = some (.string d) ∧ w'.cell? ⟨w.heap.size, 1, none⟩ = some (.string p) ∧ w'.cell? ⟨w.heap.size, 2, none⟩ = some (.int .i64 n) ∧ w'.cell? ⟨w.heap.size + 1, 0, none⟩ = some (.string c) ∧ w'.cell? ⟨w.heap.size + 1, 1, none⟩ = some (.string r))
      (first
        | exact se_mk (by assumption)
        | exact se_mk (Se.alloc (And.left (by assumption)) _)
        | exact se_mk (Se.alloc (by assumption) _)
        | exact se_mk (Se.set (Se.set (Se.set (And.left (by assumption)) (by omega) hX) (by omega) hX) (by omega) hX))
      (first
        | (go_at_call 22; refine (HTO.out _).mono ?_; rintro e w5 ⟨rfl, b5⟩; have s5 : Se w d p n c r wc w5 := Se.call (And.left (by assumption)) b5; have z5 := s5.size; (first | have k5 := kept_newD b5 | have k5 := kept_new b5 | skip); clear b5)
        | (go_at_call 15; refine (HTR.out _).mono ?_; rintro e w6 ⟨rfl, b6⟩; have s6 : Se w d p n c r wc w6 := Se.call (And.left (by assumption)) b6; have z6 := s6.size; (try have k6 := kept_new b6); (try have k6 := kept_old k5 b6); clear b6)
        | (go_at_call 29; refine (HI.out _ (HTW.out _ (Se.base (And.left (by assumption)))) (HMW.out _ (Se.base (And.left (by assumption))))).mono ?_; rintro e w7 ⟨rfl, b7⟩; have s7 : Se w d p n c r wc w7 := Se.call (And.left (by assumption)) b7; have z7 := s7.size; (try have k7 := kept_new b7); (try have k7 := kept_old k6 b7); clear b7; (try (have l0 := blk3 k7; obtain ⟨l1, l2, l3, l4, l5, l6, l7⟩ := l0))))
    · go_wp2_with fail
      go_meet
      exact ⟨rfl, _, rfl, by simp [go_sem], by simp [go_sem], by simp [go_sem], Se.alloc s7 _⟩
    all_goals
      go_wp2_with fail
      go_meet
      exact ⟨rfl, _, rfl, by simp [go_sem, l1], by simp [go_sem, l2], by simp [go_sem, l3], Se.set (Se.set (Se.set s7 (by omega) hX) (by omega) hX) (by omega) hX⟩
  case rest =>
  obtain ⟨rfl, b1', rfl, t1, t2, t3, HS1⟩ := hcut
  obtain ⟨r1, r2, r3⟩ := HR.out _ _ HS1.out HB0'.out r1 r2 r3
  have e1 : (C != C) = false := by simp
  go_wp2_with fail
  refine (eqLog_any _ _ _ _).mono ?_
  rintro e w9 ⟨rfl, b9⟩
  have hB9 := Lib.hid (HB0.out _ (HS1.out.call b9).1)
  clear b9
  go_wp2
  go_ret
  exact ⟨rfl, hB9.out⟩
end Go.Proofs.YtkhgdbnicpldkaaDoor
