/- Walks: slices of records: compared, marked, looked through for marks. -/
import Derived.Test.YtkhgdbnicpldkaaDoorLogI
import Derived.Test.YtkhgdbnicpldkaaDoorMtx
namespace Go.Proofs.YtkhgdbnicpldkaaDoor
open Go.RowKit

abbrev rz (rs : List (L × L)) (j : Nat) : L × L := rs[j]?.getD ([], [])
/-- A slice of records that can be read. -/
def RRd (w : World) (v : Value) (rs : List (L × L)) : Prop :=
  ∃ a n cap, v = .slice a n cap ∧ Hid (rs.length = n) ∧ n ≤ 1000 ∧ (0 < n → ∃ g, a = some ⟨g, 0, none⟩ ∧ g < w.heap.size ∧ ∀ j, j < n → w.cell? ⟨g, j * 2, none⟩ = some (.string (mk (rz rs j).1)) ∧ w.cell? ⟨g, j * 2 + 1, none⟩ = some (.string (mk (rz rs j).2)))
theorem recC_get {rs : List (L × L)} {j : Nat} (h : j < rs.length) : (recC rs)[j * 2]? = some (.string (mk (rz rs j).1)) ∧ (recC rs)[j * 2 + 1]? = some (.string (mk (rz rs j).2)) := by
  induction rs generalizing j with
  | nil => simp at h
  | cons q rs ih =>
    cases j with
    | zero => simp [recC, rz]
    | succ j =>
      have := ih (j := j) (by simpa using h)
      rw [show (j + 1) * 2 = j * 2 + 2 by omega]
      simpa [recC, rz] using this
theorem rrd_of {w : World} {base : Nat} {v : Value} {n : Nat} {rs : List (L × L)} (h : w.ownsRow base 27 2 v n (recC rs)) (hn : n ≤ 1000) : RRd w v rs ∧ rs.length = n := by
  have hl : rs.length = n := by have := h.1; rw [recC_len] at this; omega
  obtain ⟨a, c, rfl⟩ : ∃ a c, v = .slice a n c := by
    rcases h.2 with ⟨h, h2⟩ | ⟨g, cap, cur, h, _⟩
    · exact ⟨none, 0, by rw [h, h2]⟩
    · exact ⟨_, _, h⟩
  refine ⟨⟨a, n, c, rfl, hl, hn, fun h0 => ?_⟩, hl⟩
  obtain ⟨g, cap, hv, hb, hlt⟩ := h.form h0
  simp only [Value.slice.injEq] at hv
  obtain ⟨rfl, _, _⟩ := hv
  refine ⟨g, rfl, hlt, fun j hj => ?_⟩
  obtain ⟨h1, h2⟩ := recC_get (rs := rs) (j := j) (by omega)
  have e : ∀ i, (⟨g, 0, none⟩ : Addr).add i = ⟨g, i, none⟩ := fun i => by unfold Addr.add; split <;> simp_all
  have c1 := h.cells (g := g) rfl _ _ h1
  have c2 := h.cells (g := g) rfl _ _ h2
  rw [e] at c1 c2
  exact ⟨c1, c2⟩

theorem eqRec_any (c r : ByteArray) (w : World) :
    Calls Tryd.prog 50 #[.agg #[.string c, .string r], .agg #[.string c, .string r]] w fun e w' => e = .returned (.bool true) ∧ Below w.heap.size w w' := by
  have hb0 : Below w.heap.size w ((w.alloc (.cells #[.string c, .string r] 27)).alloc (.cells #[.string c, .string r] 27)) := ((Below.refl _ _).alloc (Nat.le_refl _) _).alloc (by simp) _
  have e1 : (c.toList != c.toList) = false := by simp
  have e2 : (r.toList != r.toList) = false := by simp
  have e3 : (c.toList == c.toList) = true := by simp
  have e4 : (r.toList == r.toList) = true := by simp
  go_enter Tryd.func50, Tryd.ntmps50
  go_wp2
  go_ret
  exact ⟨rfl, hb0⟩

set_option maxRecDepth 100000 in
set_option maxHeartbeats 1600000 in
theorem eqRecS_any (va vb : Value) (rs : List (L × L)) (w : World) (ha : RRd w va rs) (hb : RRd w vb rs) :
    Calls Tryd.prog 32 #[va, vb] w fun e w' => e = .returned (.bool true) ∧ Below w.heap.size w w' := by
  obtain ⟨a, n, ca, rfl, HN, hn, HA⟩ := ha
  obtain ⟨b, m, cb, rfl, HM, _, HBB⟩ := hb
  obtain rfl : n = m := HN.out.symm.trans HM.out
  have HA := Lib.hid HA
  have HBB := Lib.hid HBB
  clear HM
  have hne : ((n : Int) != (n : Int)) = false := by simp
  go_enter Tryd.func32, Tryd.ntmps32
  go_wp2
  go_loopw [5] (fun i wr => ∃ k : Nat, k ≤ n ∧ i = .int .i64 k ∧ Hid (Below w.heap.size w wr)) (fun i _ => n - (intOf i).toNat)
  case atStart => exact ⟨0, by omega, rfl, Below.refl _ _⟩
  case round =>
    obtain ⟨k, hk, rfl, HB⟩ := hrel
    by_cases hlt : k < n
    · obtain ⟨g1, rfl, hg1, hc1⟩ := HA.out (by omega)
      obtain ⟨g2, rfl, hg2, hc2⟩ := HBB.out (by omega)
      have hltI : (k : Int) < (n : Int) := by omega
      have d1 := (HB.out.cell (p := ⟨g1, k * 2, none⟩) hg1).trans (hc1 k hlt).1
      have d2 := (HB.out.cell (p := ⟨g1, k * 2 + 1, none⟩) hg1).trans (hc1 k hlt).2
      have d3 := (HB.out.cell (p := ⟨g2, k * 2, none⟩) hg2).trans (hc2 k hlt).1
      have d4 := (HB.out.cell (p := ⟨g2, k * 2 + 1, none⟩) hg2).trans (hc2 k hlt).2
      clear hc1 hc2
      generalize (rz rs k).1 = c at *
      generalize (rz rs k).2 = r at *
      have HQ := Lib.hid (eqRec_any (mk c) (mk r) wr.drew)
      have hB1 := HB.out.drew
      have hz := hB1.size
      go_wp2
      go_still_tail 8, (by kernel_rfl)
      go_wp2_with fail
      refine HQ.out.mono ?_
      rintro e w2 ⟨rfl, b2⟩
      have hB2 := Lib.hid (hB1.trans (b2.mono hz))
      go_wp2
      go_roundw
      case rel => exact ⟨k + 1, by omega, by go_num, hB2⟩
      case measure => simp [intOf]; omega
    · obtain rfl : k = n := by omega
      go_wp2
      go_ret
      exact ⟨rfl, HB.out⟩

/-- The marks' cells, from q on. -/
def mkC (q m : Nat) : List Value := (List.range m).map fun i => .string (mtS (q + i))
theorem mkC_len (q m : Nat) : (mkC q m).length = m := by simp [mkC]
theorem mkC_get (q m j : Nat) (h : j < m) : (mkC q m)[j]? = some (.string (mtS (q + j))) := by simp [mkC, h]
theorem mkC_step (xs : List Value) (q m : Nat) (hm : m < xs.length) : (mkC q m ++ xs.drop m).set m (.string (mtS (q + m))) = mkC q (m + 1) ++ xs.drop (m + 1) := by
  have hl := mkC_len q m
  rw [List.set_append_right _ _ (by omega), hl, Nat.sub_self, List.drop_eq_getElem_cons hm, List.set_cons_zero]
  simp [mkC, List.range_succ]
theorem grown_of_below {w w' : World} {row : Option Nat} (h : Below w.heap.size w w') : w.grownBy w' row := ⟨h.os, h.tape, h.output, h.size, fun k hk _ => h.block k hk⟩
theorem markText_at (m : Nat) (h1 : 1 ≤ m) (h2 : m ≤ 10000000000) (w : World) :
    Calls Tryd.prog 51 #[.int .i64 ((m : Int) + 1)] w fun e w' => e = .returned (.string (mtS (m + 1))) ∧ Below w.heap.size w w' := markText_any (m + 1) (by omega) (by omega) w

set_option maxRecDepth 100000 in
set_option maxHeartbeats 1600000 in
theorem markRecS_any (v : Value) (n q base : Nat) (xs : List Value) (w : World) (h : w.ownsRow base 27 2 v n xs) (hn : n ≤ 1000) (hq : 1 ≤ q) (hq2 : q ≤ 100000000) :
    Calls Tryd.prog 33 #[v, .int .i64 q] w fun e w' => e = .returned (.int .i64 ((q + 2 * n : Nat) : Int)) ∧ w'.ownsRow base 27 2 v n (mkC q (2 * n)) ∧ w.grownBy w' v.ownBlock := by
  obtain ⟨a, c, rfl⟩ : ∃ a c, v = .slice a n c := by
    rcases h.2 with ⟨h, h2⟩ | ⟨g, cap, cur, h, _⟩
    · exact ⟨none, 0, by rw [h, h2]⟩
    · exact ⟨_, _, h⟩
  have hx : xs.length = 2 * n := by rw [h.1]; omega
  have HX := Lib.hid hx
  have h0 : w.ownsRow base 27 2 (.slice a n c) n (mkC q 0 ++ xs.drop 0) := by simpa [mkC] using h
  clear hx h
  go_enter Tryd.func33, Tryd.ntmps33
  go_wp2
  go_loopw [1, 5] (fun x i wr => ∃ k m : Nat, k ≤ n ∧ i = .int .i64 k ∧ x = .int .i64 m ∧ Hid (m = q + 2 * k) ∧ wr.ownsRow base 27 2 (.slice a n c) n (mkC q (2 * k) ++ xs.drop (2 * k)) ∧ Hid (w.grownBy wr (Value.slice a n c).ownBlock)) (fun _ i _ => n - (intOf i).toNat)
  case atStart => exact ⟨0, q, by omega, rfl, rfl, rfl, h0, World.grownBy.refl _ _⟩
  case round =>
    obtain ⟨k, m, hk, rfl, rfl, HM, ho, HG⟩ := hrel
    have hm1 : 1 ≤ m ∧ m ≤ 10000000000 := by have := HM.out; omega
    by_cases hlt : k < n
    · obtain ⟨g, cap, hv, hgb, hgl⟩ := ho.form (by omega)
      simp only [Value.slice.injEq] at hv
      obtain ⟨rfl, _, rfl⟩ := hv
      have hltI : (k : Int) < (n : Int) := by omega
      have HT1 := Lib.hid (fun w => markText_any m hm1.1 (by omega) w)
      have HT2 := Lib.hid (fun w => markText_at m hm1.1 hm1.2 w)
      have HS1 := Lib.hid (show (mkC q (2 * k) ++ xs.drop (2 * k)).set (k * 2) (.string (mtS m)) = mkC q (2 * k + 1) ++ xs.drop (2 * k + 1) from by rw [HM.out, Nat.mul_comm k 2]; exact mkC_step xs q (2 * k) (by rw [HX.out]; omega))
      have HS2 := Lib.hid (show (mkC q (2 * k + 1) ++ xs.drop (2 * k + 1)).set (k * 2 + 1) (.string (mtS (m + 1))) = mkC q (2 * (k + 1)) ++ xs.drop (2 * (k + 1)) from by rw [HM.out, Nat.mul_comm k 2, Nat.add_assoc]; exact mkC_step xs q (2 * k + 1) (by rw [HX.out]; omega))
      have HL := Lib.hid (show ∀ m, m ≤ 2 * n → (mkC q m ++ xs.drop m).length = 2 * n from fun m hm => by rw [List.length_append, mkC_len, List.length_drop, HX.out]; omega)
      generalize mtS m = s1 at *
      generalize mtS (m + 1) = s2 at *
      go_wp2_with fail
      refine (HT1.out _).mono ?_
      rintro e w1 ⟨rfl, b1⟩
      have ho1 := row_below ho b1
      have HG1 := Lib.hid (HG.out.trans' (grown_of_below b1))
      have hfr := ho1.frozenAt (k * 2)
      obtain ⟨y, hcell⟩ : ∃ y, w1.cell? ⟨g, k * 2, none⟩ = some y := by
        have hc := ho1.cellAt (k * 2) (by omega)
        rw [List.getElem?_eq_getElem (by rw [HL.out _ (by omega)]; omega)] at hc
        exact ⟨_, hc⟩
      have hst := ho1.stored (k * 2) (.string s1)
      rw [HS1.out] at hst
      have HST := Lib.hid hst
      clear hst ho ho1 b1
      go_wp2_with fail
      refine (HT2.out _).mono ?_
      rintro e w2 ⟨rfl, b2⟩
      have ho2 := row_below HST.out.1 b2
      have HG2 := Lib.hid ((HG1.out.trans' HST.out.2).trans' (grown_of_below b2))
      have hfr2 := ho2.frozenAt (k * 2 + 1)
      obtain ⟨y2, hcell2⟩ : ∃ y, w2.cell? ⟨g, k * 2 + 1, none⟩ = some y := by
        have hc := ho2.cellAt (k * 2 + 1) (by omega)
        rw [List.getElem?_eq_getElem (by rw [HL.out _ (by omega)]; omega)] at hc
        exact ⟨_, hc⟩
      have hst := ho2.stored (k * 2 + 1) (.string s2)
      rw [HS2.out] at hst
      have HST2 := Lib.hid hst
      clear hst ho2 b2 hfr hcell
      go_wp2
      go_roundw
      case rel => exact ⟨k + 1, m + 2, by omega, by go_num, int_eq (by omega), by have := HM.out; show m + 2 = q + 2 * (k + 1); omega, HST2.out.1, HG2.out.trans' HST2.out.2⟩
      case measure => simp [intOf]; omega
    · obtain rfl : k = n := by omega
      go_wp2
      go_ret
      refine ⟨by rw [← HM.out]; rfl, ?_, HG.out⟩
      rw [List.drop_of_length_le (by rw [HX.out]; exact Nat.le_refl _), List.append_nil] at ho
      exact ho

set_option maxRecDepth 100000 in
set_option maxHeartbeats 1600000 in
theorem heldRecS_any (v : Value) (n q base : Nat) (w : World) (h : w.ownsRow base 27 2 v n (mkC q (2 * n))) (hn : n ≤ 1000) (hq : 1 ≤ q) (hq2 : q ≤ 100000000) :
    Calls Tryd.prog 34 #[v, .int .i64 q] w fun e w' => e = .returned (.int .i64 ((q + 2 * n : Nat) : Int)) ∧ Below w.heap.size w w' := by
  obtain ⟨a, c, rfl⟩ : ∃ a c, v = .slice a n c := by
    rcases h.2 with ⟨h, h2⟩ | ⟨g, cap, cur, h, _⟩
    · exact ⟨none, 0, by rw [h, h2]⟩
    · exact ⟨_, _, h⟩
  have HO := Lib.hid h
  clear h
  go_enter Tryd.func34, Tryd.ntmps34
  go_wp2
  go_loopw [1, 5] (fun x i wr => ∃ k m : Nat, k ≤ n ∧ i = .int .i64 k ∧ x = .int .i64 m ∧ Hid (m = q + 2 * k) ∧ Hid (Below w.heap.size w wr)) (fun _ i _ => n - (intOf i).toNat)
  case atStart => exact ⟨0, q, by omega, rfl, rfl, rfl, Below.refl _ _⟩
  case round =>
    obtain ⟨k, m, hk, rfl, rfl, HM, HB⟩ := hrel
    have hm1 : 1 ≤ m ∧ m ≤ 10000000000 := by have := HM.out; omega
    by_cases hlt : k < n
    · obtain ⟨g, cap, hv, hgb, hgl⟩ := HO.out.form (by omega)
      simp only [Value.slice.injEq] at hv
      obtain ⟨rfl, _, rfl⟩ := hv
      have hltI : (k : Int) < (n : Int) := by omega
      have HT1 := Lib.hid (fun w => markText_any m hm1.1 (by omega) w)
      have HT2 := Lib.hid (fun w => markText_at m hm1.1 hm1.2 w)
      have hc1 := HO.out.cellAt (k * 2) (by omega)
      rw [mkC_get _ _ _ (by omega), show q + k * 2 = m by rw [HM.out]; omega] at hc1
      have hc2 := HO.out.cellAt (k * 2 + 1) (by omega)
      rw [mkC_get _ _ _ (by omega), show q + (k * 2 + 1) = m + 1 by rw [HM.out]; omega] at hc2
      have HC := Lib.hid (fun w' (hb : Below w.heap.size w w') => (show w'.cell? ⟨g, k * 2, none⟩ = some (.string (mtS m)) ∧ w'.cell? ⟨g, k * 2 + 1, none⟩ = some (.string (mtS (m + 1))) from ⟨(hb.cell (p := ⟨g, k * 2, none⟩) hgl).trans hc1, (hb.cell (p := ⟨g, k * 2 + 1, none⟩) hgl).trans hc2⟩))
      clear hc1 hc2
      generalize mtS m = s1 at *
      generalize mtS (m + 1) = s2 at *
      have e1 : (s1.toList != s1.toList) = false := by simp
      have e2 : (s2.toList != s2.toList) = false := by simp
      obtain ⟨p1, p2⟩ := HC.out _ HB.out.drew
      have hz := HB.out.size
      go_wp2
      go_region_held3 (fun w' => w'.cell? ⟨g, k * 2, none⟩ = some (.string s1))
        (first | exact p1 | exact r1)
        ((go_at_call 51; refine (HT1.out _).mono ?_; rintro e w2 ⟨rfl, b2⟩; obtain ⟨r1, r2⟩ := HC.out w2 (HB.out.drew.trans (b2.mono hz))))
      have hB2 := HB.out.drew.trans (b2.mono hz)
      have hz2 := hB2.size
      obtain ⟨_, p2⟩ := HC.out _ hB2.drew
      have HB2 := Lib.hid hB2
      clear b2 hB2 r1
      go_wp2
      go_region_held3 (fun w' => w'.cell? ⟨g, k * 2 + 1, none⟩ = some (.string s2))
        (first | exact p2 | exact r4)
        ((go_at_call 51; refine (HT2.out _).mono ?_; rintro e w3 ⟨rfl, b3⟩; obtain ⟨r3, r4⟩ := HC.out w3 (HB2.out.drew.trans (b3.mono hz2))))
      have HB3 := Lib.hid (HB2.out.drew.trans (b3.mono hz2))
      clear b3
      go_wp2
      go_roundw
      case rel => exact ⟨k + 1, m + 2, by omega, by go_num, int_eq (by omega), by have := HM.out; show m + 2 = q + 2 * (k + 1); omega, HB3.out⟩
      case measure => simp [intOf]; omega
    · obtain rfl : k = n := by omega
      go_wp2
      go_ret
      exact ⟨by rw [← HM.out]; rfl, HB.out⟩
end Go.Proofs.YtkhgdbnicpldkaaDoor
