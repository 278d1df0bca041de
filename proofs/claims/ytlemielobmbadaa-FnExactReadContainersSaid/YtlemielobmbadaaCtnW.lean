/- Walks: the laws' functions on lists of lists and on lists of frames. -/
import Derived.Test.YtlemielobmbadaaCtnP
import Derived.StillTailTactics
namespace Go.Proofs.Ytlemielobmbadaa
open Go.RowKit
set_option maxRecDepth 100000

theorem eqIntS_same (va vb : Value) (xs : List Int) (w : World) (ha : Rd w va xs) (hb : Rd w vb xs) :
    Calls Try.prog 90 #[va, vb] w fun e w' => e = .returned (.bool true) ∧ Below w.heap.size w w' := by
  refine (eqIntS_any va vb xs xs w ha hb).mono ?_
  rintro e w' ⟨rfl, n, rfl⟩
  rw [eqL_refl]
  exact ⟨rfl, ⟨rfl, rfl, rfl, Nat.le_refl _, fun _ _ => rfl⟩⟩
set_option maxHeartbeats 1600000 in
theorem eqIntSS_same (va vb : Value) (xss : List (List Int)) (w : World) (ha : Rdt w (ssD xss) va) (hb : Rdt w (ssD xss) vb) :
    Calls Try.prog 33 #[va, vb] w fun e w' => e = .returned (.bool true) ∧ Below w.heap.size w w' := by
  obtain ⟨a, n, ca, rfl, HN, _, hn, HA⟩ := ssD_opn ha
  obtain ⟨b, m, cb, rfl, HM, _, _, HBB⟩ := ssD_opn hb
  obtain rfl : n = m := HN.out.symm.trans HM.out
  have HA := Lib.hid HA
  have HBB := Lib.hid HBB
  clear HM ha hb
  have hne : ((n : Int) != (n : Int)) = false := by simp
  go_enter Try.func33, Try.ntmps33
  go_wp2
  go_loopw [5] (fun i wr => ∃ k : Nat, k ≤ n ∧ i = .int .i64 k ∧ Hid (Below w.heap.size w wr)) (fun i _ => n - (intOf i).toNat)
  case atStart => exact ⟨0, by omega, rfl, Below.refl _ _⟩
  case round =>
    obtain ⟨k, hk, rfl, HB⟩ := hrel
    by_cases hlt : k < n
    · obtain ⟨g1, o1, rfl, hg1, hc1⟩ := HA.out (by omega)
      obtain ⟨g2, o2, rfl, hg2, hc2⟩ := HBB.out (by omega)
      have hltI : (k : Int) < (n : Int) := by omega
      obtain ⟨u1, p1, q1⟩ := hc1 k hlt
      obtain ⟨u2, p2, q2⟩ := hc2 k hlt
      have d1 := (HB.out.cell (p := ⟨g1, o1 + k, none⟩) hg1).trans p1
      have d2 := (HB.out.cell (p := ⟨g2, o2 + k, none⟩) hg2).trans p2
      have hB1 := HB.out.drew
      have HQ := Lib.hid (eqIntS_same u1 u2 _ wr.drew (q1.belowAll hB1) (q2.belowAll hB1))
      have hz := hB1.size
      clear hc1 hc2 p1 p2 q1 q2
      go_wp2
      go_still_tail 8, (by kernel_rfl)
      go_wp2_with fail
      refine HQ.out.mono ?_
      rintro e w2 ⟨rfl, b2⟩
      have hB2 := Lib.hid (hB1.trans (b2.mono hz))
      go_wp2
      go_roundw
      case rel => exact ⟨k + 1, by omega, by go_num, hB2⟩
      case measure => simp [intOf]; omega
    · obtain rfl : k = n := by omega
      go_wp2
      go_ret
      exact ⟨rfl, HB.out⟩
theorem eqFrame_same (va vb : Value) (f : Frm) (w : World) (ha : RdF w va f) (hb : RdF w vb f) :
    Calls Try.prog 89 #[va, vb] w fun e w' => e = .returned (.bool true) ∧ Below w.heap.size w w' := by
  obtain ⟨u1, rfl, r1⟩ := ha
  obtain ⟨u2, rfl, r2⟩ := hb
  obtain ⟨a1, c1, n1, -, rfl, -⟩ := r1.opn
  obtain ⟨a2, c2, n2, -, rfl, -⟩ := r2.opn
  have hb1 := (Below.refl w.heap.size w).alloc (Nat.le_refl _) (.cells #[.int .i64 f.c, .int .i64 f.p, .slice a1 n1 c1] 50)
  have hb2 := hb1.alloc hb1.size (.cells #[.int .i64 f.c, .int .i64 f.p, .slice a2 n2 c2] 50)
  have HQ := Lib.hid (eqIntS_same _ _ _ _ (r1.belowAll hb2) (r2.belowAll hb2))
  have HB := Lib.hid hb2
  have hcc : (f.c != f.c) = false := by simp
  have hpp : (f.p != f.p) = false := by simp
  clear hb1 hb2 r1 r2
  go_enter Try.func89, Try.ntmps89
  go_wp2_with fail
  refine HQ.out.mono ?_
  rintro e w2 ⟨rfl, b2⟩
  have hB2 := Lib.hid (HB.out.trans (b2.mono HB.out.size))
  go_wp2
  go_ret
  exact ⟨rfl, hB2.out⟩
set_option maxHeartbeats 1600000 in
theorem eqFrameS_same (va vb : Value) (fs : List Frm) (w : World) (ha : Rdt w (frD fs) va) (hb : Rdt w (frD fs) vb) :
    Calls Try.prog 32 #[va, vb] w fun e w' => e = .returned (.bool true) ∧ Below w.heap.size w w' := by
  obtain ⟨a, n, ca, rfl, HN, _, hn, HA⟩ := frD_opn ha
  obtain ⟨b, m, cb, rfl, HM, _, _, HBB⟩ := frD_opn hb
  obtain rfl : n = m := HN.out.symm.trans HM.out
  have HA := Lib.hid HA
  have HBB := Lib.hid HBB
  clear HM ha hb
  have hne : ((n : Int) != (n : Int)) = false := by simp
  go_enter Try.func32, Try.ntmps32
  go_wp2
  go_loopw [5] (fun i wr => ∃ k : Nat, k ≤ n ∧ i = .int .i64 k ∧ Hid (Below w.heap.size w wr)) (fun i _ => n - (intOf i).toNat)
  case atStart => exact ⟨0, by omega, rfl, Below.refl _ _⟩
  case round =>
    obtain ⟨k, hk, rfl, HB⟩ := hrel
    by_cases hlt : k < n
    · obtain ⟨g1, o1, rfl, hg1, hc1⟩ := HA.out (by omega)
      obtain ⟨g2, o2, rfl, hg2, hc2⟩ := HBB.out (by omega)
      have hltI : (k : Int) < (n : Int) := by omega
      obtain ⟨u1, p1, p2, p3, q1⟩ := hc1 k hlt
      obtain ⟨u2, p4, p5, p6, q2⟩ := hc2 k hlt
      generalize fs[k]?.getD nilF = f at *
      have d1 := (HB.out.cell (p := ⟨g1, o1 + k * 3, none⟩) hg1).trans p1
      have d2 := (HB.out.cell (p := ⟨g1, o1 + k * 3 + 1, none⟩) hg1).trans p2
      have d3 := (HB.out.cell (p := ⟨g1, o1 + k * 3 + 2, none⟩) hg1).trans p3
      have d4 := (HB.out.cell (p := ⟨g2, o2 + k * 3, none⟩) hg2).trans p4
      have d5 := (HB.out.cell (p := ⟨g2, o2 + k * 3 + 1, none⟩) hg2).trans p5
      have d6 := (HB.out.cell (p := ⟨g2, o2 + k * 3 + 2, none⟩) hg2).trans p6
      have hB1 := HB.out.drew
      have HQ := Lib.hid (eqFrame_same (.agg #[.int .i64 f.c, .int .i64 f.p, u1]) (.agg #[.int .i64 f.c, .int .i64 f.p, u2]) f wr.drew ⟨_, rfl, q1.belowAll hB1⟩ ⟨_, rfl, q2.belowAll hB1⟩)
      have hz := hB1.size
      clear hc1 hc2 p1 p2 p3 p4 p5 p6 q1 q2
      go_wp2
      go_still_tail 8, (by kernel_rfl)
      go_wp2_with fail
      refine HQ.out.mono ?_
      rintro e w2 ⟨rfl, b2⟩
      have hB2 := Lib.hid (hB1.trans (b2.mono hz))
      go_wp2
      go_roundw
      case rel => exact ⟨k + 1, by omega, by go_num, hB2⟩
      case measure => simp [intOf]; omega
    · obtain rfl : k = n := by omega
      go_wp2
      go_ret
      exact ⟨rfl, HB.out⟩
end Go.Proofs.Ytlemielobmbadaa
