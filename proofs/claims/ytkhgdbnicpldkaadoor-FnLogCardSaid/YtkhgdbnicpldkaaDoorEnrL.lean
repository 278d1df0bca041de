/- The law of EncodeRecord. -/
import Derived.Test.YtkhgdbnicpldkaaDoorNumE
namespace Go.Proofs.YtkhgdbnicpldkaaDoor
open Go.RowKit

theorem encOk_of {k : Int} {c r : ByteArray} {b1 b2 : Bool} (h1 : inB k 0 59 = b1) (h2 : recOk c r = b2) : encOk k c r = (b1 && b2) := by unfold encOk; rw [h1, h2]
theorem encS_no {k : Int} {c r : ByteArray} (h : encOk k c r = false) : encS k c r = mk [] := by unfold encS; rw [h]; rfl
theorem encS_yes {k : Int} {c r : ByteArray} (h : encOk k c r = true) : encS k c r = mk (lineL k.toNat c.data.toList r.data.toList) := by unfold encS; rw [h]; rfl

def EnrPost (w : World) (k : Int) (c r : ByteArray) (e : Ending) (w' : World) : Prop := e = .returned (.tuple #[.string (encS k c r), .bool (encOk k c r)]) ∧ Below w.heap.size w w'
set_option maxHeartbeats 1600000 in
theorem specEnr_any (k : Int) (c r : ByteArray) (hc : c.size ≤ maxLen) (hr : r.size ≤ maxLen) (w : World) :
    Calls Tryd.prog 14 #[.int .i64 k, .agg #[.string c, .string r]] w (EnrPost w k c r) := by
  have hB := (Below.refl w.heap.size w).alloc (Nat.le_refl _) (.cells #[.string c, .string r] 27)
  have hsz := hB.size
  cases h1 : inB k 0 59
  · have HN := Lib.hid (encOk_of (c := c) (r := r) h1 rfl)
    go_enter Tryd.func14, Tryd.ntmps14
    go_wp2_with (first | (go_at_call 42; refine (l1In_any _ _ _ _).mono ?_; rintro e w' ⟨rfl, rfl⟩))
    go_ret2
    exact ⟨by rw [encS_no (HN.out), HN.out]; rfl, hB⟩
  cases h2 : recOk c r
  · have HN := Lib.hid (encOk_of h1 h2)
    go_enter Tryd.func14, Tryd.ntmps14
    go_wp2_with (first | (go_at_call 42; refine (l1In_any _ _ _ _).mono ?_; rintro e w' ⟨rfl, rfl⟩) | (go_at_call 43; refine (l27Good_any c r _ hc hr).mono ?_; rintro e w1 ⟨rfl, b1⟩))
    go_ret2
    exact ⟨by rw [encS_no (HN.out), HN.out]; rfl, hB.trans (b1.mono hsz)⟩
  have HN := Lib.hid (encOk_of h1 h2)
  have HP := Lib.hid (recOk_parts h2)
  obtain ⟨k, rfl⟩ := Int.eq_ofNat_of_zero_le (inB_true h1).1
  have hk : k ≤ 59 := by have := (inB_true h1).2; omega
  have HLN := Lib.hid (fun w => l27Line_any k (by omega) c r (by have := HP.out; omega) (by have := HP.out; omega) w)
  have hcell : ∀ w1, Below (w.alloc (.cells #[.string c, .string r] 27)).heap.size (w.alloc (.cells #[.string c, .string r] 27)) w1 → w1.cell? ⟨w.heap.size, 0, none⟩ = some (.string c) ∧ w1.cell? ⟨w.heap.size, 1, none⟩ = some (.string r) := fun w1 hb => by
    rw [hb.cell (p := ⟨w.heap.size, 0, none⟩) (by simp), hb.cell (p := ⟨w.heap.size, 1, none⟩) (by simp), cell_of_row _ _ _ _ _ _ (heap_alloc_new w _), cell_of_row _ _ _ _ _ _ (heap_alloc_new w _)]
    exact ⟨rfl, rfl⟩
  have HC := Lib.hid hcell
  clear hcell
  go_enter Tryd.func14, Tryd.ntmps14
  go_wp2_with (first | (go_at_call 42; refine (l1In_any _ _ _ _).mono ?_; rintro e w' ⟨rfl, rfl⟩) | (go_at_call 43; refine (l27Good_any c r _ hc hr).mono ?_; rintro e w1 ⟨rfl, b1⟩; obtain ⟨c0, c1⟩ := HC.out w1 b1; have B1 := hB.trans (b1.mono hsz); have hs1 := B1.size) | (go_at_call 44; refine (HLN.out _).mono ?_; rintro e w2 ⟨rfl, b2⟩))
  go_ret2
  exact ⟨by rw [encS_yes (HN.out), HN.out]; rfl, B1.trans (b2.mono hs1)⟩
set_option maxHeartbeats 1600000 in
theorem implEnr_any (k : Int) (c r : ByteArray) (hc : c.size ≤ maxLen) (hr : r.size ≤ maxLen) (w : World) (ht : TabOk w) :
    Calls Tryd.prog 16 #[.int .i64 k, .agg #[.string c, .string r]] w (EnrPost w k c r) := by
  have hB := (Below.refl w.heap.size w).alloc (Nat.le_refl _) (.cells #[.string c, .string r] 27)
  have hsz := hB.size
  cases h1 : inB k 0 59
  · have HN := Lib.hid (encOk_of (c := c) (r := r) h1 rfl)
    go_enter Tryd.func16, Tryd.ntmps16
    go_wp2_with (first | (go_at_call 45; refine (inside_any _ _ _ _).mono ?_; rintro e w' ⟨rfl, rfl⟩))
    go_ret2
    exact ⟨by rw [encS_no (HN.out), HN.out]; rfl, hB⟩
  cases h2 : recOk c r
  · have HN := Lib.hid (encOk_of h1 h2)
    go_enter Tryd.func16, Tryd.ntmps16
    go_wp2_with (first | (go_at_call 45; refine (inside_any _ _ _ _).mono ?_; rintro e w' ⟨rfl, rfl⟩) | (go_at_call 37; refine (implIsRec_any c r _ hc hr).mono ?_; rintro e w1 ⟨rfl, b1⟩))
    go_ret2
    exact ⟨by rw [encS_no (HN.out), HN.out]; rfl, hB.trans (b1.mono hsz)⟩
  have HN := Lib.hid (encOk_of h1 h2)
  have HP := Lib.hid (recOk_parts h2)
  obtain ⟨k, rfl⟩ := Int.eq_ofNat_of_zero_le (inB_true h1).1
  have hk : k ≤ 59 := by have := (inB_true h1).2; omega
  have HLN := Lib.hid (fun w ht => encodeRec_any k (by omega) c r h2 w ht)
  have hcell : ∀ w1, Below (w.alloc (.cells #[.string c, .string r] 27)).heap.size (w.alloc (.cells #[.string c, .string r] 27)) w1 → w1.cell? ⟨w.heap.size, 0, none⟩ = some (.string c) ∧ w1.cell? ⟨w.heap.size, 1, none⟩ = some (.string r) := fun w1 hb => by
    rw [hb.cell (p := ⟨w.heap.size, 0, none⟩) (by simp), hb.cell (p := ⟨w.heap.size, 1, none⟩) (by simp), cell_of_row _ _ _ _ _ _ (heap_alloc_new w _), cell_of_row _ _ _ _ _ _ (heap_alloc_new w _)]
    exact ⟨rfl, rfl⟩
  have HC := Lib.hid hcell
  clear hcell
  go_enter Tryd.func16, Tryd.ntmps16
  go_wp2_with (first | (go_at_call 45; refine (inside_any _ _ _ _).mono ?_; rintro e w' ⟨rfl, rfl⟩) | (go_at_call 37; refine (implIsRec_any c r _ hc hr).mono ?_; rintro e w1 ⟨rfl, b1⟩; obtain ⟨c0, c1⟩ := HC.out w1 b1; have B1 := hB.trans (b1.mono hsz); have hs1 := B1.size) | (go_at_call 46; refine (HLN.out _ (ht.below B1)).mono ?_; rintro e w2 ⟨rfl, b2⟩))
  go_ret2
  exact ⟨by rw [encS_yes (HN.out), HN.out]; rfl, B1.trans (b2.mono hs1)⟩

set_option maxHeartbeats 1600000 in
theorem FnExactEncodeRecord_walk (k : Int) (c r : ByteArray) (w : World) (hk : (Lit.int .i64 k).wf = true) (hc : c.size ≤ maxLen) (hr : r.size ≤ maxLen) (ht : TabOk w) :
    Calls Tryd.prog 3 #[.int .i64 k, .agg #[.string c, .string r]] w fun e w' => e = .returned (.bool true) ∧ Below w.heap.size w w' := by
  have hB := (Below.refl w.heap.size w).alloc (Nat.le_refl _) (.cells #[.string c, .string r] 23)
  have hsz := hB.size
  have HZ := Lib.hid (szRec_any c r 1048576 (w.alloc (.cells #[.string c, .string r] 23)) hc hr (by omega) (by omega))
  by_cases h1 : szRec c r 1048576 < 0
  · have h1d : decide (szRec c r 1048576 < 0) = true := by simpa using h1
    generalize szRec c r 1048576 = z at *
    go_enter Tryd.func3, Tryd.ntmps3
    go_wp2_with (go_at_call 13; refine (HZ.out).mono ?_; rintro e w1 ⟨rfl, b1⟩)
    go_ret
    exact ⟨rfl, hB.trans (b1.mono hsz)⟩
  · have h1d : decide (szRec c r 1048576 < 0) = false := by simpa using h1
    have HS := fun w => specEnr_any k c r hc hr w
    have HI := fun w ht => implEnr_any k c r hc hr w ht
    unfold EnrPost at HS HI
    have HS := Lib.hid HS
    have HI := Lib.hid HI
    have HT := Lib.hid ht
    generalize szRec c r 1048576 = z at *
    generalize encOk k c r = b at *
    generalize encS k c r = s at *
    have heq : (b != b) = false := by simp
    have heq2 : (s.toList != s.toList) = false := by simp
    have heq3 : (s.toList == s.toList) = true := by simp
    have hcell : ∀ w1, Below (w.alloc (.cells #[.string c, .string r] 23)).heap.size (w.alloc (.cells #[.string c, .string r] 23)) w1 → w1.cell? ⟨w.heap.size, 0, none⟩ = some (.string c) ∧ w1.cell? ⟨w.heap.size, 1, none⟩ = some (.string r) := fun w1 hb => by
      rw [hb.cell (p := ⟨w.heap.size, 0, none⟩) (by simp), hb.cell (p := ⟨w.heap.size, 1, none⟩) (by simp), cell_of_row _ _ _ _ _ _ (heap_alloc_new w _), cell_of_row _ _ _ _ _ _ (heap_alloc_new w _)]
      exact ⟨rfl, rfl⟩
    have HC := Lib.hid hcell
    clear hcell
    go_enter Tryd.func3, Tryd.ntmps3
    go_wp2_with fail
    refine (HZ.out).mono ?_
    rintro e w1 ⟨rfl, b1⟩
    obtain ⟨c0, c1⟩ := HC.out w1 b1
    go_wp2_with fail
    refine (toRec_any c r _).mono ?_
    rintro e w2 ⟨rfl, b2⟩
    go_wp2_with fail
    refine (HS.out _).mono ?_
    rintro e w3 ⟨rfl, b3⟩
    have B3 := (b1.trans (b2.mono b1.size)).trans (b3.mono (b1.trans (b2.mono b1.size)).size)
    obtain ⟨d0, d1⟩ := HC.out w3 B3
    go_wp2_with fail
    refine (toRec_any c r _).mono ?_
    rintro e w4 ⟨rfl, b4⟩
    have B4 := B3.trans (b4.mono B3.size)
    go_wp2_with fail
    refine (HI.out _ (HT.out.below (hB.trans (B4.mono hsz)))).mono ?_
    rintro e w5 ⟨rfl, b5⟩
    have B5 := B4.trans (b5.mono B4.size)
    go_wp2
    go_ret
    exact ⟨rfl, hB.trans (B5.mono hsz)⟩
end Go.Proofs.YtkhgdbnicpldkaaDoor
