/- Walks: RecoverLog, and its law. -/
import Derived.Test.YtkhgdbnicpldkaaDoorLogO
namespace Go.Proofs.YtkhgdbnicpldkaaDoor
open Go.RowKit

def rlOk (s : ByteArray) : Bool := decide (s.size ≤ 30000)
def rlD (s : ByteArray) : ByteArray := if rlOk s then mk (s.data.toList.take (finR s.data.toList).2) else ⟨#[]⟩
def rlC (s : ByteArray) : Int := if rlOk s then ((finR s.data.toList).1.length : Int) else 0
def rlE (s : ByteArray) : Int := if rlOk s then ((finR s.data.toList).2 : Int) else 0
def RlPost (w : World) (s : ByteArray) (e : Ending) (w' : World) : Prop := e = .returned (.tuple #[.agg #[.string (rlD s), .string ⟨#[]⟩, .int .i64 (rlC s)], .int .i64 (rlE s), .bool (rlOk s)]) ∧ Below w.heap.size w w'
theorem RlPost.no {w w' : World} {s : ByteArray} {e : Ending} (h : ¬ s.size ≤ 30000) (he : e = .returned (.tuple #[.agg #[.string ⟨#[]⟩, .string ⟨#[]⟩, .int .i64 0], .int .i64 0, .bool false])) (hb : Below w.heap.size w w') : RlPost w s e w' := by
  have h1 : rlOk s = false := by simp [rlOk]; omega
  exact ⟨by unfold rlD rlC rlE; rw [h1]; exact he, hb⟩
theorem RlPost.yes {w w' : World} {s : ByteArray} {e : Ending} {m n : Nat} (h : s.size ≤ 30000) (hm : (finR s.data.toList).1.length = m) (hn : (finR s.data.toList).2 = n) (he : e = .returned (.tuple #[.agg #[.string (s.extract 0 n), .string ⟨#[]⟩, .int .i64 m], .int .i64 n, .bool true])) (hb : Below w.heap.size w w') : RlPost w s e w' := by
  have h1 : rlOk s = true := by simp [rlOk]; omega
  refine ⟨?_, hb⟩
  unfold rlD rlC rlE
  rw [h1, if_pos rfl, if_pos rfl, if_pos rfl, hm, hn, ← ext_take]
  exact he
theorem below_set {B b j : Nat} {a w : World} {u : Value} (h : Below B a w) (hb : B ≤ b) : Below B a (w.setCell ⟨b, j, none⟩ u) := h.setCell (p := ⟨b, j, none⟩) hb _
theorem row_form {w : World} {base m size : Nat} {e : TypeId} {v : Value} {xs : List Value} (h : w.ownsRow base e size v m xs) : ∃ a c, v = .slice a m c := by
  rcases h.2 with ⟨h, h2⟩ | ⟨g, cap, cur, h, _⟩
  · exact ⟨none, 0, by rw [h, h2]⟩
  · exact ⟨_, _, h⟩
/-- A result's own block, behind a call. -/
theorem cell3 {w w1 : World} {T : TypeId} {a b c : Value} (hb : Below (w.alloc (.cells #[a, b, c] T)).heap.size (w.alloc (.cells #[a, b, c] T)) w1) :
    w1.cell? ⟨w.heap.size, 0, none⟩ = some a ∧ w1.cell? ⟨w.heap.size, 1, none⟩ = some b ∧ w1.cell? ⟨w.heap.size, 2, none⟩ = some c ∧ (∀ j, w1.frozen? ⟨w.heap.size, j, none⟩ = false) := by
  have g0 : w1.heap[w.heap.size]? = some (.cells #[a, b, c] T (0, 0)) := by
    rw [hb.block _ (by simp)]; exact heap_alloc_new w _
  refine ⟨?_, ?_, ?_, fun j => frozen_of_row _ _ j _ _ g0⟩
  · rw [cell_of_row _ _ _ _ _ _ g0]; rfl
  · rw [cell_of_row _ _ _ _ _ _ g0]; rfl
  · rw [cell_of_row _ _ _ _ _ _ g0]; rfl

set_option maxHeartbeats 3200000 in
set_option maxRecDepth 100000 in
theorem specRl_any (s : ByteArray) (hs : s.size ≤ maxLen) (w : World) :
    Calls Tryd.prog 17 #[.string s] w (RlPost w s) := by
  unfold maxLen at hs
  have hb0 : Below w.heap.size w (w.alloc (.cells #[.string ⟨#[]⟩, .string ⟨#[]⟩, .int .i64 0] 31)) := (Below.refl _ _).alloc (Nat.le_refl _) _
  have hb0s : Below w.heap.size w (((w.alloc (.cells #[.string ⟨#[]⟩, .string ⟨#[]⟩, .int .i64 0] 31)).setCell ⟨w.heap.size, 0, none⟩ (.string ⟨#[]⟩)).setCell ⟨w.heap.size, 1, none⟩ (.string ⟨#[]⟩)) := (hb0.setCell (p := ⟨w.heap.size, 0, none⟩) (Nat.le_refl _) _).setCell (p := ⟨w.heap.size, 1, none⟩) (Nat.le_refl _) _
  by_cases h1 : s.size ≤ 30000
  case neg =>
    have h1I : (30000 : Int) < (s.size : Int) := by omega
    go_enter Tryd.func17, Tryd.ntmps17
    go_wp2
    exact bodyPost_ret (v := .tuple #[.agg #[.string ⟨#[]⟩, .string ⟨#[]⟩, .int .i64 0], .int .i64 0, .bool false]) (by simp [results, Tryd.results17, go_sem]) rfl (RlPost.no h1 rfl (by first | exact hb0 | exact below_set (below_set (below_set hb0 (Nat.le_refl _)) (Nat.le_refl _)) (Nat.le_refl _)))
  have h1I : ¬ (30000 : Int) < (s.size : Int) := by omega
  have HOPN := Lib.hid (fun w => l27Open_any s (by omega) w)
  obtain ⟨m, hm⟩ : ∃ m, (finR s.data.toList).1.length = m := ⟨_, rfl⟩
  obtain ⟨n, hn⟩ : ∃ n, (finR s.data.toList).2 = n := ⟨_, rfl⟩
  have HM := Lib.hid hm
  have HN := Lib.hid hn
  have HSZ := Lib.hid (size_data s)
  clear hm hn
  go_enter Tryd.func17, Tryd.ntmps17
  go_wp2_with fail
  refine (HOPN.out _).mono ?_
  rintro e w1 ⟨v1, rfl, o1, hn1, hm60, b1⟩
  rw [HN.out] at hn1 ⊢
  rw [HM.out] at o1 hm60
  obtain ⟨ao, co, rfl⟩ := row_form o1
  obtain ⟨q1, q2, q3, q4⟩ := cell3 b1
  have q40 := q4 0
  have q41 := q4 1
  have q42 := q4 2
  have hn2 : n ≤ s.size := by rw [HSZ.out]; exact hn1
  have hn2I : (n : Int) ≤ (s.size : Int) := by omega
  have hB1 := Lib.hid (hb0.trans (b1.mono (by simp)))
  clear q4 b1 hb0 hb0s o1
  go_wp2
  exact bodyPost_ret (v := .tuple #[.agg #[.string (s.extract 0 n), .string ⟨#[]⟩, .int .i64 m], .int .i64 n, .bool true]) (by simp [results, Tryd.results17, go_sem, q1, q2, q3]) rfl (RlPost.yes h1 HM.out HN.out rfl (below_set (below_set (below_set hB1.out (Nat.le_refl _)) (Nat.le_refl _)) (Nat.le_refl _)))

set_option maxHeartbeats 3200000 in
set_option maxRecDepth 100000 in
theorem implRl_any (s : ByteArray) (hs : s.size ≤ maxLen) (w : World) (ht : TabOk w) (hmx : MaxOk w) :
    Calls Tryd.prog 18 #[.string s] w (RlPost w s) := by
  unfold maxLen at hs
  have hb0 : Below w.heap.size w (w.alloc (.cells #[.string ⟨#[]⟩, .string ⟨#[]⟩, .int .i64 0] 31)) := (Below.refl _ _).alloc (Nat.le_refl _) _
  by_cases h1 : s.size ≤ 30000
  case neg =>
    have h1I : (30000 : Int) < (s.size : Int) := by omega
    go_enter Tryd.func18, Tryd.ntmps18
    go_wp2
    exact bodyPost_ret (v := .tuple #[.agg #[.string ⟨#[]⟩, .string ⟨#[]⟩, .int .i64 0], .int .i64 0, .bool false]) (by simp [results, Tryd.results18, go_sem]) rfl (RlPost.no h1 rfl (by first | exact hb0 | exact below_set (below_set (below_set hb0 (Nat.le_refl _)) (Nat.le_refl _)) (Nat.le_refl _)))
  have h1I : ¬ (30000 : Int) < (s.size : Int) := by omega
  have HOPN := Lib.hid (fun w ht hm => readRecords_any s (by omega) w ht hm)
  have HTW := Lib.hid (ht.below hb0)
  have HMW := Lib.hid (hmx.below hb0)
  obtain ⟨m, hm⟩ : ∃ m, (finR s.data.toList).1.length = m := ⟨_, rfl⟩
  obtain ⟨n, hn⟩ : ∃ n, (finR s.data.toList).2 = n := ⟨_, rfl⟩
  have HM := Lib.hid hm
  have HN := Lib.hid hn
  have HSZ := Lib.hid (size_data s)
  clear hm hn ht hmx
  go_enter Tryd.func18, Tryd.ntmps18
  go_wp2_with fail
  refine (HOPN.out _ HTW.out HMW.out).mono ?_
  rintro e w1 ⟨v1, v2, rfl, o1, o2, hl2, hlast, hn1, hm60, b1⟩
  rw [HN.out] at hn1 hlast
  rw [HM.out] at o1 hm60 hl2 hlast
  obtain ⟨ao, co, rfl⟩ := row_form o1
  obtain ⟨g, cap, rfl, hgb, hglt⟩ := o2.form (by omega)
  have hcell : w1.cell? ⟨g, m, none⟩ = some (.int .i64 n) := by
    have := o2.cells (g := g) rfl m (.int .i64 n) (by
      simp only [ints, List.getElem?_map]
      rw [List.getElem?_eq_getElem (by omega)]
      rw [List.getElem?_eq_getElem (by omega)] at hlast
      simp only [Option.getD_some] at hlast
      simp [hlast])
    rw [show (⟨g, 0, none⟩ : Addr).add m = ⟨g, m, none⟩ from by unfold Addr.add; split <;> simp_all] at this
    exact this
  have hl2I : (m : Int) < ((finE s.data.toList).length : Int) := by omega
  obtain ⟨q1, q2, q3, q4⟩ := cell3 b1
  have q40 := q4 0
  have q41 := q4 1
  have q42 := q4 2
  have hn2 : n ≤ s.size := by rw [HSZ.out]; exact hn1
  have hn2I : (n : Int) ≤ (s.size : Int) := by omega
  have hB1 := Lib.hid (hb0.trans (b1.mono (by simp)))
  generalize (finE s.data.toList).length = le at *
  clear q4 b1 hb0 o1 o2 hlast hl2
  go_wp2
  exact bodyPost_ret (v := .tuple #[.agg #[.string (s.extract 0 n), .string ⟨#[]⟩, .int .i64 m], .int .i64 n, .bool true]) (by simp [results, Tryd.results18, go_sem, q1, q2, q3]) rfl (RlPost.yes h1 HM.out HN.out rfl (below_set (below_set (below_set hB1.out (Nat.le_refl _)) (Nat.le_refl _)) (Nat.le_refl _)))

theorem eqLog_any (d p : ByteArray) (n : Int) (w : World) :
    Calls Tryd.prog 19 #[.agg #[.string d, .string p, .int .i64 n], .agg #[.string d, .string p, .int .i64 n]] w fun e w' => e = .returned (.bool true) ∧ Below w.heap.size w w' := by
  have hb0 : Below w.heap.size w ((w.alloc (.cells #[.string d, .string p, .int .i64 n] 31)).alloc (.cells #[.string d, .string p, .int .i64 n] 31)) := ((Below.refl _ _).alloc (Nat.le_refl _) _).alloc (by simp) _
  have e1 : (d.toList == d.toList) = true := by simp
  have e2 : (p.toList == p.toList) = true := by simp
  have e3 : (n != n) = false := by simp
  go_enter Tryd.func19, Tryd.ntmps19
  go_wp2
  go_ret
  exact ⟨rfl, hb0⟩

set_option maxHeartbeats 3200000 in
theorem FnExactRecoverLog_walk (s : ByteArray) (w : World) (hs : s.size ≤ maxLen) (ht : TabOk w) (hmx : MaxOk w) :
    Calls Tryd.prog 4 #[.string s] w fun e w' => e = .returned (.bool true) ∧ Below w.heap.size w w' := by
  by_cases h1 : (1048576 : Int) < (s.size : Int)
  · go_enter Tryd.func4, Tryd.ntmps4
    go_wp2
    go_ret
    exact ⟨rfl, Below.refl _ _⟩
  · have HS := fun w => specRl_any s hs w
    have HI := fun w ht hm => implRl_any s hs w ht hm
    unfold RlPost at HS HI
    have HS := Lib.hid HS
    have HI := Lib.hid HI
    have HTW := Lib.hid (fun w' (hb : Below w.heap.size w w') => ht.below hb)
    have HMW := Lib.hid (fun w' (hb : Below w.heap.size w w') => hmx.below hb)
    generalize rlD s = d at *
    generalize rlC s = c at *
    generalize rlE s = x at *
    generalize rlOk s = b at *
    have e1 : (x != x) = false := by simp
    have e2 : (b != b) = false := by simp
    clear ht hmx
    go_enter Tryd.func4, Tryd.ntmps4
    go_wp2_with fail
    refine (HS.out _).mono ?_
    rintro e w1 ⟨rfl, b1⟩
    have hB2 := b1.alloc b1.size (.cells #[.string d, .string ⟨#[]⟩, .int .i64 c] 31)
    have hs2 := hB2.size
    go_wp2_with fail
    refine (HI.out _ (HTW.out _ hB2) (HMW.out _ hB2)).mono ?_
    rintro e w3 ⟨rfl, b3⟩
    obtain ⟨c1, c2, c3, _⟩ := cell3 b3
    have hB3 := hB2.trans (b3.mono hs2)
    have hB4 := hB3.alloc hB3.size (.cells #[.string d, .string ⟨#[]⟩, .int .i64 c] 31)
    have hs4 := hB4.size
    have hal := (Below.refl w3.heap.size w3).alloc (Nat.le_refl _) (.cells #[.string d, .string ⟨#[]⟩, .int .i64 c] 31)
    have hlt : w1.heap.size < w3.heap.size := by have := b3.size; simp at this; omega
    have d1 := (hal.cell (p := ⟨w1.heap.size, 0, none⟩) hlt).trans c1
    have d2 := (hal.cell (p := ⟨w1.heap.size, 1, none⟩) hlt).trans c2
    have d3 := (hal.cell (p := ⟨w1.heap.size, 2, none⟩) hlt).trans c3
    clear hal
    go_wp2_with fail
    refine (eqLog_any _ _ _ _).mono ?_
    rintro e w5 ⟨rfl, b5⟩
    have hB5 := hB4.trans (b5.mono hs4)
    go_wp2
    go_ret
    exact ⟨rfl, hB5⟩
end Go.Proofs.YtkhgdbnicpldkaaDoor
