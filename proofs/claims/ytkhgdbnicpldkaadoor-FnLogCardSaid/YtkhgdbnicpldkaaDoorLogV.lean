/- Walks: IsValidLog on both sides. -/
import Derived.Test.YtkhgdbnicpldkaaDoorLogO
import Derived.Test.YtkhgdbnicpldkaaDoorLogQ
import Derived.Test.YtkhgdbnicpldkaaDoorRlgW
namespace Go.Proofs.YtkhgdbnicpldkaaDoor
open Go.RowKit

def vlB (d p : ByteArray) (n : Int) : Bool := vlOk d.data.toList p.data.toList n
def VlPost (w : World) (d p : ByteArray) (n : Int) (e : Ending) (w' : World) : Prop := e = .returned (.bool (vlB d p n)) ∧ Below w.heap.size w w'
theorem VlPost.mk_ {w w' : World} {d p : ByteArray} {n : Int} {e : Ending} {b : Bool} (h : vlB d p n = b) (he : e = .returned (.bool b)) (hb : Below w.heap.size w w') : VlPost w d p n e w' := ⟨by rw [h]; exact he, hb⟩
theorem vlB_big {d p : ByteArray} {n : Int} (h : ¬ d.size + p.size ≤ 30000) : vlB d p n = false := by
  cases hv : vlB d p n
  · rfl
  · have := vl_size hv
    rw [List.length_append, ← size_data, ← size_data] at this
    exact absurd this h
theorem vlB_eq {d p : ByteArray} {n : Int} {n1 n2 m1 : Nat} (h1 : (finR (d.data.toList ++ p.data.toList)).2 = n1) (h2 : (finR d.data.toList).2 = n2) (h3 : (finR (d.data.toList ++ p.data.toList)).1.length = m1) :
    vlB d p n = (decide (n1 = d.size + p.size) && decide (n2 = d.size) && decide ((m1 : Int) = n)) := by
  unfold vlB vlOk
  rw [h1, h2, h3, List.length_append, ← size_data, ← size_data]
theorem cat_data (d p : ByteArray) : (d ++ p).data.toList = d.data.toList ++ p.data.toList := data_append d p
theorem cat_size (d p : ByteArray) : (d ++ p).size = d.size + p.size := ByteArray.size_append

set_option maxHeartbeats 3200000 in
set_option maxRecDepth 100000 in
theorem l27Log_any (d p : ByteArray) (n : Int) (hs : d.size + p.size ≤ 1048576) (w : World) :
    Calls Tryd.prog 49 #[.agg #[.string d, .string p, .int .i64 n]] w (VlPost w d p n) := by
  have hb0 : Below w.heap.size w (w.alloc (.cells #[.string d, .string p, .int .i64 n] 31)) := (Below.refl _ _).alloc (Nat.le_refl _) _
  have hcat : ¬ 9223372036854775807 < d.size + p.size := by omega
  by_cases h1 : d.size + p.size ≤ 30000
  case neg =>
    have h1I : (30000 : Int) < (d.size : Int) + (p.size : Int) := by omega
    go_enter Tryd.func49, Tryd.ntmps49
    go_wp2
    go_ret
    exact VlPost.mk_ (vlB_big h1) rfl hb0
  have h1I : ¬ (30000 : Int) < (d.size : Int) + (p.size : Int) := by omega
  obtain ⟨n1, hn1⟩ : ∃ n, (finR (d.data.toList ++ p.data.toList)).2 = n := ⟨_, rfl⟩
  obtain ⟨n2, hn2⟩ : ∃ n, (finR d.data.toList).2 = n := ⟨_, rfl⟩
  obtain ⟨m1, hm1⟩ : ∃ n, (finR (d.data.toList ++ p.data.toList)).1.length = n := ⟨_, rfl⟩
  have HV := Lib.hid (vlB_eq (n := n) hn1 hn2 hm1)
  have HN1 := Lib.hid hn1
  have HN2 := Lib.hid hn2
  have HM1 := Lib.hid hm1
  have HO1 := Lib.hid (fun w => l27Open_any (d ++ p) (by rw [cat_size]; omega) w)
  have HO2 := Lib.hid (fun w => l27Open_any d (by omega) w)
  have HCD := Lib.hid (cat_data d p)
  clear hn1 hn2 hm1
  go_enter Tryd.func49, Tryd.ntmps49
  go_wp2_with fail
  refine (HO1.out _).mono ?_
  rintro e w1 ⟨v1, rfl, o1, _, _, b1⟩
  rw [HCD.out] at o1 ⊢
  rw [HM1.out] at o1
  rw [HN1.out]
  obtain ⟨ao, co, rfl⟩ := row_form o1
  have hB1 := hb0.trans (b1.mono (by simp))
  obtain ⟨q1, q2, q3, q4⟩ := cell3 b1
  have hlt1 : w.heap.size < w1.heap.size := by have := b1.size; simp at this; omega
  clear q4 o1 hb0
  go_wp2_with fail
  refine (HO2.out _).mono ?_
  rintro e w2 ⟨v2, rfl, o2, _, _, b2⟩
  rw [HN2.out]
  have r1 : w2.cell? ⟨w.heap.size, 0, none⟩ = some (.string d) := (b2.cell (p := ⟨w.heap.size, 0, none⟩) hlt1).trans q1
  have r2 : w2.cell? ⟨w.heap.size, 1, none⟩ = some (.string p) := (b2.cell (p := ⟨w.heap.size, 1, none⟩) hlt1).trans q2
  have r3 : w2.cell? ⟨w.heap.size, 2, none⟩ = some (.int .i64 n) := (b2.cell (p := ⟨w.heap.size, 2, none⟩) hlt1).trans q3
  have hB2 := Lib.hid (hB1.trans (b2.mono hB1.size))
  obtain ⟨ao2, co2, rfl⟩ := row_form o2
  clear o2 b2 b1 hB1 q1 q2 q3
  by_cases c1 : n1 = d.size + p.size
  case neg =>
    have c1I : ¬ (n1 : Int) = (d.size : Int) + (p.size : Int) := by omega
    have c1d : ((n1 : Int) == (d.size : Int) + (p.size : Int)) = false := by simpa using c1I
    have HR : Hid (vlB d p n = false) := HV.out.trans (by simp [c1])
    go_wp2
    go_ret
    exact VlPost.mk_ HR.out rfl hB2.out
  have c1I : (n1 : Int) = (d.size : Int) + (p.size : Int) := by omega
  have c1d : ((n1 : Int) == (d.size : Int) + (p.size : Int)) = true := by simpa using c1I
  by_cases c2 : n2 = d.size
  case neg =>
    have c2I : ¬ (n2 : Int) = (d.size : Int) := by omega
    have c2d : ((n2 : Int) == (d.size : Int)) = false := by simpa using c2I
    have HR : Hid (vlB d p n = false) := HV.out.trans (by simp [c2])
    clear c1
    go_wp2
    go_ret
    exact VlPost.mk_ HR.out rfl hB2.out
  have c2I : (n2 : Int) = (d.size : Int) := by omega
  have c2d : ((n2 : Int) == (d.size : Int)) = true := by simpa using c2I
  by_cases c3 : (m1 : Int) = n
  case neg =>
    have c3d : ((m1 : Int) == n) = false := by simpa using c3
    have HR : Hid (vlB d p n = false) := HV.out.trans (by simp [c3])
    clear c1 c2
    go_wp2
    go_ret
    exact VlPost.mk_ HR.out rfl hB2.out
  have c3d : ((m1 : Int) == n) = true := by simpa using c3
  have HR : Hid (vlB d p n = true) := HV.out.trans (by simp [c1, c2, c3])
  clear c1 c2 c3
  go_wp2
  go_ret
  exact VlPost.mk_ HR.out rfl hB2.out

theorem specVl_any (d p : ByteArray) (n : Int) (hs : d.size + p.size ≤ 1048576) (w : World) :
    Calls Tryd.prog 21 #[.agg #[.string d, .string p, .int .i64 n]] w (VlPost w d p n) := by
  have hb0 : Below w.heap.size w (w.alloc (.cells #[.string d, .string p, .int .i64 n] 31)) := (Below.refl _ _).alloc (Nat.le_refl _) _
  have HL := Lib.hid (fun w => l27Log_any d p n hs w)
  go_enter Tryd.func21, Tryd.ntmps21
  go_wp2_with fail
  refine (HL.out _).mono ?_
  rintro e w1 ⟨rfl, b1⟩
  have hB := hb0.trans (b1.mono (by simp))
  generalize hv : vlB d p n = v at *
  have HV := Lib.hid hv
  clear hv
  go_wp2
  go_ret
  exact VlPost.mk_ HV.out rfl hB

set_option maxHeartbeats 3200000 in
set_option maxRecDepth 100000 in
theorem implVl_any (d p : ByteArray) (n : Int) (hs : d.size + p.size ≤ 1048576) (w : World) (ht : TabOk w) (hmx : MaxOk w) :
    Calls Tryd.prog 23 #[.agg #[.string d, .string p, .int .i64 n]] w (VlPost w d p n) := by
  have hb0 : Below w.heap.size w (w.alloc (.cells #[.string d, .string p, .int .i64 n] 31)) := (Below.refl _ _).alloc (Nat.le_refl _) _
  have hcat : ¬ 9223372036854775807 < d.size + p.size := by omega
  have hva : (finR d.data.toList).2 = d.size ↔ (d.size : Int) ∈ finE (d.data.toList ++ p.data.toList) := by
    have := vl_any (d := d.data.toList) (p := p.data.toList)
    rw [← size_data] at this; exact this
  obtain ⟨n1, hn1⟩ : ∃ n, (finR (d.data.toList ++ p.data.toList)).2 = n := ⟨_, rfl⟩
  obtain ⟨n2, hn2⟩ : ∃ n, (finR d.data.toList).2 = n := ⟨_, rfl⟩
  obtain ⟨m1, hm1⟩ : ∃ n, (finR (d.data.toList ++ p.data.toList)).1.length = n := ⟨_, rfl⟩
  rw [hn2] at hva
  have HV := Lib.hid (vlB_eq (n := n) hn1 hn2 hm1)
  have HN1 := Lib.hid hn1
  have HM1 := Lib.hid hm1
  have HO1 := Lib.hid (fun w ht hm => readRecords_any (d ++ p) (by rw [cat_size]; omega) w ht hm)
  have HTW := Lib.hid (ht.below hb0)
  have HMW := Lib.hid (hmx.below hb0)
  have HCD := Lib.hid (cat_data d p)
  have HCS := Lib.hid (cat_size d p)
  obtain ⟨es, hes⟩ : ∃ l, finE (d.data.toList ++ p.data.toList) = l := ⟨_, rfl⟩
  rw [hes] at hva
  have HES := Lib.hid hes
  have HVA := Lib.hid hva
  clear hn1 hn2 hm1 ht hmx hes hva
  go_enter Tryd.func23, Tryd.ntmps23
  go_wp2_with fail
  refine (HO1.out _ HTW.out HMW.out).mono ?_
  rintro e w1 ⟨v1, v2, rfl, o1, o2, hl2, hlast, hn1, hm60, b1⟩
  rw [HCD.out] at o1 o2 hl2 hlast hn1 hm60
  rw [HN1.out, HM1.out, HES.out] at hlast
  rw [HM1.out] at o1 hm60 hl2
  rw [HES.out] at o2 hl2
  obtain ⟨ao, co, rfl⟩ := row_form o1
  obtain ⟨g, cap, rfl, hgb, hglt⟩ := o2.form (by omega)
  obtain ⟨m2, hm2⟩ : ∃ m, es.length = m := ⟨_, rfl⟩
  rw [hm2] at hl2 o2 ⊢
  have hcells : ∀ j, j < m2 → w1.cell? ⟨g, j, none⟩ = some (.int .i64 (es[j]?.getD 0)) := fun j hj => by
    have := o2.cells (g := g) rfl j (.int .i64 (es[j]?.getD 0)) (by
      simp only [ints, List.getElem?_map]
      rw [List.getElem?_eq_getElem (by omega)]; rfl)
    rw [show (⟨g, 0, none⟩ : Addr).add j = ⟨g, j, none⟩ from by unfold Addr.add; split <;> simp_all] at this
    exact this
  have hmem : (d.size : Int) ∈ es ↔ ∃ j, j < m2 ∧ es[j]?.getD 0 = (d.size : Int) := by
    rw [List.mem_iff_getElem]
    constructor
    · rintro ⟨j, hj, e⟩; exact ⟨j, by omega, by rw [List.getElem?_eq_getElem hj]; exact e⟩
    · rintro ⟨j, hj, e⟩; rw [List.getElem?_eq_getElem (by omega)] at e; exact ⟨j, by omega, e⟩
  have hE := Lib.hid (HVA.out.trans hmem)
  have hcm : w1.cell? ⟨g, m1, none⟩ = some (.int .i64 n1) := by rw [hcells m1 (by omega), hlast]
  have hB1 := Lib.hid (hb0.trans (b1.mono (by simp)))
  obtain ⟨q1, q2, q3, q4⟩ := cell3 b1
  have hm12 : (m1 : Int) < (m2 : Int) := by omega
  have hm2b : m2 ≤ 61 := by omega
  have HXE : Hid (∀ j : Nat, es[j]?.getD 0 = (d.size : Int) ↔ decide (es[j]?.getD 0 = (d.size : Int)) = true) := fun j => by simp
  clear q4 o1 o2 hb0 b1 hlast hl2 hmem hm2 hn1
  have hsz := HCS.out
  have hsI : ((d ++ p).size : Int) = (d.size : Int) + (p.size : Int) := by omega
  by_cases c1 : n1 = d.size + p.size
  case neg =>
    have c1I : ¬ (n1 : Int) = (d.size : Int) + (p.size : Int) := by omega
    have c1d : ((n1 : Int) != (d.size : Int) + (p.size : Int)) = true := by simpa using c1I
    have HR : Hid (vlB d p n = false) := HV.out.trans (by simp [c1])
    go_wp2
    go_ret
    exact VlPost.mk_ HR.out rfl hB1.out
  have c1I : (n1 : Int) = (d.size : Int) + (p.size : Int) := by omega
  have c1d : ((n1 : Int) != (d.size : Int) + (p.size : Int)) = false := by simpa using c1I
  by_cases c3 : (m1 : Int) = n
  case neg =>
    have c3d : ((m1 : Int) != n) = true := by simpa using c3
    have HR : Hid (vlB d p n = false) := HV.out.trans (by simp [c3])
    clear c1
    go_wp2
    go_ret
    exact VlPost.mk_ HR.out rfl hB1.out
  have c3d : ((m1 : Int) != n) = false := by simpa using c3
  have HR : Hid (vlB d p n = decide (n2 = d.size)) := HV.out.trans (by simp [c1, c3])
  clear c1 c3
  have HCL := Lib.hid hcells
  clear hcells
  go_wp2
  go_loopw [35] (fun i wr => ∃ k : Nat, k ≤ m2 ∧ i = .int .i64 k ∧ Hid (∀ j, j < k → ¬ es[j]?.getD 0 = (d.size : Int)) ∧ Hid (w1 = wr)) (fun i _ => m2 - (intOf i).toNat)
  case atStart => exact ⟨0, by omega, rfl, fun j hj => by omega, rfl⟩
  case round =>
    obtain ⟨k, hk, rfl, HJ, HW⟩ := hrel
    obtain rfl := HW.out
    clear HW
    by_cases hkm : k < m2
    case neg =>
      have hkI : ¬ (k : Int) < (m2 : Int) := by omega
      have HR2 : Hid (vlB d p n = false) := HR.out.trans (by
        rw [decide_eq_false_iff_not, hE.out]
        rintro ⟨j, hj, e⟩
        exact HJ.out j (by omega) e)
      go_wp2
      go_ret
      exact VlPost.mk_ HR2.out rfl hB1.out
    have hkI : (k : Int) < (m2 : Int) := by omega
    have hck := HCL.out k hkm
    by_cases hx : es[k]?.getD 0 = (d.size : Int)
    case pos =>
      have HR2 : Hid (vlB d p n = true) := HR.out.trans (by
        rw [decide_eq_true_iff, hE.out]
        exact ⟨k, hkm, hx⟩)
      rw [hx] at hck
      clear hx
      go_wp2
      go_ret
      exact VlPost.mk_ HR2.out rfl hB1.out
    have HX := Lib.hid hx
    obtain ⟨x, hx2⟩ : ∃ x, es[k]?.getD 0 = x := ⟨_, rfl⟩
    rw [hx2] at hck hx
    clear hx2
    have hxd : (x == (d.size : Int)) = false := by simpa using hx
    go_wp2
    go_roundw
    case rel =>
      refine ⟨k + 1, by omega, rfl, fun j hj => ?_, trivial⟩
      by_cases e : j = k
      · rw [e]; exact HX.out
      · exact HJ.out j (by omega)
    case measure => simp only [intOf]; omega
end Go.Proofs.YtkhgdbnicpldkaaDoor
