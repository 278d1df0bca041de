/- Plain Lean: what is recovered behind a crash. -/
import Derived.Test.YtkhgdbnicpldkaaDoorLpm
namespace Go.Proofs.YtkhgdbnicpldkaaDoor
open Go.RowKit

theorem crL_form {l : L} {k : Nat} {t : Bool} (hk : k ≤ l.length) (hs : ∀ b ∈ l, b.toNat ≤ 126) : ∃ j, j ≤ k ∧ (crL l k t = l.take j ∨ ∃ x : UInt8, x ≠ 10 ∧ crL l k t = l.take j ++ [x]) := by
  by_cases h : t = true ∧ 0 < k
  · have e : crL l k t = (l.take k).set (k - 1) (255 - (l.take k)[k - 1]?.getD 0) := by unfold crL; rw [if_pos h]
    obtain ⟨m, rfl⟩ : ∃ m, k = m + 1 := ⟨k - 1, by omega⟩
    have hm : m < l.length := by omega
    have e2 : l.take (m + 1) = l.take m ++ [l[m]] := by rw [List.take_succ_eq_append_getElem hm]
    have e3 : (l.take m).length = m := by rw [List.length_take]; omega
    refine ⟨m, by omega, .inr ⟨255 - l[m], ?_, ?_⟩⟩
    · intro h10
      have h1 := sub255 l[m]
      rw [h10] at h1
      have h2 := hs l[m] (List.getElem_mem hm)
      have h3 : ((10 : UInt8).toNat : Int) = 10 := rfl
      omega
    · have e4 : (l.take m ++ [l[m]])[m]? = some l[m] := by rw [List.getElem?_append_right (by omega), e3]; simp
      rw [e, Nat.add_sub_cancel, e2, e4, List.set_append_right _ _ (by omega), e3, Nat.sub_self]
      rfl
  · exact ⟨k, Nat.le_refl _, .inl (by unfold crL; rw [if_neg h])⟩
theorem crash_fin {d p : ByteArray} {n : Int} {k : Nat} {t : Bool} (hv : vlB d p n = true) (hk : k ≤ p.size) :
    ∃ T : L, finR ((d ++ mk (crL p.data.toList k t)).data.toList) = finR ((d.data.toList ++ p.data.toList).take T.length) ∧ d.data.toList.length ≤ (finR ((d.data.toList ++ p.data.toList).take T.length)).2 ∧ (d ++ mk (crL p.data.toList k t)).data.toList.length ≤ d.data.toList.length + k := by
  obtain ⟨v1, v2, v3⟩ := vl_parts hv
  have hsm := fin_small v1
  have hpk : k ≤ p.data.toList.length := by rw [← size_data]; exact hk
  have key : ∀ j, j ≤ k → (d.data.toList ++ p.data.toList).take (d.data.toList ++ p.data.toList.take j).length = d.data.toList ++ p.data.toList.take j := fun j hj => by
    rw [List.length_append, List.take_length_add_append]
    congr 1
    rw [List.length_take, Nat.min_eq_left (by omega)]
  have hge : ∀ j, d.data.toList.length ≤ (finR (d.data.toList ++ p.data.toList.take j)).2 := fun j => by
    obtain ⟨_, _, h⟩ := fin_app d.data.toList (p.data.toList.take j)
    rw [v2] at h; exact h
  obtain ⟨j, hj, h | ⟨x, hx, h⟩⟩ := crL_form (l := p.data.toList) (k := k) (t := t) hpk (fun b hb => hsm b (List.mem_append.2 (.inr hb)))
  · refine ⟨d.data.toList ++ p.data.toList.take j, ?_, ?_, ?_⟩
    · rw [key j hj, data_append, data_mk, h]
    · rw [key j hj]; exact hge j
    · rw [data_append, data_mk, h, List.length_append, List.length_take]; omega
  · refine ⟨d.data.toList ++ p.data.toList.take j, ?_, ?_, ?_⟩
    · rw [key j hj, data_append, data_mk, h, ← List.append_assoc, fin_tail hx]
    · rw [key j hj]; exact hge j
    · have h1 : (crL p.data.toList k t).length = k := by
        unfold crL
        split
        · rw [List.length_set, List.length_take]; omega
        · rw [List.length_take]; omega
      rw [data_append, data_mk, List.length_append, h1]; exact Nat.le_refl _
theorem crash_plain {d p : ByteArray} {n a : Int} {t : Bool} (h : crOk d p n a = true) :
    rlOk (crS d p n a t) = true ∧ (∃ e : Nat, rlE (crS d p n a t) = (e : Int) ∧ e ≤ (crS d p n a t).size ∧ d.size ≤ e ∧ rlD (crS d p n a t) = (crS d p n a t).extract 0 e) ∧
    (∃ tl, lrL d p n = lrL (rlD (crS d p n a t)) ⟨#[]⟩ (rlC (crS d p n a t)) ++ tl) ∧ vlB (rlD (crS d p n a t)) ⟨#[]⟩ (rlC (crS d p n a t)) = true := by
  have hh : vlB d p n = true ∧ inB a 0 p.size = true := by unfold crOk at h; simpa using h
  obtain ⟨hv, hin⟩ := hh
  obtain ⟨a0, a1⟩ := inB_true hin
  obtain ⟨k, rfl⟩ := Int.eq_ofNat_of_zero_le a0
  have hk : k ≤ p.size := by omega
  have hS : crS d p n k t = d ++ mk (crL p.data.toList k t) := by unfold crS; rw [h, if_pos rfl, Int.toNat_natCast]
  obtain ⟨T, f1, f2, f3⟩ := crash_fin (t := t) hv hk
  have hvl := vl_size (d := d.data.toList) (p := p.data.toList) (n := n) (by unfold vlB at hv; exact hv)
  rw [← hS] at f1 f3
  have hsz := size_data (crS d p n k t)
  have hok : rlOk (crS d p n k t) = true := by
    rw [List.length_append, ← size_data p] at hvl
    simp [rlOk]; omega
  have hfit := fin_fit (crS d p n k t).data.toList
  have hD : rlD (crS d p n k t) = mk ((crS d p n k t).data.toList.take (finR (crS d p n k t).data.toList).2) := by unfold rlD; rw [hok, if_pos rfl]
  obtain ⟨g1, g2, g3⟩ := lines_plain (crS d p n k t) hok
  refine ⟨hok, ⟨(finR (crS d p n k t).data.toList).2, ?_, by omega, ?_, ?_⟩, ?_, g1⟩
  · unfold rlE; rw [hok, if_pos rfl]
  · rw [f1, size_data]; exact f2
  · rw [hD, ext_take]
  · obtain ⟨tl, ht, _⟩ := fin_pre (d.data.toList ++ p.data.toList) T.length
    refine ⟨tl, ?_⟩
    have he : (⟨#[]⟩ : ByteArray).data.toList = [] := rfl
    unfold lrL
    rw [hv, g1, if_pos rfl, if_pos rfl, he, List.append_nil, hD, data_mk, fin_fix, f1]
    exact ht
theorem crash_no {d p : ByteArray} {n a : Int} {t : Bool} (h : crOk d p n a = false) : crS d p n a t = ⟨#[]⟩ := by unfold crS; rw [h]; rfl
theorem crS_len {d p : ByteArray} {n a : Int} {t : Bool} (hs : d.size + p.size ≤ 40000) : (crS d p n a t).size ≤ 40000 := by
  cases h : crOk d p n a
  · rw [crash_no h]; show 0 ≤ _; omega
  · have hh : vlB d p n = true ∧ inB a 0 p.size = true := by unfold crOk at h; simpa using h
    obtain ⟨a0, a1⟩ := inB_true hh.2
    obtain ⟨k, rfl⟩ := Int.eq_ofNat_of_zero_le a0
    have hS : crS d p n k t = d ++ mk (crL p.data.toList k t) := by unfold crS; rw [h, if_pos rfl, Int.toNat_natCast]
    obtain ⟨T, _, _, f3⟩ := crash_fin (t := t) hh.1 (show k ≤ p.size by omega)
    rw [← hS, ← size_data, ← size_data] at f3
    omega
end Go.Proofs.YtkhgdbnicpldkaaDoor
