/- Plain Lean: what the log's laws ask. -/
import Derived.Test.YtkhgdbnicpldkaaDoorLpl
import Derived.Test.YtkhgdbnicpldkaaDoorLrlL
import Derived.Test.YtkhgdbnicpldkaaDoorAppL
import Derived.Test.YtkhgdbnicpldkaaDoorSycL
import Derived.Test.YtkhgdbnicpldkaaDoorCrsL
namespace Go.Proofs.YtkhgdbnicpldkaaDoor
open Go.RowKit

theorem vl_parts {d p : ByteArray} {n : Int} (h : vlB d p n = true) : (finR (d.data.toList ++ p.data.toList)).2 = (d.data.toList ++ p.data.toList).length ∧ (finR d.data.toList).2 = d.data.toList.length ∧ ((finR (d.data.toList ++ p.data.toList)).1.length : Int) = n := by
  unfold vlB vlOk at h
  simpa [and_assoc] using h
theorem vl_mk {d p : ByteArray} {n : Int} (h1 : (finR (d.data.toList ++ p.data.toList)).2 = (d.data.toList ++ p.data.toList).length) (h2 : (finR d.data.toList).2 = d.data.toList.length) (h3 : ((finR (d.data.toList ++ p.data.toList)).1.length : Int) = n) : vlB d p n = true := by
  unfold vlB vlOk
  simp [h1, h2, h3]
/-- Recovery of a text that is read whole. -/
theorem rl_whole {s : ByteArray} (hw : (finR s.data.toList).2 = s.data.toList.length) : rlOk s = true ∧ rlD s = s ∧ rlC s = ((finR s.data.toList).1.length : Int) ∧ rlE s = (s.size : Int) := by
  have hl := fin_len s.data.toList
  have hok : rlOk s = true := by have := size_data s; simp [rlOk]; omega
  refine ⟨hok, ?_, ?_, ?_⟩
  · unfold rlD; rw [hok, if_pos rfl, hw, List.take_length, mk_data]
  · unfold rlC; rw [hok, if_pos rfl]
  · unfold rlE; rw [hok, if_pos rfl, hw, ← size_data]

/-- FnLog's facts. -/
theorem log_plain {d p c r : ByteArray} {n : Int} (h : apC d p n c r = 0) :
    vlB d (apP d p n c r) (apN d p n c r) = true ∧ lrL d (apP d p n c r) (apN d p n c r) = lrL d p n ++ [(c.data.toList, r.data.toList)] ∧ ((lrL d (apP d p n c r) (apN d p n c r)).length : Int) = apN d p n c r ∧
    rlOk (d ++ apP d p n c r) = true ∧ rlD (d ++ apP d p n c r) = d ++ apP d p n c r ∧ rlC (d ++ apP d p n c r) = apN d p n c r ∧ rlE (d ++ apP d p n c r) = ((d ++ apP d p n c r).size : Int) ∧
    syS d (apP d p n c r) (apN d p n c r) = d ++ apP d p n c r ∧ syN d (apP d p n c r) (apN d p n c r) = apN d p n c r := by
  have hh : vlB d p n = true ∧ recOk c r = true := by
    unfold apC at h
    split at h
    · assumption
    · cases h
  have hn : n ≠ 60 := by
    intro e
    unfold apC at h
    rw [if_pos hh, if_pos e] at h
    cases h
  have hP : apP d p n c r = p ++ mk (lineL n.toNat c.data.toList r.data.toList) := by unfold apP; rw [if_pos h]
  have hN : apN d p n c r = n + 1 := by unfold apN; rw [if_pos h]
  rw [hP, hN]
  obtain ⟨hv, hrec⟩ := hh
  obtain ⟨v1, v2, v3⟩ := vl_parts hv
  have h60 := fin_60 (d.data.toList ++ p.data.toList)
  have hlt : (finR (d.data.toList ++ p.data.toList)).1.length < 60 := by omega
  have hm := fin_more (c := c.data.toList) (r := r.data.toList) v1 hlt (by rw [mk_data, mk_data]; exact hrec)
  have hk : n.toNat = (finR (d.data.toList ++ p.data.toList)).1.length := by omega
  rw [← hk] at hm
  have hcat : d.data.toList ++ (p ++ mk (lineL n.toNat c.data.toList r.data.toList)).data.toList = (d.data.toList ++ p.data.toList) ++ lineL n.toNat c.data.toList r.data.toList := by rw [data_append, List.append_assoc]
  have hcat2 : (d ++ (p ++ mk (lineL n.toNat c.data.toList r.data.toList))).data.toList = (d.data.toList ++ p.data.toList) ++ lineL n.toNat c.data.toList r.data.toList := by rw [data_append, hcat]
  have hV : vlB d (p ++ mk (lineL n.toNat c.data.toList r.data.toList)) (n + 1) = true := by
    refine vl_mk ?_ v2 ?_
    · rw [hcat, hm]
    · rw [hcat, hm]; simp; omega
  have hL : lrL d (p ++ mk (lineL n.toNat c.data.toList r.data.toList)) (n + 1) = lrL d p n ++ [(c.data.toList, r.data.toList)] := by
    unfold lrL
    rw [hV, hv, if_pos rfl, if_pos rfl, hcat, hm]
  have hR := rl_whole (s := d ++ (p ++ mk (lineL n.toNat c.data.toList r.data.toList))) (by rw [hcat2, hm])
  refine ⟨hV, hL, ?_, hR.1, hR.2.1, ?_, hR.2.2.2, ?_, ?_⟩
  · rw [hL, List.length_append]
    unfold lrL
    rw [hv, if_pos rfl]
    simp; omega
  · rw [hR.2.2.1, hcat2, hm]; simp; omega
  · unfold syS; rw [hV, if_pos rfl]
  · unfold syN; rw [hV, if_pos rfl]
theorem log_same {d p c r : ByteArray} {n : Int} (h : apC d p n c r ≠ 0) : apP d p n c r = p ∧ apN d p n c r = n := by
  unfold apP apN
  rw [if_neg h, if_neg h]
  exact ⟨rfl, rfl⟩

/-- FnLogLines' facts: a recovered log. -/
theorem lines_plain (t : ByteArray) : (rlOk t = true → vlB (rlD t) ⟨#[]⟩ (rlC t) = true ∧ syS (rlD t) ⟨#[]⟩ (rlC t) = rlD t ∧ syN (rlD t) ⟨#[]⟩ (rlC t) = rlC t) := by
  intro h
  have hf := fin_fix t.data.toList
  have hfit := fin_fit t.data.toList
  have hD : rlD t = mk (t.data.toList.take (finR t.data.toList).2) := by unfold rlD; rw [h, if_pos rfl]
  have hC : rlC t = ((finR t.data.toList).1.length : Int) := by unfold rlC; rw [h, if_pos rfl]
  have he : (⟨#[]⟩ : ByteArray).data.toList = [] := rfl
  have hl : (t.data.toList.take (finR t.data.toList).2).length = (finR t.data.toList).2 := by rw [List.length_take]; omega
  have hV : vlB (rlD t) ⟨#[]⟩ (rlC t) = true := by
    refine vl_mk ?_ ?_ ?_
    · rw [he, List.append_nil, hD, data_mk, hf, hl]
    · rw [hD, data_mk, hf, hl]
    · rw [he, List.append_nil, hD, data_mk, hf, hC]
  refine ⟨hV, ?_, ?_⟩
  · unfold syS; rw [hV, if_pos rfl]; exact ba_ext (by rw [data_append, he, List.append_nil])
  · unfold syN; rw [hV, if_pos rfl]
/-- FnLogLines' facts: a line. -/
theorem enc_yes {k : Int} {c r : ByteArray} (h : encOk k c r = true) : rlOk (encS k c r) = true ∧ ((0 < rlE (encS k c r)) ↔ k = 0) ∧ (k = 0 → rlC (encS k c r) = 1) := by
  have h1 : inB k 0 59 = true ∧ recOk c r = true := by unfold encOk at h; simpa using h
  obtain ⟨h2, h3⟩ := inB_true h1.1
  have hS : encS k c r = mk (lineL k.toNat c.data.toList r.data.toList) := encS_yes h
  have hrec : recOk (mk c.data.toList) (mk r.data.toList) = true := by rw [mk_data, mk_data]; exact h1.2
  have hlen := line_len (k := k.toNat) (c := c.data.toList) (r := r.data.toList) (by omega) hrec
  have hok : rlOk (encS k c r) = true := by
    rw [hS]; have := mk_size (lineL k.toNat c.data.toList r.data.toList); simp [rlOk]; omega
  have hE : rlE (encS k c r) = ((finR (lineL k.toNat c.data.toList r.data.toList)).2 : Int) := by unfold rlE; rw [hok, if_pos rfl, hS, data_mk]
  have hC : rlC (encS k c r) = ((finR (lineL k.toNat c.data.toList r.data.toList)).1.length : Int) := by unfold rlC; rw [hok, if_pos rfl, hS, data_mk]
  have hnil : finR ([] : L) = ([], 0) := goR_none (by simp [rdR, hasB])
  obtain ⟨q1, q2⟩ := line_rd (k := k.toNat) (by omega) hrec (seal_nl hrec)
  refine ⟨hok, ?_, ?_⟩
  · rw [hE]
    constructor
    · intro hp
      by_cases hk : k = 0
      · exact hk
      · exfalso
        have : finR (lineL k.toNat c.data.toList r.data.toList) = ([], 0) := by
          refine goR_none ?_
          cases hr : rdR ((lineL k.toNat c.data.toList r.data.toList).drop 0) ([] : List (L × L)).length with
          | none => rfl
          | some q =>
            exfalso
            obtain ⟨c', r'⟩ := q
            rw [List.drop_zero] at hr
            have hh := rdR_has hr
            unfold rdR at hr q1
            rw [if_pos hh] at hr
            rw [if_pos ⟨hh.1, by omega⟩] at q1
            obtain ⟨a1, a2⟩ := pI_iff.1 hr
            obtain ⟨b1, b2⟩ := pI_iff.1 q1
            have e : bodyL 0 c' r' = bodyL k.toNat c.data.toList r.data.toList := (line_parts a1 a2).1.symm.trans (line_parts b1 b2).1
            have e2 := congrArg (bef 32) e
            unfold bodyL at e2
            rw [(bef_app (digs_hasB 0 (x := 32) (by decide))).1, (bef_app (digs_hasB k.toNat (x := 32) (by decide))).1] at e2
            have e3 : k.toNat < 10 := by
              by_cases h10 : k.toNat < 10
              · exact h10
              · have := congrArg List.length e2
                rw [digs_small (n := 0) (by omega), digs_big h10] at this
                have hd : 1 ≤ (digs (k.toNat / 10)).length := by
                  by_cases h9 : k.toNat / 10 < 10
                  · rw [digs_small h9]; simp
                  · rw [digs_big h9]; simp
                rw [List.length_append, List.length_singleton, List.length_singleton] at this; omega
            rw [digs_small (n := 0) (by omega), digs_small e3] at e2
            have e4 := congrArg (fun l => (l.headD 0).toNat) e2
            simp [UInt8.toNat_ofNat'] at e4
            omega
        rw [this] at hp; simp at hp
    · intro hk
      subst hk
      have := fin_more (S := []) (c := c.data.toList) (r := r.data.toList) (by rw [hnil]; rfl) (by rw [hnil]; simp) hrec
      rw [hnil] at this
      simp only [List.nil_append, List.length_nil] at this
      show (0 : Int) < ((finR (lineL (0 : Int).toNat c.data.toList r.data.toList)).2 : Int)
      rw [show (0 : Int).toNat = 0 from rfl, this]
      have := q2
      rw [show (0 : Int).toNat = 0 from rfl] at this
      show (0 : Int) < ((lineL 0 c.data.toList r.data.toList).length : Int)
      omega
  · intro hk
    subst hk
    have := fin_more (S := []) (c := c.data.toList) (r := r.data.toList) (by rw [hnil]; rfl) (by rw [hnil]; simp) hrec
    rw [hnil] at this
    simp only [List.nil_append, List.length_nil] at this
    rw [hC, show (0 : Int).toNat = 0 from rfl, this]
    rfl
end Go.Proofs.YtkhgdbnicpldkaaDoor
