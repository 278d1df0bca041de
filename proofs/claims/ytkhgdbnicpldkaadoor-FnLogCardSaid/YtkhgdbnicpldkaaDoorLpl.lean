/- Plain Lean: a log grows by a record; what recovery reads. -/
import Derived.Test.YtkhgdbnicpldkaaDoorLogQ
namespace Go.Proofs.YtkhgdbnicpldkaaDoor
open Go.RowKit

theorem goR_ge {S : L} : ∀ {f : Nat} {o : List (L × L)} {n : Nat}, ∃ t, (goR S f o n).1 = o ++ t ∧ n ≤ (goR S f o n).2
  | 0, o, n => ⟨[], by simp [goR], by simp [goR]⟩
  | f + 1, o, n => by
    cases h : rdR (S.drop n) o.length with
    | none => rw [goR_none h]; exact ⟨[], by simp, Nat.le_refl _⟩
    | some q =>
      rw [goR_at h]
      obtain ⟨t, h1, h2⟩ := goR_ge (S := S) (f := f) (o := o ++ [q]) (n := n + (bef 10 (S.drop n)).length + 1)
      exact ⟨q :: t, by rw [h1]; simp, by omega⟩
theorem rd_fit {S : L} {n k : Nat} {q : L × L} (h : rdR (S.drop n) k = some q) (hn : n ≤ S.length) : n + (bef 10 (S.drop n)).length + 1 ≤ S.length := by
  have := has_len (rdR_has h).1
  rw [List.length_drop] at this; omega
theorem goR_fit {S : L} : ∀ {f : Nat} {o : List (L × L)} {n : Nat}, n ≤ S.length → (goR S f o n).2 ≤ S.length
  | 0, o, n, hn => by simpa [goR] using hn
  | f + 1, o, n, hn => by
    cases h : rdR (S.drop n) o.length with
    | none => rw [goR_none h]; exact hn
    | some q => rw [goR_at h]; exact goR_fit (rd_fit h hn)
theorem goR_60 {S : L} : ∀ {f : Nat} {o : List (L × L)} {n : Nat}, o.length ≤ 60 → (goR S f o n).1.length ≤ 60
  | 0, o, n, hn => by simpa [goR] using hn
  | f + 1, o, n, hn => by
    cases h : rdR (S.drop n) o.length with
    | none => rw [goR_none h]; exact hn
    | some q => rw [goR_at h]; exact goR_60 (by have := (rdR_has h).2; simp; omega)
theorem fin_60 (S : L) : (finR S).1.length ≤ 60 := goR_60 (by simp)
theorem fin_fit (S : L) : (finR S).2 ≤ S.length := goR_fit (Nat.zero_le _)
/-- A text's start, read: what is read of the whole begins with it. -/
theorem goR_pre {S : L} {j : Nat} : ∀ {f : Nat} {o : List (L × L)} {n : Nat}, n ≤ j → ∃ t, (goR S f o n).1 = (goR (S.take j) f o n).1 ++ t ∧ (goR (S.take j) f o n).2 ≤ (goR S f o n).2
  | 0, o, n, _ => ⟨[], by simp [goR], by simp [goR]⟩
  | f + 1, o, n, hn => by
    have hD : rdR ((S.take j).drop n) o.length = if (bef 10 (S.drop n)).length + 1 ≤ j - n then rdR (S.drop n) o.length else none := by rw [List.drop_take, rdR_take]
    cases h : rdR ((S.take j).drop n) o.length with
    | none => rw [goR_none h]; exact goR_ge
    | some q =>
      by_cases hc : (bef 10 (S.drop n)).length + 1 ≤ j - n
      · rw [if_pos hc] at hD
        have h2 : rdR (S.drop n) o.length = some q := by rw [← hD, h]
        have hb : bef 10 ((S.take j).drop n) = bef 10 (S.drop n) := by
          rw [List.drop_take]
          exact (bef_take_of (has_take (rdR_has h2).1 hc)).1
        rw [goR_at h, goR_at h2, hb]
        exact goR_pre (by omega)
      · rw [if_neg hc, h] at hD; cases hD
theorem fin_pre (S : L) (j : Nat) : ∃ t, (finR S).1 = (finR (S.take j)).1 ++ t ∧ (finR (S.take j)).2 ≤ (finR S).2 := goR_pre (Nat.zero_le _)
theorem fin_app (d p : L) : ∃ t, (finR (d ++ p)).1 = (finR d).1 ++ t ∧ (finR d).2 ≤ (finR (d ++ p)).2 := by
  have := fin_pre (d ++ p) d.length
  rwa [List.take_left] at this
/-- The recovered part, read again. -/
theorem goR_fix {S : L} : ∀ {f : Nat} {o : List (L × L)} {n : Nat}, goR (S.take (goR S f o n).2) f o n = goR S f o n
  | 0, o, n => by simp [goR]
  | f + 1, o, n => by
    cases h : rdR (S.drop n) o.length with
    | none =>
      rw [goR_none h]
      refine goR_none ?_
      rw [List.drop_take, Nat.sub_self, List.take_zero]
      simp [rdR, hasB]
    | some q =>
      rw [goR_at h]
      obtain ⟨_, _, hge⟩ := goR_ge (S := S) (f := f) (o := o ++ [q]) (n := n + (bef 10 (S.drop n)).length + 1)
      have ih := goR_fix (S := S) (f := f) (o := o ++ [q]) (n := n + (bef 10 (S.drop n)).length + 1)
      generalize (goR S f (o ++ [q]) (n + (bef 10 (S.drop n)).length + 1)).2 = j at *
      have h2 : rdR ((S.take j).drop n) o.length = some q := by rw [List.drop_take, rdR_take, if_pos (by omega), h]
      have hb : bef 10 ((S.take j).drop n) = bef 10 (S.drop n) := by
        rw [List.drop_take]
        exact (bef_take_of (has_take (rdR_has h).1 (by omega))).1
      rw [goR_at h2, hb]
      exact ih
theorem fin_fix (S : L) : finR (S.take (finR S).2) = finR S := goR_fix
/-- Behind a text that is read whole. -/
theorem goR_on {S T : L} : ∀ {f : Nat} {o : List (L × L)} {n : Nat}, n ≤ S.length → (goR S f o n).2 = S.length →
    goR (S ++ T) f o n = goR (S ++ T) (f - ((goR S f o n).1.length - o.length)) (goR S f o n).1 S.length
  | 0, o, n, _, h => by
    have : n = S.length := by simpa [goR] using h
    subst this
    simp [goR]
  | f + 1, o, n, hn, hw => by
    cases h : rdR (S.drop n) o.length with
    | none =>
      rw [goR_none h] at hw ⊢
      have : n = S.length := hw
      subst this
      simp
    | some q =>
      rw [goR_at h] at hw ⊢
      have hfit := rd_fit h hn
      have e : S.drop n = ((S ++ T).drop n).take (S.length - n) := by rw [← List.drop_take, List.take_left]
      have h2 : rdR ((S ++ T).drop n) o.length = some q := by
        have := rdR_take (u := (S ++ T).drop n) (j := S.length - n) (k := o.length)
        rw [← e, h] at this
        by_cases hc : (bef 10 ((S ++ T).drop n)).length + 1 ≤ S.length - n
        · rw [if_pos hc] at this; exact this.symm
        · rw [if_neg hc] at this; cases this
      have hb : bef 10 ((S ++ T).drop n) = bef 10 (S.drop n) := by
        have := (bef_take_of (b := 10) (u := (S ++ T).drop n) (j := S.length - n) (by rw [← e]; exact (rdR_has h).1)).1
        rw [← e] at this; exact this.symm
      rw [goR_at h2, hb]
      have ih := goR_on (T := T) hfit hw
      rw [ih]
      obtain ⟨t, ht, _⟩ := goR_ge (S := S) (f := f) (o := o ++ [q]) (n := n + (bef 10 (S.drop n)).length + 1)
      have hl : (goR S f (o ++ [q]) (n + (bef 10 (S.drop n)).length + 1)).1.length = o.length + 1 + t.length := by rw [ht]; simp; omega
      rw [hl]
      congr 1
      simp; omega
theorem line_rd {k : Nat} {c r : L} (hk : k < 60) (h : recOk (mk c) (mk r) = true) (hn : hasB 10 (sealL (bodyL k c r)) = false) : rdR (lineL k c r) k = some (c, r) ∧ (bef 10 (lineL k c r)).length + 1 = (lineL k c r).length := by
  obtain ⟨h1, _, h3⟩ := bef_app (r := []) hn
  have e : lineL k c r = sealL (bodyL k c r) ++ 10 :: [] := rfl
  refine ⟨?_, ?_⟩
  · unfold rdR
    rw [e, h3, h1, if_pos ⟨rfl, hk⟩]
    exact pI_iff.2 ⟨h, rfl⟩
  · rw [e, h1]; simp
theorem plain_nl {l : L} (h : plainL l = true) : hasB 10 l = false := by
  unfold hasB
  rw [List.any_eq_false]
  intro b hb
  have := List.all_eq_true.1 h b hb
  simp only [plainB, Bool.and_eq_true] at this
  have := inB_true this.1
  simp only [decide_eq_true_eq]
  rintro rfl
  have h10 : ((10 : UInt8).toNat : Int) = 10 := rfl
  omega
theorem hasB_app (b : UInt8) (l r : L) : hasB b (l ++ r) = (hasB b l || hasB b r) := by simp [hasB]
theorem seal_nl {k : Nat} {c r : L} (h : recOk (mk c) (mk r) = true) : hasB 10 (sealL (bodyL k c r)) = false := by
  obtain ⟨_, _, _, h4, h5, _⟩ := recOk_parts h
  rw [data_mk] at h4 h5
  unfold sealL bodyL
  simp only [hasB_app, hasB_cons, digs_hasB _ (x := 10) (by decide), plain_nl h4, plain_nl h5]
  decide
/-- A record more. -/
theorem fin_more {S : L} {c r : L} (hw : (finR S).2 = S.length) (hk : (finR S).1.length < 60) (h : recOk (mk c) (mk r) = true) :
    finR (S ++ lineL (finR S).1.length c r) = ((finR S).1 ++ [(c, r)], (S ++ lineL (finR S).1.length c r).length) := by
  obtain ⟨h1, h2⟩ := line_rd hk h (seal_nl h)
  have h0 := goR_on (S := S) (T := lineL (finR S).1.length c r) (f := 61) (o := []) (n := 0) (Nat.zero_le _) hw
  unfold finR at *
  rw [h0]
  generalize (goR S 61 [] 0).1 = o at *
  have e : ((S ++ lineL o.length c r).drop S.length) = lineL o.length c r := List.drop_left
  rw [show 61 - (o.length - ([] : List (L × L)).length) = (60 - o.length) + 1 by simp; omega, goR_at (q := (c, r)) (by rw [e]; exact h1), e]
  have hl : S.length + (bef 10 (lineL o.length c r)).length + 1 = (S ++ lineL o.length c r).length := by rw [List.length_append, ← h2]; omega
  rw [hl]
  exact goR_none (by rw [List.drop_length]; simp [rdR, hasB])
/-- A byte behind that is no newline. -/
theorem goR_tail {T : L} {b : UInt8} (hb : b ≠ 10) : ∀ {f : Nat} {o : List (L × L)} {n : Nat}, n ≤ T.length → goR (T ++ [b]) f o n = goR T f o n
  | 0, _, _, _ => by simp [goR]
  | f + 1, o, n, hn => by
    have e : (T ++ [b]).drop n = T.drop n ++ [b] := List.drop_append_of_le_length hn
    have hh : hasB 10 (T.drop n ++ [b]) = hasB 10 (T.drop n) := by rw [hasB_app]; simp [hasB, hb]
    have hbf : hasB 10 (T.drop n) = true → bef 10 (T.drop n ++ [b]) = bef 10 (T.drop n) := fun h => by
      have := (bef_take_of (b := 10) (u := T.drop n ++ [b]) (j := (T.drop n).length) (by rw [List.take_left]; exact h)).1
      rw [List.take_left] at this; exact this.symm
    have hr : rdR ((T ++ [b]).drop n) o.length = rdR (T.drop n) o.length := by
      rw [e]
      unfold rdR
      rw [hh]
      by_cases h : hasB 10 (T.drop n) = true
      · rw [hbf h]
      · rw [if_neg (fun x => h x.1), if_neg (fun x => h x.1)]
    cases h : rdR (T.drop n) o.length with
    | none => rw [goR_none h, goR_none (hr.trans h)]
    | some q =>
      rw [goR_at h, goR_at (hr.trans h), e, hbf (rdR_has h).1]
      exact goR_tail hb (rd_fit h hn)
theorem fin_tail {T : L} {b : UInt8} (hb : b ≠ 10) : finR (T ++ [b]) = finR T := goR_tail hb (Nat.zero_le _)
/-- The bytes of what is read are small. -/
theorem seal_small {k : Nat} {c r : L} (h : recOk (mk c) (mk r) = true) : ∀ b ∈ lineL k c r, b.toNat ≤ 126 := by
  obtain ⟨_, _, _, h4, h5, _⟩ := recOk_parts h
  rw [data_mk] at h4 h5
  have hp : ∀ {l : L}, plainL l = true → ∀ b ∈ l, b.toNat ≤ 126 := fun hl b hb => by
    have := List.all_eq_true.1 hl b hb
    simp only [plainB, Bool.and_eq_true] at this
    have := (inB_true this.1).2
    omega
  have hdg : ∀ n, ∀ b ∈ digs n, b.toNat ≤ 126 := fun n b hb => by have := digs_byte n b hb; omega
  intro b hb
  simp only [lineL, sealL, bodyL, List.mem_append, List.mem_cons, List.not_mem_nil, or_false] at hb
  rcases hb with ((hb | rfl | hb | rfl | hb) | rfl | hb) | rfl
  · exact hdg _ b hb
  · decide
  · exact hp h4 b hb
  · decide
  · exact hp h5 b hb
  · decide
  · exact hdg _ b hb
  · decide
theorem goR_small {S : L} : ∀ {f : Nat} {o : List (L × L)} {n : Nat}, n ≤ S.length → ∀ b ∈ (S.drop n).take ((goR S f o n).2 - n), b.toNat ≤ 126
  | 0, _, n, _, b, hb => by simp [goR] at hb
  | f + 1, o, n, hn, b, hb => by
    cases h : rdR (S.drop n) o.length with
    | none => rw [goR_none h] at hb; simp at hb
    | some q =>
      rw [goR_at h] at hb
      have hfit := rd_fit h hn
      have ih := goR_small (S := S) (f := f) (o := o ++ [q]) hfit
      have hge : n + (bef 10 (S.drop n)).length + 1 ≤ (goR S f (o ++ [q]) (n + (bef 10 (S.drop n)).length + 1)).2 := by
        obtain ⟨t, _, hge⟩ := goR_ge (S := S) (f := f) (o := o ++ [q]) (n := n + (bef 10 (S.drop n)).length + 1)
        exact hge
      generalize (goR S f (o ++ [q]) (n + (bef 10 (S.drop n)).length + 1)).2 = N at *
      obtain ⟨c, r⟩ := q
      have hh := rdR_has h
      unfold rdR at h
      rw [if_pos hh] at h
      obtain ⟨h1, h2⟩ := pI_iff.1 h
      have hs := split_at hh.1
      have e1 : (S.drop n).take ((bef 10 (S.drop n)).length + 1) = bef 10 (S.drop n) ++ [10] := by
        have hs2 : S.drop n = (bef 10 (S.drop n) ++ [10]) ++ aft 10 (S.drop n) := by simpa using hs
        have := List.take_left (l₁ := bef 10 (S.drop n) ++ [10]) (l₂ := aft 10 (S.drop n))
        rw [← hs2, List.length_append] at this
        exact this
      generalize (bef 10 (S.drop n)).length = bl at *
      rw [show N - n = (bl + 1) + (N - (n + bl + 1)) by omega, List.take_add, List.mem_append] at hb
      rcases hb with hb | hb
      · rw [e1, ← h2] at hb
        exact seal_small h1 b hb
      · rw [List.drop_drop, show n + (bl + 1) = n + bl + 1 by omega] at hb
        exact ih b hb
theorem fin_small {S : L} (hw : (finR S).2 = S.length) : ∀ b ∈ S, b.toNat ≤ 126 := fun b hb => by
  have := goR_small (S := S) (f := 61) (o := []) (n := 0) (Nat.zero_le _) b
  unfold finR at hw
  rw [hw] at this
  exact this (by simpa using hb)
end Go.Proofs.YtkhgdbnicpldkaaDoor
