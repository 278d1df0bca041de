/- Plain Lean: when a log is valid; the places where records end. -/
import Derived.Test.YtkhgdbnicpldkaaDoorLogI
namespace Go.Proofs.YtkhgdbnicpldkaaDoor
open Go.RowKit

theorem bef_take_of {b : UInt8} : ∀ {u : L} {j : Nat}, hasB b (u.take j) = true → bef b (u.take j) = bef b u ∧ hasB b u = true
  | [], j, h => by simp [hasB] at h
  | a :: u, 0, h => by simp [hasB] at h
  | a :: u, j + 1, h => by
    rw [List.take_succ_cons] at h ⊢
    by_cases e : a = b
    · simp [bef, hasB, e]
    · rw [hasB_cons] at h ⊢
      simp only [e, decide_false, Bool.false_or] at h ⊢
      obtain ⟨h1, h2⟩ := bef_take_of h
      simp only [bef, e, if_false, h1]
      exact ⟨trivial, h2⟩
theorem has_take {b : UInt8} : ∀ {u : L} {j : Nat}, hasB b u = true → (bef b u).length + 1 ≤ j → hasB b (u.take j) = true
  | [], j, h, _ => by simp [hasB] at h
  | a :: u, 0, h, hj => by omega
  | a :: u, j + 1, h, hj => by
    rw [List.take_succ_cons, hasB_cons]
    by_cases e : a = b
    · simp [e]
    · rw [hasB_cons] at h
      simp only [e, decide_false, Bool.false_or] at h ⊢
      simp only [bef, e, if_false, List.length_cons] at hj
      exact has_take h (by omega)
theorem has_take_len {b : UInt8} {u : L} {j : Nat} (h : hasB b (u.take j) = true) : (bef b u).length + 1 ≤ j := by
  have h1 := has_len h
  rw [(bef_take_of h).1] at h1
  have := List.length_take_le j u
  omega
/-- Reading a text's start. -/
theorem rdR_take {u : L} {j k : Nat} : rdR (u.take j) k = if (bef 10 u).length + 1 ≤ j then rdR u k else none := by
  by_cases h : hasB 10 (u.take j) = true
  · rw [if_pos (has_take_len h)]
    obtain ⟨h1, h2⟩ := bef_take_of h
    unfold rdR
    rw [h, h1, h2]
  · by_cases h2 : (bef 10 u).length + 1 ≤ j
    · rw [if_pos h2]
      have h3 : ¬ hasB 10 u = true := fun e => h (has_take e h2)
      unfold rdR
      rw [if_neg (fun e => h e.1), if_neg (fun e => h3 e.1)]
    · rw [if_neg h2]
      unfold rdR
      rw [if_neg (fun e => h e.1)]
theorem goE_mem {S : L} : ∀ {f : Nat} {o : List (L × L)} {n : Nat} {e : List Int} {x : Int}, x ∈ goE S f o n e → x ∈ e ∨ (n : Int) < x
  | 0, _, _, _, _, h => .inl h
  | f + 1, o, n, e, x, h => by
    rw [goE] at h
    split at h
    · rcases goE_mem h with h | h
      · rcases List.mem_append.1 h with h | h
        · exact .inl h
        · right; simp at h; omega
      · right; omega
    · exact .inl h
theorem goE_keep {S : L} : ∀ {f : Nat} {o : List (L × L)} {n : Nat} {e : List Int} {x : Int}, x ∈ e → x ∈ goE S f o n e
  | 0, _, _, _, _, h => h
  | f + 1, o, n, e, x, h => by
    rw [goE]
    split
    · exact goE_keep (List.mem_append.2 (.inl h))
    · exact h
theorem goE_at {S : L} {f : Nat} {o : List (L × L)} {n : Nat} {e : List Int} {q : L × L} (h : rdR (S.drop n) o.length = some q) :
    goE S (f + 1) o n e = goE S f (o ++ [q]) (n + (bef 10 (S.drop n)).length + 1) (e ++ [((n + (bef 10 (S.drop n)).length + 1 : Nat) : Int)]) := by rw [goE, h]
theorem goR_at {S : L} {f : Nat} {o : List (L × L)} {n : Nat} {q : L × L} (h : rdR (S.drop n) o.length = some q) :
    goR S (f + 1) o n = goR S f (o ++ [q]) (n + (bef 10 (S.drop n)).length + 1) := by rw [goR, h]
/-- A place is a record's end if the text up to it is read whole. -/
theorem ends_iff {S : L} {d : Nat} : ∀ {f : Nat} {o : List (L × L)} {n : Nat} {e : List Int}, n ≤ d → (∀ x ∈ e, x ≠ (d : Int)) →
    ((d : Int) ∈ goE S f o n (e ++ [(n : Int)]) ↔ (goR (S.take d) f o n).2 = d)
  | 0, o, n, e, hn, he => by
    simp only [goE, goR, List.mem_append, List.mem_singleton]
    exact ⟨fun h => h.elim (fun h => absurd rfl (he _ h)) (fun h => by omega), fun h => .inr (by omega)⟩
  | f + 1, o, n, e, hn, he => by
    have hD : rdR ((S.take d).drop n) o.length = if (bef 10 (S.drop n)).length + 1 ≤ d - n then rdR (S.drop n) o.length else none := by
      rw [List.drop_take, rdR_take]
    cases h : rdR (S.drop n) o.length with
    | none =>
      have h1 : rdR ((S.take d).drop n) o.length = none := by rw [hD, h]; split <;> rfl
      rw [goE_none h, goR_none h1]
      simp only [List.mem_append, List.mem_singleton]
      exact ⟨fun h => h.elim (fun h => absurd rfl (he _ h)) (fun h => by omega), fun h => .inr (by omega)⟩
    | some q =>
      rw [goE_at h]
      by_cases hc : (bef 10 (S.drop n)).length + 1 ≤ d - n
      · have h1 : rdR ((S.take d).drop n) o.length = some q := by rw [hD, if_pos hc, h]
        have hb : bef 10 ((S.take d).drop n) = bef 10 (S.drop n) := by
          rw [List.drop_take]
          exact (bef_take_of (has_take (rdR_has h).1 hc)).1
        rw [goR_at h1, hb]
        have hle : n + (bef 10 (S.drop n)).length + 1 ≤ d := by omega
        generalize n + (bef 10 (S.drop n)).length + 1 = n' at *
        exact ends_iff (n := n') (e := e ++ [(n : Int)]) hle (fun x hx => by
          rcases List.mem_append.1 hx with hx | hx
          · exact he x hx
          · simp at hx; omega)
      · have h1 : rdR ((S.take d).drop n) o.length = none := by rw [hD, if_neg hc]
        rw [goR_none h1]
        constructor
        · intro hm
          rcases goE_mem hm with hm | hm
          · rcases List.mem_append.1 hm with hm | hm
            · rcases List.mem_append.1 hm with hm | hm
              · exact absurd rfl (he _ hm)
              · simp at hm; omega
            · simp at hm; omega
          · omega
        · intro hm
          exact goE_keep (List.mem_append.2 (.inl (List.mem_append.2 (.inr (by simp; omega)))))
theorem fin_ends (S : L) (d : Nat) : (d : Int) ∈ finE S ↔ (finR (S.take d)).2 = d :=
  ends_iff (f := 61) (o := []) (n := 0) (e := []) (Nat.zero_le _) (fun x hx => by simp at hx)

theorem line_len {k : Nat} {c r : L} (hk : k < 60) (h : recOk (mk c) (mk r) = true) : (lineL k c r).length ≤ 400 := by
  obtain ⟨_, h2, h3, _⟩ := recOk_parts h
  rw [mk_size] at h2 h3
  have := digs_len 1 k (by omega)
  have := sealL_len (bodyL k c r)
  simp only [lineL, List.length_append, List.length_singleton]
  simp only [bodyL, List.length_append, List.length_cons] at *
  omega
theorem rd_len {s : L} {k : Nat} {q : L × L} (h : rdR s k = some q) : (bef 10 s).length + 1 ≤ 400 := by
  obtain ⟨h1, h2⟩ := rdR_has h
  unfold rdR at h
  rw [if_pos ⟨h1, h2⟩] at h
  obtain ⟨c, r⟩ := q
  obtain ⟨h3, h4⟩ := pI_iff.1 h
  have := line_len h2 h3
  rw [h4] at this
  simpa using this
theorem goR_len {S : L} : ∀ {f : Nat} {o : List (L × L)} {n : Nat}, (goR S f o n).2 ≤ n + 400 * f
  | 0, _, _ => by simp [goR]
  | f + 1, o, n => by
    cases h : rdR (S.drop n) o.length with
    | none => rw [goR_none h]; omega
    | some q =>
      rw [goR_at h]
      have h1 := rd_len h
      have := goR_len (S := S) (f := f) (o := o ++ [q]) (n := n + (bef 10 (S.drop n)).length + 1)
      omega
theorem fin_len (S : L) : (finR S).2 ≤ 24400 := by
  have := goR_len (S := S) (f := 61) (o := []) (n := 0)
  unfold finR; omega

/-- When a log is valid. -/
def vlOk (d p : L) (n : Int) : Bool := decide ((finR (d ++ p)).2 = (d ++ p).length) && decide ((finR d).2 = d.length) && decide (((finR (d ++ p)).1.length : Int) = n)
theorem vl_size {d p : L} {n : Int} (h : vlOk d p n = true) : (d ++ p).length ≤ 30000 := by
  simp only [vlOk, Bool.and_eq_true, decide_eq_true_eq] at h
  have := fin_len (d ++ p)
  omega
theorem vl_any {d p : L} : (finR d).2 = d.length ↔ (d.length : Int) ∈ finE (d ++ p) := by
  rw [fin_ends, List.take_left]
end Go.Proofs.YtkhgdbnicpldkaaDoor
