/- Plain Lean: records read from a log's bytes. -/
import Derived.Test.YtkhgdbnicpldkaaDoorNumP
import Derived.Lib.IndexMore
namespace Go.Proofs.YtkhgdbnicpldkaaDoor
open Go.RowKit

abbrev L := List UInt8
/-- A text before, and behind, the first of a byte. -/
def bef (b : UInt8) : L → L
  | [] => []
  | a :: l => if a = b then [] else a :: bef b l
def aft (b : UInt8) : L → L
  | [] => []
  | a :: l => if a = b then l else aft b l
def hasB (b : UInt8) (l : L) : Bool := l.any fun a => decide (a = b)
theorem hasB_cons (b a : UInt8) (l : L) : hasB b (a :: l) = (decide (a = b) || hasB b l) := rfl
theorem split_at {b : UInt8} {l : L} (h : hasB b l = true) : l = bef b l ++ b :: aft b l := by
  induction l with
  | nil => simp [hasB] at h
  | cons a l ih =>
    by_cases e : a = b
    · subst e; simp [bef, aft]
    · rw [hasB_cons] at h
      simp only [e, decide_false, Bool.false_or] at h
      simp only [bef, aft, e, if_false, List.cons_append]
      rw [← ih h]
theorem bef_none {b : UInt8} {l : L} (h : hasB b l = false) : bef b l = l ∧ aft b l = [] := by
  induction l with
  | nil => exact ⟨rfl, rfl⟩
  | cons a l ih =>
    rw [hasB_cons] at h
    simp only [Bool.or_eq_false_iff, decide_eq_false_iff_not] at h
    simp only [bef, aft, h.1, if_false]
    exact ⟨by rw [(ih h.2).1], (ih h.2).2⟩
theorem bef_hasB (b : UInt8) (l : L) : hasB b (bef b l) = false := by
  induction l with
  | nil => rfl
  | cons a l ih =>
    by_cases e : a = b
    · simp [bef, e, hasB]
    · simp only [bef, e, if_false, hasB_cons, decide_false, Bool.false_or]; exact ih
theorem bef_app {b : UInt8} {l r : L} (h : hasB b l = false) : bef b (l ++ b :: r) = l ∧ aft b (l ++ b :: r) = r ∧ hasB b (l ++ b :: r) = true := by
  induction l with
  | nil => simp [bef, aft, hasB]
  | cons a l ih =>
    rw [hasB_cons] at h
    simp only [Bool.or_eq_false_iff, decide_eq_false_iff_not] at h
    simp only [List.cons_append, bef, aft, h.1, if_false, hasB_cons, decide_false, Bool.false_or]
    exact ⟨by rw [(ih h.2).1], (ih h.2).2.1, (ih h.2).2.2⟩
theorem bef_len (b : UInt8) (l : L) : (bef b l).length ≤ l.length := by
  induction l with
  | nil => simp [bef]
  | cons a l ih => by_cases e : a = b <;> simp [bef, e]; exact ih
theorem aft_drop (b : UInt8) (l : L) : aft b l = l.drop ((bef b l).length + 1) := by
  induction l with
  | nil => rfl
  | cons a l ih =>
    by_cases e : a = b
    · simp [bef, aft, e]
    · simp only [bef, aft, e, if_false, List.length_cons]
      rw [ih]; rfl
theorem bef_take (b : UInt8) (l : L) : bef b l = l.take (bef b l).length := by
  induction l with
  | nil => rfl
  | cons a l ih =>
    by_cases e : a = b
    · simp [bef, e]
    · simp only [bef, e, if_false, List.length_cons, List.take_succ_cons]
      rw [← ih]
theorem stands_hasB (l : L) (b : UInt8) : standsL l b = hasB b l := by
  unfold standsL hasB
  congr 1
  funext a
  rw [Bool.eq_iff_iff]
  simp only [beq_iff_eq, decide_eq_true_eq]
  exact ⟨fun h => UInt8.toNat_inj.1 (by omega), fun h => by rw [h]⟩
/-- strings.Cut at one byte. -/
theorem index_one (l : L) (b : UInt8) : Go.Lib.index l [b] = if hasB b l then ((bef b l).length : Int) else -1 := by
  induction l with
  | nil => rfl
  | cons a l ih =>
    unfold Go.Lib.index
    by_cases e : a = b
    · subst e; simp [bef, hasB, List.isPrefixOf]
    · have hp : ([b] : L).isPrefixOf (a :: l) = false := by simp [List.isPrefixOf]; exact fun h => e h.symm
      rw [hp, ih, hasB_cons]
      simp only [e, decide_false, Bool.false_or, Bool.false_eq_true, if_false, bef]
      cases hasB b l
      · rfl
      · simp only [if_true, List.length_cons]
        have : ((((bef b l).length : Nat) : Int) == -1) = false := by rw [beq_eq_false_iff_ne]; omega
        rw [this]; simp
theorem cut_one (l : L) (b : UInt8) : Go.Lib.cut l [b] = (bef b l, aft b l, hasB b l) := by
  unfold Go.Lib.cut
  rw [index_one]
  cases h : hasB b l
  · obtain ⟨e1, e2⟩ := bef_none h
    simp [e1, e2]
  · simp only [if_true]
    rw [if_pos (by omega), Int.toNat_natCast, ← bef_take, aft_drop]
    rfl

/-- What a line holds as record k. -/
def pI (k : Nat) (line : L) : Option (L × L) :=
  let rest := aft 32 (bef 35 line)
  if recOk (mk (bef 64 rest)) (mk (aft 64 rest)) = true ∧ lineL k (bef 64 rest) (aft 64 rest) = line ++ [10] then some (bef 64 rest, aft 64 rest) else none
def aheadL (k : Nat) : L := digs k ++ [32]
def pS (k : Nat) (line : L) : Option (L × L) :=
  let text := bef 35 line
  let rest := text.drop (aheadL k).length
  if (aheadL k).length ≤ text.length ∧ text.take (aheadL k).length = aheadL k ∧ hasB 64 rest = true ∧ recOk (mk (bef 64 rest)) (mk (aft 64 rest)) = true ∧ lineL k (bef 64 rest) (aft 64 rest) = line ++ [10] then some (bef 64 rest, aft 64 rest) else none
theorem digs_hasB (n : Nat) {x : UInt8} (hx : x.toNat < 48 ∨ 57 < x.toNat) : hasB x (digs n) = false := by rw [← stands_hasB]; exact digs_stands n hx
theorem line_parts {k : Nat} {c r line : L} (hok : recOk (mk c) (mk r) = true) (h : lineL k c r = line ++ [10]) :
    bef 35 line = bodyL k c r ∧ aft 32 (bodyL k c r) = c ++ 64 :: r ∧ bef 64 (c ++ 64 :: r) = c ∧ aft 64 (c ++ 64 :: r) = r ∧ hasB 64 (c ++ 64 :: r) = true := by
  have h1 := body_hash (k := k) hok
  rw [data_mk, data_mk, stands_hasB] at h1
  obtain ⟨_, _, _, _, _, h6⟩ := recOk_parts hok
  rw [data_mk, stands_hasB] at h6
  have e : line = bodyL k c r ++ 35 :: digs (sumL (bodyL k c r)).toNat := by
    have := List.append_cancel_right h
    rw [← this]; rfl
  obtain ⟨b1, b2, b3⟩ := bef_app (r := r) h6
  refine ⟨by rw [e]; exact (bef_app h1).1, ?_, b1, b2, b3⟩
  exact (bef_app (digs_hasB k (by decide))).2.1
theorem pI_iff {k : Nat} {c r line : L} : pI k line = some (c, r) ↔ recOk (mk c) (mk r) = true ∧ lineL k c r = line ++ [10] := by
  constructor
  · intro h
    unfold pI at h
    simp only at h
    split at h
    · rename_i hh
      simp only [Option.some.injEq, Prod.mk.injEq] at h
      obtain ⟨rfl, rfl⟩ := h
      exact hh
    · simp at h
  · rintro ⟨h1, h2⟩
    obtain ⟨e1, e2, e3, e4, _⟩ := line_parts h1 h2
    unfold pI
    simp only [e1, e2, e3, e4]
    rw [if_pos ⟨h1, h2⟩]
theorem pS_iff {k : Nat} {c r line : L} : pS k line = some (c, r) ↔ recOk (mk c) (mk r) = true ∧ lineL k c r = line ++ [10] := by
  constructor
  · intro h
    unfold pS at h
    simp only at h
    split at h
    · rename_i hh
      simp only [Option.some.injEq, Prod.mk.injEq] at h
      obtain ⟨rfl, rfl⟩ := h
      exact ⟨hh.2.2.2.1, hh.2.2.2.2⟩
    · simp at h
  · rintro ⟨h1, h2⟩
    obtain ⟨e1, e2, e3, e4, e5⟩ := line_parts h1 h2
    have e6 : bodyL k c r = aheadL k ++ (c ++ 64 :: r) := by simp [bodyL, aheadL]
    unfold pS
    simp only [e1]
    rw [e6, List.drop_left, List.take_left]
    simp only [e3, e4, e5]
    rw [if_pos ⟨by simp, trivial, trivial, h1, h2⟩]
theorem pS_eq (k : Nat) (line : L) : pS k line = pI k line := by
  cases h : pI k line with
  | some q =>
    obtain ⟨c, r⟩ := q
    exact pS_iff.2 (pI_iff.1 h)
  | none =>
    cases h2 : pS k line with
    | none => rfl
    | some q =>
      obtain ⟨c, r⟩ := q
      rw [pI_iff.2 (pS_iff.1 h2)] at h; simp at h

/-- The record at the start of a text, as record k. -/
def rdR (s : L) (k : Nat) : Option (L × L) := if hasB 10 s = true ∧ k < 60 then pI k (bef 10 s) else none
/-- Records read on. -/
def goR (s : L) : Nat → List (L × L) → Nat → List (L × L) × Nat
  | 0, o, n => (o, n)
  | f + 1, o, n => match rdR (s.drop n) o.length with
    | some q => goR s f (o ++ [q]) (n + (bef 10 (s.drop n)).length + 1)
    | none => (o, n)
def finR (s : L) : List (L × L) × Nat := goR s 61 [] 0
theorem goR_none {s : L} {f n : Nat} {o : List (L × L)} (h : rdR (s.drop n) o.length = none) : goR s f o n = (o, n) := by
  cases f with
  | zero => rfl
  | succ f => rw [goR, h]
theorem goR_some {s : L} {n : Nat} {o : List (L × L)} {q : L × L} (hl : o.length < 60) (h : rdR (s.drop n) o.length = some q) :
    goR s (61 - o.length) o n = goR s (61 - (o ++ [q]).length) (o ++ [q]) (n + (bef 10 (s.drop n)).length + 1) := by
  rw [List.length_append, show 61 - o.length = (61 - (o.length + [q].length)) + 1 by simp; omega, goR, h]
theorem rdR_has {s : L} {k : Nat} {q : L × L} (h : rdR s k = some q) : hasB 10 s = true ∧ k < 60 := by
  unfold rdR at h
  split at h
  · assumption
  · simp at h
theorem has_len {b : UInt8} {s : L} (h : hasB b s = true) : (bef b s).length + 1 ≤ s.length := by
  have := congrArg List.length (split_at h)
  simp at this; omega
end Go.Proofs.YtkhgdbnicpldkaaDoor
