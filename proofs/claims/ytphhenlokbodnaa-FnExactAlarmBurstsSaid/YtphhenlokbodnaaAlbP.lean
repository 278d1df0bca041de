/- Plain Lean: bursts of alarms. -/
import Derived.Test.YtphhenlokbodnaaSrtP
import Derived.Test.YtphhenlokbodnaaLal
import Derived.Test.YtphhenlokbodnaaIss
namespace Go.Proofs.Ytphhenlokbodnaa
open Go.RowKit

/-- A number put into an ascending list, unless it is there. -/
def putI : List Int → Int → List Int
  | [], n => [n]
  | x :: xs, n => if x < n then x :: putI xs n else if x = n then x :: xs else n :: x :: xs
theorem putI_mem : ∀ {xs : List Int} {n y : Int}, y ∈ putI xs n ↔ y = n ∨ y ∈ xs
  | [], n, y => by simp [putI]
  | x :: xs, n, y => by
    unfold putI
    split
    · rw [List.mem_cons, putI_mem, List.mem_cons]
      constructor
      · rintro (h | h | h) <;> simp [h]
      · rintro (h | h | h) <;> simp [h]
    · split
      · rename_i h; subst h; simp
      · simp
theorem putI_asc : ∀ {xs : List Int} {n : Int}, xs.Pairwise (· < ·) → (putI xs n).Pairwise (· < ·)
  | [], n, _ => by simp [putI]
  | x :: xs, n, h => by
    obtain ⟨h1, h2⟩ := List.pairwise_cons.1 h
    unfold putI
    split
    · rename_i hx
      refine List.pairwise_cons.2 ⟨fun y hy => ?_, putI_asc h2⟩
      rcases putI_mem.1 hy with e | e
      · omega
      · exact h1 y e
    · split
      · exact h
      · rename_i hx hx2
        refine List.pairwise_cons.2 ⟨fun y hy => ?_, h⟩
        rcases List.mem_cons.1 hy with e | e
        · omega
        · have := h1 y e; omega
theorem putI_at : ∀ {xs : List Int} {n : Int} (k : Nat), k ≤ xs.length → (∀ i, i < k → xs[i]?.getD 0 < n) → (k < xs.length → n ≤ xs[k]?.getD 0) → putI xs n = if k < xs.length ∧ xs[k]?.getD 0 = n then xs else xs.take k ++ n :: xs.drop k
  | [], n, k, hk, _, _ => by
    have : k = 0 := by simpa using hk
    subst this; simp [putI]
  | x :: xs, n, 0, _, _, h => by
    have h0 := h (by simp)
    simp only [List.getElem?_cons_zero, Option.getD_some] at h0
    unfold putI
    rw [if_neg (by omega)]
    by_cases e : x = n
    · rw [if_pos e, if_pos ⟨by simp, by simpa using e⟩]
    · rw [if_neg e, if_neg (by simp; exact e)]; simp
  | x :: xs, n, k + 1, hk, hl, h => by
    have hx : x < n := by have := hl 0 (by omega); simpa using this
    unfold putI
    rw [if_pos hx, putI_at k (by simpa using hk) (fun i hi => by have := hl (i + 1) (by omega); simpa using this) (fun hlt => by have := h (by simpa using hlt); simpa using this)]
    by_cases e : k < xs.length ∧ xs[k]?.getD 0 = n
    · rw [if_pos e, if_pos ⟨by simpa using e.1, by simpa using e.2⟩]
    · rw [if_neg e, if_neg (fun h2 => e ⟨by simpa using h2.1, by simpa using h2.2⟩)]; simp
theorem putI_len : ∀ (xs : List Int) (n : Int), (putI xs n).length ≤ xs.length + 1
  | [], n => by simp [putI]
  | x :: xs, n => by
    unfold putI
    split
    · have := putI_len xs n; simp; omega
    · split <;> simp
theorem ust_put (r : List Int) (x : Int) : ust (r ++ [x]) = putI (ust r) x := by
  refine ust_of (putI_asc (ust_asc r)) fun y => ?_
  rw [putI_mem, ust_mem, List.mem_append]
  simp [or_comm]
theorem ust_nil : ust [] = [] := List.eq_nil_of_length_eq_zero (by have := ust_len []; simpa using this)

abbrev alA (zs : List Alm) (i : Nat) : Alm := zs[i]?.getD nilA
def alOk (zs : List Alm) (i : Nat) : Bool := inB (alA zs i).t 0 1000000 && (inB (alA zs i).l 1 999 && !(decide (0 < i) && decide ((alA zs i).t < (alA zs (i - 1)).t)))
def albOk (zs : List Alm) (gap : Int) : Bool := decide (zs.length ≤ 40) && (inB gap 0 1000000 && (List.range zs.length).all (alOk zs))
/-- Does alarm k begin a burst? -/
def newB (zs : List Alm) (gap : Int) (k : Nat) : Bool := decide (k = 0) || decide (gap < (alA zs k).t - (alA zs (k - 1)).t)
def addL (R : List (List Int)) (r : List Int) : List (List Int) := R.set (R.length - 1) r
def lastL (R : List (List Int)) : List Int := R[R.length - 1]?.getD []
def rwB (zs : List Alm) (gap : Int) (k : Nat) (R : List (List Int)) : List (List Int) := if newB zs gap k then R ++ [[]] else R
def rwA (zs : List Alm) (gap : Int) : Nat → List (List Int)
  | 0 => []
  | k + 1 => addL (rwB zs gap k (rwA zs gap k)) (lastL (rwB zs gap k (rwA zs gap k)) ++ [(alA zs k).l])
def rwS (zs : List Alm) (gap : Int) : Nat → List (List Int)
  | 0 => []
  | k + 1 => addL (rwB zs gap k (rwS zs gap k)) (putI (lastL (rwB zs gap k (rwS zs gap k))) (alA zs k).l)
theorem rw_map (zs : List Alm) (gap : Int) (k : Nat) : (rwA zs gap k).map ust = rwS zs gap k := by
  induction k with
  | zero => rfl
  | succ k ih =>
    have hB : (rwB zs gap k (rwA zs gap k)).map ust = rwB zs gap k (rwS zs gap k) := by
      unfold rwB
      split
      · rw [List.map_append, ih, List.map_cons, ust_nil]; rfl
      · exact ih
    have hl : ust (lastL (rwB zs gap k (rwA zs gap k))) = lastL (rwB zs gap k (rwS zs gap k)) := by
      unfold lastL
      rw [← hB, List.length_map, List.getElem?_map]
      cases (rwB zs gap k (rwA zs gap k))[(rwB zs gap k (rwA zs gap k)).length - 1]?
      · exact ust_nil
      · rfl
    show (addL (rwB zs gap k (rwA zs gap k)) (lastL (rwB zs gap k (rwA zs gap k)) ++ [(alA zs k).l])).map ust = addL (rwB zs gap k (rwS zs gap k)) (putI (lastL (rwB zs gap k (rwS zs gap k))) (alA zs k).l)
    unfold addL
    rw [List.map_set, ust_put, hl, hB, ← hB, List.length_map]
theorem addL_len (R : List (List Int)) (r : List Int) : (addL R r).length = R.length := by simp [addL]
theorem rwB_len (zs : List Alm) (gap : Int) (k : Nat) (R : List (List Int)) : (rwB zs gap k R).length = if newB zs gap k then R.length + 1 else R.length := by
  unfold rwB; split <;> simp
theorem tot_set (R : List (List Int)) (j : Nat) (r : List Int) (h : r.length ≤ (R[j]?.getD []).length + 1) : tot (R.set j r) ≤ tot R + 1 := by
  induction R generalizing j with
  | nil => simp [tot]
  | cons x R ih =>
    cases j with
    | zero => simp [tot] at h ⊢; omega
    | succ j =>
      have := ih j (by simpa using h)
      simp [tot] at this ⊢; omega
theorem rwS_tot (zs : List Alm) (gap : Int) (k : Nat) : tot (rwS zs gap k) ≤ k := by
  induction k with
  | zero => simp [rwS, tot]
  | succ k ih =>
    have hB : tot (rwB zs gap k (rwS zs gap k)) = tot (rwS zs gap k) := by
      unfold rwB; split
      · simp [tot]
      · rfl
    have := tot_set (rwB zs gap k (rwS zs gap k)) ((rwB zs gap k (rwS zs gap k)).length - 1) (putI (lastL (rwB zs gap k (rwS zs gap k))) (alA zs k).l) (putI_len _ _)
    show tot (addL _ _) ≤ k + 1
    unfold addL
    omega
def albR (zs : List Alm) (gap : Int) : List (List Int) := if albOk zs gap then rwS zs gap zs.length else []
theorem albR_tot (zs : List Alm) (gap : Int) : tot (albR zs gap) ≤ zs.length := by
  unfold albR; split
  · exact rwS_tot _ _ _
  · simp [tot]
def AlbP (zs : List Alm) (gap : Int) (w : World) (e : Ending) (w' : World) : Prop := ∃ v, e = .returned (.tuple #[v, .bool (albOk zs gap)]) ∧ Ofr w' w.heap.size (ssD (albR zs gap)) v ∧ Below w.heap.size w w'
end Go.Proofs.Ytphhenlokbodnaa
