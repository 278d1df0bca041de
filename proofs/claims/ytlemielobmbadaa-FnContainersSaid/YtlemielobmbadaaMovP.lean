/- Plain Lean: a pointer moved, a buffer justified. -/
import Derived.Test.YtlemielobmbadaaBa24
import Derived.Test.YtlemielobmbadaaBa23
namespace Go.Proofs.Ytlemielobmbadaa
open Go.RowKit

def movOk (p d : Int) : Bool := inB p 0 11 && inB d (-1) 1
def movR (p d : Int) : Int := if movOk p d then (p + d + 12) % 12 else 0
theorem movOk_parts {p d : Int} (h : movOk p d = true) : (0 ≤ p ∧ p ≤ 11) ∧ (-1 ≤ d ∧ d ≤ 1) := by
  simp only [movOk, Bool.and_eq_true] at h
  exact ⟨inB_true h.1, inB_true h.2⟩
theorem mov_yes {p d : Int} (h : movOk p d = true) : movR p d = (p + d + 12) % 12 := by unfold movR; rw [if_pos h]
theorem mov_no {p d : Int} (h : movOk p d = false) : movR p d = 0 := by unfold movR; rw [h]; rfl
theorem mov_back {p d : Int} (h : movOk p d = true) : movOk (movR p d) (-d) = true ∧ movR (movR p d) (-d) = p := by
  obtain ⟨h1, h2⟩ := movOk_parts h
  have e := mov_yes h
  have h3 : movOk (movR p d) (-d) = true := by
    unfold movOk
    rw [inB_of ⟨by omega, by omega⟩, inB_of ⟨by omega, by omega⟩]; rfl
  exact ⟨h3, by rw [mov_yes h3, e]; omega⟩

def mvt (g lo hi : Int) : Int := if g < lo then -1 else if hi < g then 1 else 0
theorem mvt_bd (g lo hi : Int) : -1 ≤ mvt g lo hi ∧ mvt g lo hi ≤ 1 := by
  unfold mvt
  split
  · omega
  · split <;> omega
def fillAt (f : Int) (ws : List Int) (lo hi : Int) : Nat → Int
  | 0 => f
  | k + 1 => (fillAt f ws lo hi k + ws[k]?.getD 0) - 12 - mvt (fillAt f ws lo hi k + ws[k]?.getD 0) lo hi
def jusGood (f : Int) (ws : List Int) (size lo hi : Int) (k : Nat) : Bool :=
  inB (ws[k]?.getD 0) 0 14 && decide (fillAt f ws lo hi k + ws[k]?.getD 0 ≤ size) && decide (0 ≤ fillAt f ws lo hi (k + 1))
def jusPre (f : Int) (n : Nat) (size lo hi : Int) : Bool := inB size 1 100 && inB f 0 size && inB lo 0 hi && decide (hi ≤ size) && decide (n ≤ 40)
theorem jusPre_parts {f : Int} {n : Nat} {size lo hi : Int} (h : jusPre f n size lo hi = true) : (1 ≤ size ∧ size ≤ 100) ∧ (0 ≤ f ∧ f ≤ size) ∧ (0 ≤ lo ∧ lo ≤ hi) ∧ hi ≤ size ∧ n ≤ 40 := by
  simp only [jusPre, Bool.and_eq_true, decide_eq_true_eq] at h
  exact ⟨inB_true h.1.1.1.1, inB_true h.1.1.1.2, inB_true h.1.1.2, h.1.2, h.2⟩
def jusTo (f : Int) (ws : List Int) (size lo hi : Int) (k : Nat) : Bool := (List.range k).all (jusGood f ws size lo hi)
theorem jusTo_zero (f : Int) (ws : List Int) (size lo hi : Int) : jusTo f ws size lo hi 0 = true := rfl
theorem jusTo_step {f : Int} {ws : List Int} {size lo hi : Int} {k : Nat} (h : jusTo f ws size lo hi k = true) (h2 : jusGood f ws size lo hi k = true) : jusTo f ws size lo hi (k + 1) = true := by
  unfold jusTo at *
  rw [List.range_succ, List.all_append, h]; simpa using h2
theorem jusTo_no {f : Int} {ws : List Int} {size lo hi : Int} {k n : Nat} (hk : k < n) (h2 : jusGood f ws size lo hi k = false) : jusTo f ws size lo hi n = false := by
  unfold jusTo
  rw [List.all_eq_false]
  exact ⟨k, by simpa using hk, by simpa using h2⟩
theorem jusTo_at {f : Int} {ws : List Int} {size lo hi : Int} {k n : Nat} (h : jusTo f ws size lo hi n = true) (hk : k < n) : jusGood f ws size lo hi k = true := by
  unfold jusTo at h
  rw [List.all_eq_true] at h
  exact h k (by simpa using hk)
def jusOk (f : Int) (ws : List Int) (size lo hi : Int) : Bool := jusPre f ws.length size lo hi && jusTo f ws size lo hi ws.length
def movTo (f : Int) (ws : List Int) (lo hi : Int) (k : Nat) : List Int := (List.range k).map fun i => mvt (fillAt f ws lo hi i + ws[i]?.getD 0) lo hi
def filTo (f : Int) (ws : List Int) (lo hi : Int) (k : Nat) : List Int := (List.range k).map fun i => fillAt f ws lo hi (i + 1)
theorem movTo_step (f : Int) (ws : List Int) (lo hi : Int) (k : Nat) : movTo f ws lo hi (k + 1) = movTo f ws lo hi k ++ [mvt (fillAt f ws lo hi k + ws[k]?.getD 0) lo hi] := by simp [movTo, List.range_succ]
theorem filTo_step (f : Int) (ws : List Int) (lo hi : Int) (k : Nat) : filTo f ws lo hi (k + 1) = filTo f ws lo hi k ++ [fillAt f ws lo hi (k + 1)] := by simp [filTo, List.range_succ]
theorem movTo_len (f : Int) (ws : List Int) (lo hi : Int) (k : Nat) : (movTo f ws lo hi k).length = k := by simp [movTo]
theorem filTo_len (f : Int) (ws : List Int) (lo hi : Int) (k : Nat) : (filTo f ws lo hi k).length = k := by simp [filTo]
theorem movTo_get (f : Int) (ws : List Int) (lo hi : Int) {k i : Nat} (h : i < k) : (movTo f ws lo hi k)[i]?.getD 0 = mvt (fillAt f ws lo hi i + ws[i]?.getD 0) lo hi := by simp [movTo, h]
theorem filTo_get (f : Int) (ws : List Int) (lo hi : Int) {k i : Nat} (h : i < k) : (filTo f ws lo hi k)[i]?.getD 0 = fillAt f ws lo hi (i + 1) := by simp [filTo, h]
def jusM (f : Int) (ws : List Int) (size lo hi : Int) : List Int := if jusOk f ws size lo hi then movTo f ws lo hi ws.length else []
def jusF (f : Int) (ws : List Int) (size lo hi : Int) : List Int := if jusOk f ws size lo hi then filTo f ws lo hi ws.length else []
def JusP (w : World) (f : Int) (ws : List Int) (size lo hi : Int) (e : Ending) (w' : World) : Prop :=
  ∃ v1 v2, e = .returned (.tuple #[v1, v2, .bool (jusOk f ws size lo hi)]) ∧ Own w' w.heap.size v1 (jusM f ws size lo hi) ∧ Own w' w.heap.size v2 (jusF f ws size lo hi) ∧ Below w.heap.size w w'
theorem JusP.no {w w' : World} {f : Int} {ws : List Int} {size lo hi : Int} {v1 v2 : Value} (h : jusOk f ws size lo hi = false) (h1 : Own w' w.heap.size v1 []) (h2 : Own w' w.heap.size v2 []) (hb : Below w.heap.size w w') : JusP w f ws size lo hi (.returned (.tuple #[v1, v2, .bool false])) w' :=
  ⟨v1, v2, by rw [h], by rw [show jusM f ws size lo hi = [] by unfold jusM; rw [h]; rfl]; exact h1, by rw [show jusF f ws size lo hi = [] by unfold jusF; rw [h]; rfl]; exact h2, hb⟩
theorem JusP.yes {w w' : World} {f : Int} {ws : List Int} {size lo hi : Int} {v1 v2 : Value} {n : Nat} (h : jusOk f ws size lo hi = true) (hn : ws.length = n) (h1 : Own w' w.heap.size v1 (movTo f ws lo hi n)) (h2 : Own w' w.heap.size v2 (filTo f ws lo hi n)) (hb : Below w.heap.size w w') : JusP w f ws size lo hi (.returned (.tuple #[v1, v2, .bool true])) w' :=
  ⟨v1, v2, by rw [h], by rw [show jusM f ws size lo hi = movTo f ws lo hi n by unfold jusM; rw [if_pos h, hn]]; exact h1, by rw [show jusF f ws size lo hi = filTo f ws lo hi n by unfold jusF; rw [if_pos h, hn]]; exact h2, hb⟩
/-- What the law's loop asks. -/
theorem jus_fill {f : Int} {ws : List Int} {lo hi : Int} {k n : Nat} (h : k < n) : fillAt f ws lo hi k + ws[k]?.getD 0 - 12 - (movTo f ws lo hi n)[k]?.getD 0 = (filTo f ws lo hi n)[k]?.getD 0 := by
  rw [movTo_get _ _ _ _ h, filTo_get _ _ _ _ h]; rfl
end Go.Proofs.Ytlemielobmbadaa
