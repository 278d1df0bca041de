/- Plain Lean: containers written into frames. -/
import Derived.Test.YtlemielobmbadaaCtnP
namespace Go.Proofs.Ytlemielobmbadaa
open Go.RowKit

def conOk (xs : List Int) : Bool := decide (xs.length = 12) && bytL xs
theorem conOk_parts {xs : List Int} (h : conOk xs = true) : xs.length = 12 ∧ bytL xs = true := by
  simpa [conOk] using h
def wrtOk (xss : List (List Int)) (p : Int) : Bool := inB (xss.length : Int) 1 11 && inB p 0 11 && xss.all conOk
theorem wrtOk_parts {xss : List (List Int)} {p : Int} (h : wrtOk xss p = true) : (1 ≤ xss.length ∧ xss.length ≤ 11) ∧ (0 ≤ p ∧ p ≤ 11) ∧ xss.all conOk = true := by
  simp only [wrtOk, Bool.and_eq_true] at h
  have h1 := inB_true h.1.1; have h2 := inB_true h.1.2
  exact ⟨by omega, h2, h.2⟩
def allW (xss : List (List Int)) (p : Nat) : List Int := List.replicate p 0 ++ xss.flatten
theorem allW_zero (p : Nat) (xss : List (List Int)) : allW (xss.take 0) p = List.replicate p 0 := by simp [allW]
theorem allW_step {xss : List (List Int)} {p k : Nat} (h : k < xss.length) : allW (xss.take (k + 1)) p = allW (xss.take k) p ++ (xss[k]?.getD []) := by
  rw [allW, allW, List.take_add_one, List.flatten_append, List.getElem?_eq_getElem h, ← List.append_assoc]; simp
theorem all_take_step {xss : List (List Int)} {k : Nat} (h : k < xss.length) (h1 : (xss.take k).all conOk = true) (h2 : conOk (xss[k]?.getD []) = true) : (xss.take (k + 1)).all conOk = true := by
  rw [List.take_add_one, List.all_append, h1, List.getElem?_eq_getElem h] at *
  simpa using h2
theorem all_no {xss : List (List Int)} {k : Nat} (h : k < xss.length) (h2 : conOk (xss[k]?.getD []) = false) : xss.all conOk = false := by
  rw [List.all_eq_false]
  rw [List.getElem?_eq_getElem h] at h2
  exact ⟨xss[k], List.getElem_mem h, by simpa using h2⟩
theorem allW_len {xss : List (List Int)} (p : Nat) (h : xss.all conOk = true) : (allW xss p).length = p + 12 * xss.length := by
  induction xss with
  | nil => simp [allW]
  | cons xs xss ih =>
    simp only [List.all_cons, Bool.and_eq_true] at h
    have := ih h.2
    have h12 := (conOk_parts h.1).1
    simp only [allW, List.length_append, List.length_replicate, List.flatten_cons, List.length_cons] at this ⊢
    omega
def padN (l : Nat) : Nat := (12 - l % 12) % 12
def padW (l : List Int) : List Int := l ++ List.replicate (padN l.length) 0
theorem padN_lt {L j : Nat} (h : j ≤ padN L) (h2 : (L + j) % 12 ≠ 0) : j < padN L := by
  unfold padN at *; omega
theorem padN_eq {L j : Nat} (h : j ≤ padN L) (h2 : (L + j) % 12 = 0) : j = padN L := by
  unfold padN at *; omega
theorem padN_mod (L : Nat) : (L + padN L) % 12 = 0 := by unfold padN; omega
theorem padW_len (l : List Int) : (padW l).length = l.length + padN l.length := by simp [padW]
def wrtTo (P : List Int) (p : Int) (k : Nat) : List Frm := (List.range k).map fun (i : Nat) => ⟨(i : Int), p, sub P (12 * i) 12⟩
theorem wrtTo_len (P : List Int) (p : Int) (k : Nat) : (wrtTo P p k).length = k := by simp [wrtTo]
theorem wrtTo_step (P : List Int) (p : Int) (k : Nat) : wrtTo P p (k + 1) = wrtTo P p k ++ [⟨(k : Int), p, sub P (12 * k) 12⟩] := by simp [wrtTo, List.range_succ]
theorem wrtTo_cells (P : List Int) (p : Int) (k : Nat) : (wrtTo P p (k + 1)).flatMap frC = (wrtTo P p k).flatMap frC ++ [.leaf (.int .i64 (k : Int)), .leaf (.int .i64 p), inD (sub P (12 * k) 12)] := by
  rw [wrtTo_step, List.flatMap_append]; simp [frC]
def wrtP (xss : List (List Int)) (p : Int) : List Int := padW (allW xss p.toNat)
def wrtR (xss : List (List Int)) (p : Int) : List Frm := if wrtOk xss p then wrtTo (wrtP xss p) p ((wrtP xss p).length / 12) else []
theorem wrtR_no {xss : List (List Int)} {p : Int} (h : wrtOk xss p = false) : wrtR xss p = [] := by unfold wrtR; rw [h]; rfl
theorem wrtR_yes {xss : List (List Int)} {p : Int} (h : wrtOk xss p = true) {P : List Int} {M : Nat} (hP : P = wrtP xss p) (hM : P.length = 12 * M) : wrtR xss p = wrtTo P p M := by
  unfold wrtR; rw [if_pos h, ← hP, hM]; congr 1; omega
theorem wrtR_q (xss : List (List Int)) (p : Int) : qAt (wrtR xss p) (wrtR xss p).length ≤ 1073741824 := by
  cases h : wrtOk xss p
  · rw [wrtR_no h]; simp [qAt]
  · obtain ⟨⟨h1, h2⟩, ⟨h3, h4⟩, h5⟩ := wrtOk_parts h
    unfold wrtR; rw [if_pos h]
    have hl : (wrtP xss p).length ≤ 1000 := by
      unfold wrtP; rw [padW_len, allW_len _ h5]; unfold padN; omega
    generalize (wrtP xss p) = P at *
    have : ∀ k, qAt (wrtTo P p k) (wrtTo P p k).length ≤ 14 * k := by
      intro k
      rw [qAt, List.take_length]
      induction k with
      | zero => simp [wrtTo]
      | succ k ih =>
        rw [wrtTo_step, List.map_append, List.sum_append]
        have : (sub P (12 * k) 12).length ≤ 12 := by simp [sub]; omega
        simp [szF]; omega
    have := this (P.length / 12)
    omega
def WrtP (w : World) (xss : List (List Int)) (p : Int) (e : Ending) (w' : World) : Prop := ∃ v, e = .returned (.tuple #[v, .bool (wrtOk xss p)]) ∧ Ofr w' w.heap.size (frD (wrtR xss p)) v ∧ Below w.heap.size w w'
theorem WrtP.no {w w' : World} {xss : List (List Int)} {p : Int} {v : Value} (h : wrtOk xss p = false) (ho : Ofr w' w.heap.size (.rows 3 []) v) (hb : Below w.heap.size w w') : WrtP w xss p (.returned (.tuple #[v, .bool false])) w' :=
  ⟨v, by rw [h], by rw [wrtR_no h]; exact ho, hb⟩
theorem WrtP.yes {w w' : World} {xss : List (List Int)} {p : Int} {v : Value} {fs : List Frm} (h : wrtOk xss p = true) (hf : wrtR xss p = fs) (ho : Ofr w' w.heap.size (frD fs) v) (hb : Below w.heap.size w w') : WrtP w xss p (.returned (.tuple #[v, .bool true])) w' :=
  ⟨v, by rw [h], by rw [hf]; exact ho, hb⟩
end Go.Proofs.Ytlemielobmbadaa
