/- Plain Lean: names of nodes. -/
import Derived.WalkKit
import Derived.Lib.Hide
import Derived.Test.YtphhenlokbodnaaSymP
namespace Go.Proofs.Ytphhenlokbodnaa
open Go.RowKit

def letB (c : UInt8) : Bool := decide (97 ≤ (c.toNat : Int)) && decide ((c.toNat : Int) ≤ 122)
def digB (c : UInt8) : Bool := decide (48 ≤ (c.toNat : Int)) && decide ((c.toNat : Int) ≤ 57)
def sgnB (c : UInt8) : Bool := letB c || digB c
def hd0 (s : ByteArray) : Bool := match s.data.toList with | [] => false | c :: _ => letB c
def nameOk (s : ByteArray) : Bool := decide (1 ≤ s.size) && decide (s.size ≤ 8) && hd0 s && s.data.toList.all sgnB
theorem nam_snoc (s : ByteArray) (k : Nat) (h : k < s.size) : s.data.toList.take (k + 1) = s.data.toList.take k ++ [s[k]] := by
  rw [List.take_succ_eq_append_getElem (by simpa using h)]; rfl
theorem nam_all (s : ByteArray) : s.data.toList.take s.size = s.data.toList := List.take_of_length_le (by simp)
theorem nam_step {s : ByteArray} {p : UInt8 → Bool} {k : Nat} (hk : k < s.size) (h : (s.data.toList.take k).all p = true) (e : p s[k] = true) : (s.data.toList.take (k + 1)).all p = true := by
  rw [nam_snoc s k hk, List.all_append, h]; simp [e]
theorem nam_no {s : ByteArray} {p : UInt8 → Bool} {k : Nat} (hk : k < s.size) (e : p s[k] = false) : s.data.toList.all p = false := by
  rw [List.all_eq_false]
  exact ⟨s[k], by rw [List.mem_iff_getElem]; exact ⟨k, by simpa using hk, rfl⟩, by simp [e]⟩
theorem hd0_of {s : ByteArray} (h : 0 < s.size) : hd0 s = letB s[0] := by
  have e : s[0] = s.data.toList[0]'(by simpa using h) := rfl
  rw [e]
  unfold hd0
  split
  · rename_i he
    have h3 : s.data.toList.length = s.size := by simp
    rw [he, List.length_nil] at h3
    omega
  · rename_i c l he
    simp [he]
theorem nameOk_sgn {s : ByteArray} (h : s.data.toList.all sgnB = false) : nameOk s = false := by unfold nameOk; rw [h]; simp
theorem nameOk_hd {s : ByteArray} (h : hd0 s = false) : nameOk s = false := by unfold nameOk; rw [h]; simp
theorem nameOk_len {s : ByteArray} (h : ¬ (1 ≤ s.size ∧ s.size ≤ 8)) : nameOk s = false := by
  unfold nameOk
  by_cases h1 : 1 ≤ s.size
  · rw [decide_eq_false (show ¬ s.size ≤ 8 by omega)]; simp
  · rw [decide_eq_false h1]; simp
theorem nameOk_yes {s : ByteArray} (h : 1 ≤ s.size ∧ s.size ≤ 8) (h2 : hd0 s = true) (h3 : s.data.toList.all sgnB = true) : nameOk s = true := by
  unfold nameOk; rw [h2, h3, decide_eq_true h.1, decide_eq_true h.2]; rfl
end Go.Proofs.Ytphhenlokbodnaa
