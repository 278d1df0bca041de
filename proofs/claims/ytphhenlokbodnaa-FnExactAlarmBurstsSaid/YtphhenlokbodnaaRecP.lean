/- Plain Lean: valid records. -/
import Derived.WalkKit
import Derived.Lib.Hide
import Derived.Test.YtphhenlokbodnaaSymP
namespace Go.Proofs.Ytphhenlokbodnaa
open Go.RowKit

theorem inB_lo {n lo hi : Int} (h : n < lo) : inB n lo hi = false := by simp [inB]; omega
theorem inB_hi {n lo hi : Int} (h : hi < n) : inB n lo hi = false := by simp [inB]; omega
/-- A byte that a record's text may hold. -/
def plainB (c : UInt8) : Bool := inB (c.toNat : Int) 32 126 && !((c.toNat : Int) == 35)
def plainL (l : List UInt8) : Bool := l.all plainB
/-- A byte stands in a text. -/
def standsL (l : List UInt8) (b : UInt8) : Bool := l.any fun c => (c.toNat : Int) == (b.toNat : Int)
theorem take_snoc (s : ByteArray) (k : Nat) (h : k < s.size) : s.data.toList.take (k + 1) = s.data.toList.take k ++ [s[k]] := by
  rw [List.take_succ_eq_append_getElem (by simpa using h)]; rfl
theorem take_all (s : ByteArray) : s.data.toList.take s.size = s.data.toList := List.take_of_length_le (by simp)
theorem all_step {s : ByteArray} {p : UInt8 → Bool} {k : Nat} (hk : k < s.size) (h : (s.data.toList.take k).all p = true) (e : p s[k] = true) : (s.data.toList.take (k + 1)).all p = true := by
  rw [take_snoc s k hk, List.all_append, h]; simp [e]
theorem all_no {s : ByteArray} {p : UInt8 → Bool} {k : Nat} (hk : k < s.size) (e : p s[k] = false) : s.data.toList.all p = false := by
  rw [List.all_eq_false]
  exact ⟨s[k], by rw [List.mem_iff_getElem]; exact ⟨k, by simpa using hk, rfl⟩, by simp [e]⟩
theorem any_step {s : ByteArray} {p : UInt8 → Bool} {k : Nat} (hk : k < s.size) (h : (s.data.toList.take k).any p = false) (e : p s[k] = false) : (s.data.toList.take (k + 1)).any p = false := by
  rw [take_snoc s k hk, List.any_append, h]; simp [e]
theorem any_yes {s : ByteArray} {p : UInt8 → Bool} {k : Nat} (hk : k < s.size) (e : p s[k] = true) : s.data.toList.any p = true := by
  rw [List.any_eq_true]
  exact ⟨s[k], by rw [List.mem_iff_getElem]; exact ⟨k, by simpa using hk, rfl⟩, e⟩
/-- A record: a command and a reply. -/
def recOk (c r : ByteArray) : Bool := inB (c.size : Int) 1 160 && inB (r.size : Int) 0 200 && plainL c.data.toList && plainL r.data.toList && !(standsL c.data.toList 64)
end Go.Proofs.Ytphhenlokbodnaa
