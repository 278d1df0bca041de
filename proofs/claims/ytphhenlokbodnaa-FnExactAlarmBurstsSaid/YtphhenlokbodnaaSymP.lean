/- Plain Lean on symbols of the field of 16 elements: product and inverse as the Go text computes them, and their laws. No program in sight. -/
import Derived.WalkKit
namespace Go.Proofs.Ytphhenlokbodnaa
open Go.RowKit

/-- A number lies in a range. -/
def inB (n lo hi : Int) : Bool := decide (lo ≤ n) && decide (n ≤ hi)
theorem inB_true {n lo hi : Int} (h : inB n lo hi = true) : lo ≤ n ∧ n ≤ hi := by simpa [inB] using h
theorem inB_mk {n lo hi : Int} (h : lo ≤ n) (h2 : n ≤ hi) : inB n lo hi = true := by simp [inB, h, h2]

def m1 (a b : Nat) : Nat → Nat
  | 0 => 0
  | k + 1 => if (b / 2 ^ k) % 2 = 1 then m1 a b k ^^^ (a * 2 ^ k) else m1 a b k
def r1 (x : Nat) : Nat → Nat
  | 0 => x
  | k + 1 => if (r1 x k / 2 ^ (6 - k)) % 2 = 1 then r1 x k ^^^ (19 * 2 ^ (2 - k)) else r1 x k
def mul (a b : Nat) : Nat := r1 (m1 a b 4) 3
def mulI (a b : Int) : Int := (mul a.toNat b.toNat : Nat)

theorem m1_yes0 : ∀ a, a < 16 → ∀ b, b < 16 → ∀ k, k < 4 → (bits BinOp.and .i64 (((b : Nat) : Int) / 2 ^ k) 1 == 1) = true → bits BinOp.xor .i64 (m1 a b k : Nat) (wrap64 (((a : Nat) : Int) * 2 ^ k)) = (m1 a b (k + 1) : Nat) := by decide +kernel
theorem m1_no0 : ∀ a, a < 16 → ∀ b, b < 16 → ∀ k, k < 4 → (bits BinOp.and .i64 (((b : Nat) : Int) / 2 ^ k) 1 == 1) = false → ((m1 a b k : Nat) : Int) = (m1 a b (k + 1) : Nat) := by decide +kernel
theorem m1_le0 : ∀ a, a < 16 → ∀ b, b < 16 → m1 a b 4 < 128 := by decide +kernel
theorem r1_le0 : ∀ x, x < 128 → ∀ k, k < 4 → r1 x k < 128 := by decide +kernel
theorem r1_yes0 : ∀ x, x < 128 → ∀ k, k < 3 → (bits BinOp.and .i64 (((r1 x k : Nat) : Int) / 2 ^ (6 - k)) 1 == 1) = true → bits BinOp.xor .i64 (r1 x k : Nat) (wrap64 (19 * 2 ^ (2 - k))) = (r1 x (k + 1) : Nat) := by decide +kernel
theorem r1_no0 : ∀ x, x < 128 → ∀ k, k < 3 → (bits BinOp.and .i64 (((r1 x k : Nat) : Int) / 2 ^ (6 - k)) 1 == 1) = false → ((r1 x k : Nat) : Int) = (r1 x (k + 1) : Nat) := by decide +kernel
theorem r1_yes : ∀ x, x < 128 → ∀ j, j < 7 → 4 ≤ j → (bits BinOp.and .i64 (((r1 x (6 - j) : Nat) : Int) / 2 ^ j) 1 == 1) = true → bits BinOp.xor .i64 (r1 x (6 - j) : Nat) (wrap64 (19 * 2 ^ (j - 4))) = (r1 x (6 - (j - 1)) : Nat) := by decide +kernel
theorem r1_no : ∀ x, x < 128 → ∀ j, j < 7 → 4 ≤ j → (bits BinOp.and .i64 (((r1 x (6 - j) : Nat) : Int) / 2 ^ j) 1 == 1) = false → ((r1 x (6 - j) : Nat) : Int) = (r1 x (6 - (j - 1)) : Nat) := by decide +kernel
theorem mul_lt0 : ∀ a, a < 16 → ∀ b, b < 16 → mul a b < 16 := by decide +kernel
theorem mul_comm0 : ∀ a, a < 16 → ∀ b, b < 16 → mul a b = mul b a := by decide +kernel
theorem mul_xor0 : ∀ a, a < 16 → ∀ b, b < 16 → ∀ c, c < 16 → mul a (b ^^^ c) = mul a b ^^^ mul a c := by decide +kernel
/-- The inverse, as the search from 1 on finds it. -/
def inv (a : Nat) : Nat := ((List.range 16).find? fun b => 1 ≤ b && mul a b == 1).getD 0
theorem inv_mul0 : ∀ a, a < 16 → 1 ≤ a → mul a (inv a) = 1 := by decide +kernel
theorem inv_lt0 : ∀ a, a < 16 → 1 ≤ a → inv a < 16 ∧ 1 ≤ inv a := by decide +kernel
theorem inv_first0 : ∀ a, a < 16 → 1 ≤ a → ∀ b, b < inv a → 1 ≤ b → mul a b ≠ 1 := by decide +kernel
theorem mulI_bd {a b : Int} (ha : 0 ≤ a) (ha2 : a ≤ 15) (hb : 0 ≤ b) (hb2 : b ≤ 15) : 0 ≤ mulI a b ∧ mulI a b ≤ 15 := by
  have := mul_lt0 a.toNat (by omega) b.toNat (by omega)
  unfold mulI; omega
def invI (a : Int) : Int := (inv a.toNat : Nat)

def mulOk (a b : Int) : Bool := inB a 0 15 && inB b 0 15
def mulS (a b : Int) : Int := if mulOk a b then mulI a b else 0
def invOk (a : Int) : Bool := inB a 1 15
def invS (a : Int) : Int := if invOk a then invI a else 0
theorem invI_mul {a : Int} (ha : 1 ≤ a) (ha2 : a ≤ 15) : mulI a (invI a) = 1 := by
  have := inv_mul0 a.toNat (by omega) (by omega)
  unfold mulI invI; simp only [Int.toNat_natCast]; omega
theorem invI_bd {a : Int} (ha : 1 ≤ a) (ha2 : a ≤ 15) : 1 ≤ invI a ∧ invI a ≤ 15 := by
  have := inv_lt0 a.toNat (by omega) (by omega)
  unfold invI; omega
theorem invI_first {a : Int} (ha : 1 ≤ a) (ha2 : a ≤ 15) (b : Nat) (hb : (b : Int) < invI a) (h1 : 1 ≤ b) : mulI a b ≠ 1 := by
  have := inv_first0 a.toNat (by omega) (by omega) b (by unfold invI at hb; omega) h1
  unfold mulI; simp only [Int.toNat_natCast]; omega
end Go.Proofs.Ytphhenlokbodnaa
