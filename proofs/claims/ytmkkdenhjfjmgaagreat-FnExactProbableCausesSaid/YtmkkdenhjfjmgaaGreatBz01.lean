/- Joined: XSymP XNamP XInt XIntW XSymW XNamW XNamS. -/
import Derived.WalkKit
import Derived.Lib.Hide
import Derived.Test.YtmkkdenhjfjmgaaGreatProg
import Derived.Deep.DeepFit
import Derived.Deep.QuietTactic
import Derived.BigQuiet
import Derived.Deep.LoopGhost
import Derived.Deep.DeepMust
import Derived.StillTailTactics
import Derived.Deep.RegionHeld3
import Derived.WalkSpells
import Derived.WalkLawsBesides
import Derived.Handy
import Derived.OpenShut
import Derived.Deep.AppendLies
namespace Go.Proofs.YtmkkdenhjfjmgaaGreat
open Go.RowKit

/-- A number lies in a range. -/
def inB (n lo hi : Int) : Bool := decide (lo ≤ n) && decide (n ≤ hi)
theorem inB_true {n lo hi : Int} (h : inB n lo hi = true) : lo ≤ n ∧ n ≤ hi := by simpa [inB] using h
theorem inB_mk {n lo hi : Int} (h : lo ≤ n) (h2 : n ≤ hi) : inB n lo hi = true := by simp [inB, h, h2]

def m1 (a b : Nat) : Nat → Nat
  | 0 => 0
  | k + 1 => if (b / 2 ^ k) % 2 = 1 then m1 a b k ^^^ (a * 2 ^ k) else m1 a b k
def r1 (x : Nat) : Nat → Nat
  | 0 => x
  | k + 1 => if (r1 x k / 2 ^ (6 - k)) % 2 = 1 then r1 x k ^^^ (19 * 2 ^ (2 - k)) else r1 x k
def mul (a b : Nat) : Nat := r1 (m1 a b 4) 3
def mulI (a b : Int) : Int := (mul a.toNat b.toNat : Nat)

theorem m1_yes0 : ∀ a, a < 16 → ∀ b, b < 16 → ∀ k, k < 4 → (bits BinOp.and .i64 (((b : Nat) : Int) / 2 ^ k) 1 == 1) = true → bits BinOp.xor .i64 (m1 a b k : Nat) (wrap64 (((a : Nat) : Int) * 2 ^ k)) = (m1 a b (k + 1) : Nat) := by decide +kernel
theorem m1_no0 : ∀ a, a < 16 → ∀ b, b < 16 → ∀ k, k < 4 → (bits BinOp.and .i64 (((b : Nat) : Int) / 2 ^ k) 1 == 1) = false → ((m1 a b k : Nat) : Int) = (m1 a b (k + 1) : Nat) := by decide +kernel
theorem m1_le0 : ∀ a, a < 16 → ∀ b, b < 16 → m1 a b 4 < 128 := by decide +kernel
theorem r1_le0 : ∀ x, x < 128 → ∀ k, k < 4 → r1 x k < 128 := by decide +kernel
theorem r1_yes0 : ∀ x, x < 128 → ∀ k, k < 3 → (bits BinOp.and .i64 (((r1 x k : Nat) : Int) / 2 ^ (6 - k)) 1 == 1) = true → bits BinOp.xor .i64 (r1 x k : Nat) (wrap64 (19 * 2 ^ (2 - k))) = (r1 x (k + 1) : Nat) := by decide +kernel
theorem r1_no0 : ∀ x, x < 128 → ∀ k, k < 3 → (bits BinOp.and .i64 (((r1 x k : Nat) : Int) / 2 ^ (6 - k)) 1 == 1) = false → ((r1 x k : Nat) : Int) = (r1 x (k + 1) : Nat) := by decide +kernel
theorem r1_yes : ∀ x, x < 128 → ∀ j, j < 7 → 4 ≤ j → (bits BinOp.and .i64 (((r1 x (6 - j) : Nat) : Int) / 2 ^ j) 1 == 1) = true → bits BinOp.xor .i64 (r1 x (6 - j) : Nat) (wrap64 (19 * 2 ^ (j - 4))) = (r1 x (6 - (j - 1)) : Nat) := by decide +kernel
theorem r1_no : ∀ x, x < 128 → ∀ j, j < 7 → 4 ≤ j → (bits BinOp.and .i64 (((r1 x (6 - j) : Nat) : Int) / 2 ^ j) 1 == 1) = false → ((r1 x (6 - j) : Nat) : Int) = (r1 x (6 - (j - 1)) : Nat) := by decide +kernel
theorem mul_lt0 : ∀ a, a < 16 → ∀ b, b < 16 → mul a b < 16 := by decide +kernel
theorem mul_comm0 : ∀ a, a < 16 → ∀ b, b < 16 → mul a b = mul b a := by decide +kernel
theorem mul_xor0 : ∀ a, a < 16 → ∀ b, b < 16 → ∀ c, c < 16 → mul a (b ^^^ c) = mul a b ^^^ mul a c := by decide +kernel
/-- The inverse, as the search from 1 on finds it. -/
def inv (a : Nat) : Nat := ((List.range 16).find? fun b => 1 ≤ b && mul a b == 1).getD 0
theorem inv_mul0 : ∀ a, a < 16 → 1 ≤ a → mul a (inv a) = 1 := by decide +kernel
theorem inv_lt0 : ∀ a, a < 16 → 1 ≤ a → inv a < 16 ∧ 1 ≤ inv a := by decide +kernel
theorem inv_first0 : ∀ a, a < 16 → 1 ≤ a → ∀ b, b < inv a → 1 ≤ b → mul a b ≠ 1 := by decide +kernel
theorem mulI_bd {a b : Int} (ha : 0 ≤ a) (ha2 : a ≤ 15) (hb : 0 ≤ b) (hb2 : b ≤ 15) : 0 ≤ mulI a b ∧ mulI a b ≤ 15 := by
  have := mul_lt0 a.toNat (by omega) b.toNat (by omega)
  unfold mulI; omega
def invI (a : Int) : Int := (inv a.toNat : Nat)

def mulOk (a b : Int) : Bool := inB a 0 15 && inB b 0 15
def mulS (a b : Int) : Int := if mulOk a b then mulI a b else 0
def invOk (a : Int) : Bool := inB a 1 15
def invS (a : Int) : Int := if invOk a then invI a else 0
theorem invI_mul {a : Int} (ha : 1 ≤ a) (ha2 : a ≤ 15) : mulI a (invI a) = 1 := by
  have := inv_mul0 a.toNat (by omega) (by omega)
  unfold mulI invI; simp only [Int.toNat_natCast]; omega
theorem invI_bd {a : Int} (ha : 1 ≤ a) (ha2 : a ≤ 15) : 1 ≤ invI a ∧ invI a ≤ 15 := by
  have := inv_lt0 a.toNat (by omega) (by omega)
  unfold invI; omega
theorem invI_first {a : Int} (ha : 1 ≤ a) (ha2 : a ≤ 15) (b : Nat) (hb : (b : Int) < invI a) (h1 : 1 ≤ b) : mulI a b ≠ 1 := by
  have := inv_first0 a.toNat (by omega) (by omega) b (by unfold invI at hb; omega) h1
  unfold mulI; simp only [Int.toNat_natCast]; omega
end Go.Proofs.YtmkkdenhjfjmgaaGreat
namespace Go.Proofs.YtmkkdenhjfjmgaaGreat
open Go.RowKit

def letB (c : UInt8) : Bool := decide (97 ≤ (c.toNat : Int)) && decide ((c.toNat : Int) ≤ 122)
def digB (c : UInt8) : Bool := decide (48 ≤ (c.toNat : Int)) && decide ((c.toNat : Int) ≤ 57)
def sgnB (c : UInt8) : Bool := letB c || digB c
def hd0 (s : ByteArray) : Bool := match s.data.toList with | [] => false | c :: _ => letB c
def nameOk (s : ByteArray) : Bool := decide (1 ≤ s.size) && decide (s.size ≤ 8) && hd0 s && s.data.toList.all sgnB
theorem nam_snoc (s : ByteArray) (k : Nat) (h : k < s.size) : s.data.toList.take (k + 1) = s.data.toList.take k ++ [s[k]] := by
  rw [List.take_succ_eq_append_getElem (by simpa using h)]; rfl
theorem nam_all (s : ByteArray) : s.data.toList.take s.size = s.data.toList := List.take_of_length_le (by simp)
theorem nam_step {s : ByteArray} {p : UInt8 → Bool} {k : Nat} (hk : k < s.size) (h : (s.data.toList.take k).all p = true) (e : p s[k] = true) : (s.data.toList.take (k + 1)).all p = true := by
  rw [nam_snoc s k hk, List.all_append, h]; simp [e]
theorem nam_no {s : ByteArray} {p : UInt8 → Bool} {k : Nat} (hk : k < s.size) (e : p s[k] = false) : s.data.toList.all p = false := by
  rw [List.all_eq_false]
  exact ⟨s[k], by rw [List.mem_iff_getElem]; exact ⟨k, by simpa using hk, rfl⟩, by simp [e]⟩
theorem hd0_of {s : ByteArray} (h : 0 < s.size) : hd0 s = letB s[0] := by
  have e : s[0] = s.data.toList[0]'(by simpa using h) := rfl
  rw [e]
  unfold hd0
  split
  · rename_i he
    have h3 : s.data.toList.length = s.size := by simp
    rw [he, List.length_nil] at h3
    omega
  · rename_i c l he
    simp [he]
theorem nameOk_sgn {s : ByteArray} (h : s.data.toList.all sgnB = false) : nameOk s = false := by unfold nameOk; rw [h]; simp
theorem nameOk_hd {s : ByteArray} (h : hd0 s = false) : nameOk s = false := by unfold nameOk; rw [h]; simp
theorem nameOk_len {s : ByteArray} (h : ¬ (1 ≤ s.size ∧ s.size ≤ 8)) : nameOk s = false := by
  unfold nameOk
  by_cases h1 : 1 ≤ s.size
  · rw [decide_eq_false (show ¬ s.size ≤ 8 by omega)]; simp
  · rw [decide_eq_false h1]; simp
theorem nameOk_yes {s : ByteArray} (h : 1 ≤ s.size ∧ s.size ≤ 8) (h2 : hd0 s = true) (h3 : s.data.toList.all sgnB = true) : nameOk s = true := by
  unfold nameOk; rw [h2, h3, decide_eq_true h.1, decide_eq_true h.2]; rfl
end Go.Proofs.YtmkkdenhjfjmgaaGreat
namespace Go.Proofs.YtmkkdenhjfjmgaaGreat
open Go.RowKit

theorem int_eq {k : IntKind} {a b : Int} (h : a = b) : Value.int k a = Value.int k b := by rw [h]
theorem ret_int {k : IntKind} {a b : Int} (h : a = b) : Ending.returned (.int k a) = .returned (.int k b) := by rw [h]

/-- The integers of a list, as cells. -/
abbrev ints (xs : List Int) : List Value := xs.map (Value.int .i64)

/-- The slice value 'v' reads as the list 'xs' in the world 'w'. -/
def Rd (w : World) (v : Value) (xs : List Int) : Prop :=
  (v = .slice none 0 0 ∧ xs = []) ∨
  ∃ b off cap, v = .slice (some ⟨b, off, none⟩) xs.length cap ∧ xs.length ≤ cap ∧ cap ≤ maxLen ∧ b < w.heap.size ∧ ∀ j, j < xs.length → w.cell? ⟨b, off + j, none⟩ = some (.int .i64 ((xs[j]?.getD 0)))

/-- The slice value 'v' reads as 'xs' and lies in block 'v.ownBlock', which is one of integers, from 'base' on, and not frozen. -/
def Own (w : World) (base : Nat) (v : Value) (xs : List Int) : Prop :=
  (v = .slice none 0 0 ∧ xs = []) ∨
  ∃ g off cap cur, v = .slice (some ⟨g, off, none⟩) xs.length cap ∧ base ≤ g ∧ (∃ T, w.heap[g]? = some (.cells cur T (0, 0))) ∧ xs.length ≤ cap ∧ cap ≤ maxLen ∧ off + cap ≤ cur.size ∧ (cur.toList.drop off).take xs.length = ints xs

theorem Own.rd {w : World} {base : Nat} {v : Value} {xs : List Int} (h : Own w base v xs) : Rd w v xs := by
  rcases h with h | ⟨g, off, cap, cur, hv, hb, ⟨T, hg⟩, hl, hm, hs, ht⟩
  · exact .inl h
  · refine .inr ⟨g, off, cap, hv, hl, hm, (Array.getElem?_eq_some_iff.1 hg).1, fun j hj => ?_⟩
    rw [cell_of_row w g (off + j) cur _ (0, 0) hg]
    have e : ((cur.toList.drop off).take xs.length)[j]? = (ints xs)[j]? := by rw [ht]
    rw [List.getElem?_take, if_pos hj, List.getElem?_drop] at e
    rw [← Array.getElem?_toList, e]
    simp [hj]

theorem Own.lt {w : World} {base : Nat} {v : Value} {xs : List Int} (h : Own w base v xs) : ∀ k, v.ownBlock = some k → base ≤ k ∧ k < w.heap.size := by
  intro k hk
  rcases h with ⟨rfl, _⟩ | ⟨g, off, cap, cur, rfl, hb, ⟨T, hg⟩, _⟩
  · simp [Value.ownBlock] at hk
  · simp [Value.ownBlock] at hk
    subst hk
    exact ⟨hb, (Array.getElem?_eq_some_iff.1 hg).1⟩

theorem Own.len {w : World} {base : Nat} {v : Value} {xs : List Int} (h : Own w base v xs) : xs.length ≤ maxLen := by
  rcases h with ⟨_, rfl⟩ | ⟨g, off, cap, cur, rfl, hb, hg, h1, h2, _⟩
  · simp
  · omega
theorem Rd.len {w : World} {v : Value} {xs : List Int} (h : Rd w v xs) : xs.length ≤ maxLen := by
  rcases h with ⟨_, rfl⟩ | ⟨g, off, cap, rfl, h1, h2, _⟩
  · simp
  · omega

theorem Own.mono {w : World} {base base' : Nat} {v : Value} {xs : List Int} (h : Own w base v xs) (hb : base' ≤ base) : Own w base' v xs := by
  rcases h with h | ⟨g, off, cap, cur, hv, hbg, rest⟩
  · exact .inl h
  · exact .inr ⟨g, off, cap, cur, hv, by omega, rest⟩

/-- What is owned stays owned where its block is as it was. -/
theorem Own.kept {w w' : World} {base : Nat} {v : Value} {xs : List Int} (h : Own w base v xs) (hk : ∀ k, v.ownBlock = some k → w'.heap[k]? = w.heap[k]?) : Own w' base v xs := by
  rcases h with h | ⟨g, off, cap, cur, hv, hbg, hg, rest⟩
  · exact .inl h
  · subst hv
    obtain ⟨T, hg⟩ := hg
    exact .inr ⟨g, off, cap, cur, rfl, hbg, ⟨T, by rw [hk g rfl]; exact hg⟩, rest⟩
theorem Own.below {B base : Nat} {w w' : World} {v : Value} {xs : List Int} (h : Own w base v xs) (hb : Below B w w') (hB : ∀ k, v.ownBlock = some k → k < B) : Own w' base v xs :=
  h.kept fun k hk => hb.block k (hB k hk)
theorem Own.belowAll {base : Nat} {w w' : World} {v : Value} {xs : List Int} (h : Own w base v xs) (hb : Below w.heap.size w w') : Own w' base v xs :=
  h.below hb fun k hk => (h.lt k hk).2
theorem Own.drewN {w : World} {base : Nat} {v : Value} {xs : List Int} (h : Own w base v xs) (n : Nat) : Own (w.drewN n) base v xs := h
theorem Rd.drewN {w : World} {v : Value} {xs : List Int} (h : Rd w v xs) (n : Nat) : Rd (w.drewN n) v xs := h
theorem Own.drew {w : World} {base : Nat} {v : Value} {xs : List Int} (h : Own w base v xs) : Own w.drew base v xs := h
theorem Rd.drew {w : World} {v : Value} {xs : List Int} (h : Rd w v xs) : Rd w.drew v xs := h

theorem Rd.below {B : Nat} {w w' : World} {v : Value} {xs : List Int} (h : Rd w v xs) (hb : Below B w w') (hB : ∀ k, v.ownBlock = some k → k < B) : Rd w' v xs := by
  rcases h with h | ⟨b, off, cap, hv, h1, h2, h3, h4⟩
  · exact .inl h
  · subst hv
    exact .inr ⟨b, off, cap, rfl, h1, h2, by have := hb.size; omega, fun j hj => by rw [hb.cell (p := ⟨b, off + j, none⟩) (hB b rfl)]; exact h4 j hj⟩
theorem Rd.belowAll {w w' : World} {v : Value} {xs : List Int} (h : Rd w v xs) (hb : Below w.heap.size w w') : Rd w' v xs := by
  refine h.below hb fun k hk => ?_
  rcases h with ⟨rfl, _⟩ | ⟨b, off, cap, rfl, h1, h2, h3, h4⟩
  · simp [Value.ownBlock] at hk
  · simp [Value.ownBlock] at hk; omega

theorem Rd.shape {w : World} {v : Value} {xs : List Int} (h : Rd w v xs) : ∃ a cap, v = .slice a xs.length cap ∧ xs.length ≤ cap ∧ cap ≤ maxLen ∧
    (0 < xs.length → ∃ b off, a = some ⟨b, off, none⟩ ∧ b < w.heap.size ∧ ∀ j, j < xs.length → w.cell? ⟨b, off + j, none⟩ = some (.int .i64 ((xs[j]?.getD 0)))) := by
  rcases h with ⟨rfl, rfl⟩ | ⟨b, off, cap, rfl, h1, h2, h3, h4⟩
  · exact ⟨none, 0, rfl, by simp, by simp, by simp⟩
  · exact ⟨_, _, rfl, h1, h2, fun _ => ⟨b, off, rfl, h3, h4⟩⟩

theorem _root_.Go.World.grownBy.trans' {a b c : World} {row : Option Nat} (h : a.grownBy b row) (h2 : b.grownBy c row) : a.grownBy c row :=
  ⟨h2.os.trans h.os, h2.tape.trans h.tape, h2.output.trans h.output, Nat.le_trans h.size h2.size, fun k hk hne => (h2.block k (by have := h.size; omega) hne).trans (h.block k hk hne)⟩
/-- Nothing but draws lies between two worlds. -/
def Dr (w w' : World) : Prop := ∃ n, w' = w.drewN n
theorem Dr.refl (w : World) : Dr w w := ⟨0, rfl⟩
theorem Dr.drewN {w w' : World} (h : Dr w w') (n : Nat) : Dr w (w'.drewN n) := by
  obtain ⟨m, rfl⟩ := h
  exact ⟨m + n, by simp⟩
theorem Dr.drew {w w' : World} (h : Dr w w') : Dr w w'.drew := h.drewN 1
theorem Dr.trans {a b c : World} (h : Dr a b) (h2 : Dr b c) : Dr a c := by
  obtain ⟨m, rfl⟩ := h2
  exact h.drewN m
theorem Dr.below {B : Nat} {a w w' : World} (h : Dr w w') (hb : Below B a w) : Below B a w' := by
  obtain ⟨m, rfl⟩ := h
  exact hb.trans ⟨rfl, rfl, rfl, Nat.le_refl _, fun _ _ => rfl⟩

/-- For a walk: the value's own form, its length under a name. -/
theorem Rd.opn {w : World} {v : Value} {xs : List Int} (h : Rd w v xs) : ∃ a cap n, Hid (xs.length = n) ∧ v = .slice a n cap ∧ n ≤ cap ∧ n ≤ 9223372036854775807 ∧
    (0 < n → ∃ b off, a = some ⟨b, off, none⟩ ∧ b < w.heap.size ∧ ∀ j, j < n → w.cell? ⟨b, off + j, none⟩ = some (.int .i64 ((xs[j]?.getD 0)))) := by
  obtain ⟨a, cap, hv, h1, h2, h3⟩ := h.shape
  unfold maxLen at h2
  exact ⟨a, cap, xs.length, rfl, hv, h1, by omega, h3⟩

/-- From the library's own word: a row at its block's head. -/
theorem own_of_row {w : World} {base : Nat} {v : Value} {n : Nat} {xs : List Int} (h : w.ownsRow base 3 1 v n (ints xs)) : Own w base v xs := by
  obtain ⟨hl, h⟩ := h
  have hn : n = xs.length := by simpa using hl.symm
  subst hn
  rcases h with ⟨rfl, h0⟩ | ⟨g, cap, cur, rfl, hb, hg, h1, h2, h3, h4⟩
  · exact .inl ⟨rfl, List.eq_nil_of_length_eq_zero h0⟩
  · exact .inr ⟨g, 0, cap, cur, rfl, hb, ⟨_, hg⟩, h1, h2, by omega, by simpa using h4⟩

/-- A store into what is owned. -/
theorem Own.stored {w : World} {base : Nat} {v : Value} {xs : List Int} {g off n cap : Nat} (h : Own w base v xs) (hv : v = .slice (some ⟨g, off, none⟩) n cap) (j : Nat) (hj : j < xs.length) (u : Int) :
    Own (w.setCell ⟨g, off + j, none⟩ (.int .i64 u)) base v (xs.set j u) ∧ w.grownBy (w.setCell ⟨g, off + j, none⟩ (.int .i64 u)) (some g) := by
  rcases h with ⟨rfl, rfl⟩ | ⟨g', off', cap', cur, hv', hb, ⟨T, hg⟩, h1, h2, h3, h4⟩
  · simp at hj
  · rw [hv'] at hv
    simp only [Value.slice.injEq, Option.some.injEq, Addr.mk.injEq, and_true] at hv
    obtain ⟨⟨rfl, rfl⟩, rfl, rfl⟩ := hv
    refine ⟨.inr ⟨g', off', cap', cur.setIfInBounds (off' + j) (.int .i64 u), by simpa using hv', hb, ⟨T, heap_setCell_same w g' (off' + j) cur _ _ hg⟩, by simpa using h1, h2, by simpa using h3, ?_⟩,
      ⟨rfl, rfl, rfl, by simp, fun k _ hk => heap_setCell_other w ⟨g', off' + j, none⟩ k _ (fun e => hk (by simp [e]))⟩⟩
    rw [Array.toList_setIfInBounds, List.length_set]
    show List.take xs.length (List.drop off' (cur.toList.set (off' + j) (.int .i64 u))) = (xs.set j u).map (Value.int .i64)
    rw [List.map_set]
    show _ = (ints xs).set j (Value.int .i64 u)
    rw [← h4, List.drop_set, if_neg (by omega), List.take_set]
    congr 1; omega

theorem Own.frozenAt {w : World} {base : Nat} {v : Value} {xs : List Int} {g off n cap : Nat} (h : Own w base v xs) (hv : v = .slice (some ⟨g, off, none⟩) n cap) (j : Nat) : w.frozen? ⟨g, j, none⟩ = false := by
  rcases h with ⟨rfl, rfl⟩ | ⟨g', off', cap', cur, hv', hb, ⟨T, hg⟩, h1, h2, h3, h4⟩
  · simp at hv
  · rw [hv'] at hv
    simp only [Value.slice.injEq, Option.some.injEq, Addr.mk.injEq, and_true] at hv
    obtain ⟨⟨rfl, rfl⟩, rfl, rfl⟩ := hv
    exact frozen_of_row w g' j cur _ hg

/-- The cells of what is owned. -/
theorem Own.cellAt {w : World} {base : Nat} {v : Value} {xs : List Int} {g off n cap : Nat} (h : Own w base v xs) (hv : v = .slice (some ⟨g, off, none⟩) n cap) : n = xs.length ∧ ∀ j, j < xs.length → w.cell? ⟨g, off + j, none⟩ = some (.int .i64 ((xs[j]?.getD 0))) := by
  rcases h.rd with ⟨rfl, rfl⟩ | ⟨b, off', cap', hv', h1, h2, h3, h4⟩
  · simp at hv
  · rw [hv'] at hv
    simp only [Value.slice.injEq, Option.some.injEq, Addr.mk.injEq, and_true] at hv
    obtain ⟨⟨rfl, rfl⟩, rfl, rfl⟩ := hv
    exact ⟨rfl, h4⟩

theorem Tryz.infoInt : (Tryz.prog.info? 3).map (fun i => (i.zero, i.size, i.bytes)) = some (some (.int .i64 0), 1, 8) := by kernel_rfl

theorem take_succ' (zs : List Int) (k : Nat) (hk : k < zs.length) : zs.take (k + 1) = zs.take k ++ [zs[k]?.getD 0] := by
  rw [List.take_add_one, List.getElem?_eq_getElem hk]; rfl
theorem getD_wf {zs : List Int} (h : ∀ n ∈ zs, (Lit.int .i64 n).wf = true) (k : Nat) (hk : k < zs.length) : (Lit.int .i64 ((zs[k]?.getD 0))).wf = true := by
  have : (zs[k]?.getD 0) = zs[k] := by simp [hk]
  rw [this]; exact h _ (List.getElem_mem hk)
theorem take_eq_step {xs ys : List Int} {k : Nat} (hx : k < xs.length) (hy : k < ys.length) (h : xs.take k = ys.take k) (e : (xs[k]?.getD 0) = (ys[k]?.getD 0)) : xs.take (k + 1) = ys.take (k + 1) := by
  rw [take_succ' _ _ hx, take_succ' _ _ hy, h]
  congr 1
  simpa [List.getD] using e
/-- Whether two lists are equal. -/
def eqL (xs ys : List Int) : Bool := decide (xs = ys)
theorem eqL_refl (xs : List Int) : eqL xs xs = true := by simp [eqL]
theorem eqL_of {xs ys : List Int} (h : xs = ys) : eqL xs ys = true := by simp [eqL, h]
/-- The numbers from k on, as many as asked. -/
def cnt (k : Int) (n : Nat) : List Int := (List.range n).map fun (i : Nat) => k + (i : Int)
theorem cnt_len (k : Int) (n : Nat) : (cnt k n).length = n := by simp [cnt]
theorem cnt_getD (k : Int) (n j : Nat) (h : j < n) : ((cnt k n)[j]?.getD 0) = k + j := by simp [cnt, h]

section
variable {P : Program}
/-- append of one integer, to a slice of the call's own (the new element's block has just been laid). -/
theorem wpList_push {ops : Array Oper} {rest : List Oper} {o : Oper} {a : Act} {Q : Exit → Act → World → Prop} {wr : World} {y : Int} (hgd : o.guard = none) (s x : Operand) (T : TypeId)
    (ho : o.op = .call { callee := .builtin .append, args := #[s, x], argTypes := #[T, T] }) (ht : P.underlying T = some (.slice 3))
    (hinfo : (P.info? 3).map (fun i => (i.zero, i.size, i.bytes)) = some (some (.int .i64 0), 1, 8))
    (base : Nat) (v : Value) (n : Nat) (xs : List Int) (hs : a.eval s = v) (hown : wr.ownsRow base 3 1 v n (ints xs))
    (hx : a.eval x = .slice (some ⟨wr.heap.size, 0, none⟩) 1 1) (hn : n ≤ 1099511627776) (hbase : base ≤ wr.heap.size)
    (h : ∀ v' w', w'.ownsRow base 3 1 v' (n + 1) (ints (xs ++ [y])) → wr.grownBy w' v.ownBlock → wpList P ops Q rest (a.put o.dst v') w') :
    wpList P ops Q (o :: rest) a (wr.alloc (.cells #[.int .i64 y] 3)) := by
  obtain ⟨i0, hi, hz0, hz1, hz2⟩ := info_parts hinfo
  refine wpList_append_own _ hgd s x T ho base 3 i0 (.int .i64 0) 1 8 ht hi hz0 hz1 hz2 rfl (by decide) v n (ints xs) hs (hown.alloc _) ⟨wr.heap.size, 0, none⟩ 1 1 [.int .i64 y] hx rfl ?_ ?_ (by unfold maxLen; omega) (by omega) (by simp; omega) ?_
  · intro j u hu
    rcases j with _ | j
    · simp at hu; subst hu
      simp [Addr.add, World.cell?_alloc_at]
    · simp at hu
  · intro u hu; simp at hu; subst hu; rfl
  · intro v' w' h1 h2 _
    refine h v' w' ?_ ((World.grownBy_alloc _ _ _).trans' h2)
    simpa [ints] using h1
end

section
variable {P : Program}
/-- The same at a step of a region that draws its order; the new element's block is B. -/
theorem step_push {ops : Array Oper} {o : Oper} {a : Act} {K : Act → World → Prop} {Q : Exit → Act → World → Prop} {E : Prop} {w wr : World} {y : Int} (hgd : o.guard = none) (s x : Operand) (T : TypeId)
    (ho : o.op = .call { callee := .builtin .append, args := #[s, x], argTypes := #[T, T] }) (ht : P.underlying T = some (.slice 3))
    (hinfo : (P.info? 3).map (fun i => (i.zero, i.size, i.bytes)) = some (some (.int .i64 0), 1, 8))
    (base : Nat) (v : Value) (n : Nat) (xs : List Int) (hs : a.eval s = v) (hown : wr.ownsRow base 3 1 v n (ints xs)) (hw : w.heap = (wr.alloc (.cells #[.int .i64 y] 3)).heap)
    (hos : w.os = wr.os) (htape : w.tape = wr.tape) (hout : w.output = wr.output)
    (hx : a.eval x = .slice (some ⟨wr.heap.size, 0, none⟩) 1 1) (hn : n ≤ 1099511627776) (hbase : base ≤ wr.heap.size)
    (h : ∀ v' w', w'.ownsRow base 3 1 v' (n + 1) (ints (xs ++ [y])) → wr.grownBy w' v.ownBlock → K (a.put o.dst v') w') :
    if Region.wanted o (yielded ops a.tmps) = true then Oper.wp P o a w K Q else E := by
  have hwd : Region.wanted o (yielded ops a.tmps) = true := by simp [Region.wanted, hgd]
  rw [if_pos hwd]
  obtain ⟨i0, hi, hz0, hz1, hz2⟩ := info_parts hinfo
  have hown' : w.ownsRow base 3 1 v n (ints xs) := by
    have := hown.alloc (.cells #[.int .i64 y] 3)
    unfold World.ownsRow at this ⊢
    rw [hw]; exact this
  have hcell : ∀ p, w.cell? p = (wr.alloc (.cells #[.int .i64 y] 3)).cell? p := fun p => World.cell?_of_block (by rw [hw])
  refine wp_append_own w s x T ho base 3 i0 (.int .i64 0) 1 8 ht hi hz0 hz1 hz2 rfl (by decide) v n (ints xs) hs hown' ⟨wr.heap.size, 0, none⟩ 1 1 [.int .i64 y] hx rfl ?_ ?_ (by unfold maxLen; omega) (by omega) (by rw [hw]; simp; omega) ?_
  · intro j u hu
    rcases j with _ | j
    · simp at hu; subst hu
      rw [hcell]
      simp [Addr.add, World.cell?_alloc_at]
    · simp at hu
  · intro u hu; simp at hu; subst hu; rfl
  · intro v' w' h1 h2 _
    refine h v' w' (by simpa [ints] using h1) ?_
    exact ⟨h2.os.trans hos, h2.tape.trans htape, h2.output.trans hout, by have := h2.size; rw [hw] at this; simp at this; omega,
      fun k hk hne => (h2.block k (by rw [hw]; simp; omega) hne).trans (by rw [hw]; exact heap_alloc_old wr _ hk)⟩
end

/-- So many zeros, as cells. -/
def zer (n : Nat) : Array Value := (ints (List.replicate n 0)).toArray
/-- make([]int, n): an equation for the walk. -/
theorem run_mk {P : Program} {T : TypeId} (ht : P.underlying T = some (.slice 3))
    (hinfo : (P.info? 3).map (fun i => (i.zero, i.size, i.bytes)) = some (some (.int .i64 0), 1, 8)) (n : Nat) (hn : n ≤ 1099511627776) (w : World) :
    (Instr.makeSlice T (.int .i64 n) (.int .i64 n)).run P w = .ok (.slice (some ⟨w.heap.size, 0, none⟩) n n) (w.alloc (.cells (zer n) 3)) := by
  obtain ⟨i0, hi, hz0, hz1, hz2⟩ := info_parts hinfo
  have hr := run_make (P := P) w T 3 i0 (.int .i64 0) ht hi hz0 .i64 .i64 n n (by omega) (Int.le_refl _) (by rw [hz2]; omega) (by omega)
  simp only [Int.toNat_natCast, hz1, Nat.mul_one] at hr
  rw [hr]
  have e : madeCells (Value.int .i64 0).cells n = zer n := by
    apply Array.toList_inj.1
    have := toList_madeCells_one (.int .i64 0) n
    simpa [zer, ints, Value.cells] using this
  rw [e]
theorem own_zer {w : World} {n : Nat} (hn : n ≤ 1099511627776) : Own (w.alloc (.cells (zer n) 3)) w.heap.size (.slice (some ⟨w.heap.size, 0, none⟩) n n) (List.replicate n 0) :=
  .inr ⟨w.heap.size, 0, n, zer n, by simp, Nat.le_refl _, ⟨_, heap_alloc_new w _⟩, by simp, by unfold maxLen; omega, by simp [zer], by simp [zer]⟩

/-- Behind what 'grownBy' says: the rest of memory. -/
theorem below_push {B base : Nat} {u w w' : World} {v : Value} {n : Nat} {xs : List Value} {e : TypeId} (hb : Below B u w) (hown : w.ownsRow base e 1 v n xs) (hg : w.grownBy w' v.ownBlock) (hB : B ≤ base) (hB2 : B ≤ w.heap.size) : Below B u w' :=
  hb.grown hg hB2 fun k hk => by have := (hown.lt k hk).1; omega

end Go.Proofs.YtmkkdenhjfjmgaaGreat
namespace Go.Proofs.YtmkkdenhjfjmgaaGreat
open Go.RowKit

/-- What came in: nil, or a row of cells, the first 'len' of which are the elements. -/
def Raw (w : World) (a : Option Addr) (len cap : Nat) (zs : List Int) : Prop :=
  (a = none ∧ len = 0 ∧ cap = 0 ∧ zs = []) ∨
  ∃ x, a = some x ∧ len ≤ cap ∧ cap ≤ maxLen ∧ zs.length = cap ∧ (∀ i, i < zs.length → w.cell? (x.add i) = some (.int .i64 (zs.getD i 0))) ∧ ∀ n ∈ zs, (Lit.int .i64 n).wf = true

theorem Raw.at {w : World} {a : Option Addr} {len cap : Nat} {zs : List Int} (h : Raw w a len cap zs) (hl : 0 < len) :
    ∃ b off, a = some ⟨b, off, none⟩ ∧ ∀ j, j < len → w.cell? ⟨b, off + j, none⟩ = some (.int .i64 ((zs[j]?.getD 0))) := by
  rcases h with ⟨rfl, rfl, rfl, rfl⟩ | ⟨x, rfl, h1, h2, h3, h4, h5⟩
  · omega
  · obtain ⟨b, off, spot⟩ := x
    have hc := h4 0 (by omega)
    have hspot : spot = none := by simpa [Addr.add] using World.cell?_spot hc
    subst hspot
    refine ⟨b, off, rfl, fun j hj => ?_⟩
    have := h4 j (by omega)
    rw [show (zs[j]?.getD 0) = zs.getD j 0 from by simp [List.getD], ← this]
    by_cases h0 : j = 0 <;> simp [Addr.add, h0]
theorem Raw.le {w : World} {a : Option Addr} {len cap : Nat} {zs : List Int} (h : Raw w a len cap zs) : len ≤ zs.length ∧ len ≤ maxLen := by
  rcases h with ⟨rfl, rfl, rfl, rfl⟩ | ⟨x, rfl, h1, h2, h3, h4, h5⟩
  · simp
  · omega

theorem set_rep (zs : List Int) (n k : Nat) (hn : n ≤ zs.length) (hk : k < n) :
    (zs.take k ++ List.replicate (n - k) 0).set k ((zs[k]?.getD 0)) = zs.take (k + 1) ++ List.replicate (n - (k + 1)) 0 := by
  have hl : (zs.take k).length = k := by simp; omega
  rw [List.set_append_right _ _ (by omega), hl, Nat.sub_self]
  obtain ⟨m, hm⟩ : ∃ m, n - k = m + 1 := ⟨n - k - 1, by omega⟩
  rw [hm, show n - (k + 1) = m from by omega, List.replicate_succ, List.set_cons_zero, take_succ' _ _ (by omega)]
  simp [List.getD]

set_option maxHeartbeats 800000 in
theorem toIntS_raw (a : Option Addr) (len cap : Nat) (zs : List Int) (w : World) (h : Raw w a len cap zs) (hr : len ≤ 1048576) :
    Calls Tryz.prog 17 #[.slice a len cap] w fun e w' => ∃ v, e = .returned v ∧ Own w' w.heap.size v (zs.take len) ∧ Below w.heap.size w w' := by
  obtain ⟨i0, hi, hz0, hz1, hz2⟩ := info_parts Tryz.infoInt
  have hle := h.le
  go_enter Tryz.func17, Tryz.ntmps17
  go_wp2_with (refine wpList_make_full _ rfl _ _ 29 rfl w.heap.size 3 i0 (.int .i64 0) 1 Tryz.underlying29 hi hz0 hz1 _ _ _ _ len rfl rfl rfl rfl (by rw [hz2]; omega) (by unfold maxLen; omega) (Nat.le_refl _) ?_; intro w1 hown1 hgrow1)
  have hown2 : Own w1 w.heap.size (.slice (some ⟨w.heap.size, 0, none⟩) len len) (zs.take 0 ++ List.replicate (len - 0) 0) := by
    refine own_of_row (n := len) ?_
    have e : (madeCells (Value.int .i64 0).cells (len * 1)).toList = ints (zs.take 0 ++ List.replicate (len - 0) 0) := by
      rw [Nat.mul_one]
      have := toList_madeCells_one (.int .i64 0) len
      simpa [ints, Value.cells] using this
    rw [← e]; exact hown1
  have hb1 : Below w.heap.size w w1 := (Below.refl _ _).grown hgrow1 (Nat.le_refl _) (by simp)
  clear hown1 hgrow1
  have hsz : w.heap.size < w1.heap.size := (hown2.lt w.heap.size rfl).2
  go_loopw [4] (fun i wr => ∃ k : Nat, k ≤ len ∧ i = .int .i64 k ∧ Own wr w.heap.size (.slice (some ⟨w.heap.size, 0, none⟩) len len) (zs.take k ++ List.replicate (len - k) 0) ∧ Below w.heap.size w wr) (fun i _ => len - (intOf i).toNat)
  case atStart => exact ⟨0, by omega, rfl, hown2, hb1⟩
  case round =>
    obtain ⟨k, hk, rfl, hown, hbel⟩ := hrel
    by_cases hlt : k < len
    · obtain ⟨b, off, rfl, hc⟩ := h.at (show 0 < len by omega)
      have hbs : b < w.heap.size := block_lt_of_cell (hc k hlt)
      have hck : wr.cell? ⟨b, off + k, none⟩ = some (.int .i64 ((zs[k]?.getD 0))) := (hbel.cell (p := ⟨b, off + k, none⟩) hbs).trans (hc k hlt)
      have hlen : (zs.take k ++ List.replicate (len - k) 0).length = len := by simp; omega
      have hcell := (hown.cellAt rfl).2 k (by omega)
      have hfr := hown.frozenAt rfl k
      have hst := hown.stored rfl k (by omega) ((zs[k]?.getD 0))
      rw [set_rep zs len k (by omega) hlt] at hst
      rw [Nat.zero_add] at hcell hst
      have HS := Lib.hid hst
      have HB := Lib.hid hbel
      have HO := Lib.hid hown
      clear hst hown hlen hbel
      go_wp2
      go_roundw
      case rel => exact ⟨k + 1, by omega, by go_num, HS.out.1, HB.out.grown HS.out.2 (by have := HB.out.size; omega) (by simp)⟩
      case measure => simp [intOf]; omega
    · obtain rfl : k = len := by omega
      go_wp2
      go_ret
      exact ⟨_, rfl, by simpa using hown, hbel⟩

set_option maxHeartbeats 800000 in
theorem eqIntS_any (va vb : Value) (xs ys : List Int) (w : World) (ha : Rd w va xs) (hb : Rd w vb ys) :
    Calls Tryz.prog 20 #[va, vb] w fun e w' => e = .returned (.bool (eqL xs ys)) ∧ Dr w w' := by
  obtain ⟨a, capa, n, HX, rfl, _, hla, ha⟩ := ha.opn
  obtain ⟨b, capb, m, HY, rfl, _, hlb, hb⟩ := hb.opn
  by_cases hn : n = m
  · subst hn
    have hne : ((n : Int) != (n : Int)) = false := by simp
    have HR := Lib.hid (show xs = ys → eqL xs ys = true from eqL_of)
    have HN := Lib.hid (show xs ≠ ys → eqL xs ys = false from fun h => by simp [eqL, h])
    generalize eqL xs ys = r at *
    go_enter Tryz.func20, Tryz.ntmps20
    go_wp2
    go_loopw [5] (fun i wr => ∃ k : Nat, k ≤ n ∧ i = .int .i64 k ∧ Hid (xs.take k = ys.take k) ∧ Dr w wr) (fun i _ => n - (intOf i).toNat)
    case atStart => exact ⟨0, by omega, rfl, by simp [Hid], Dr.refl _⟩
    case round =>
      obtain ⟨k, hk, rfl, HT, m, rfl⟩ := hrel
      by_cases hlt : k < n
      · obtain ⟨b1, o1, rfl, hs1, hc1⟩ := ha (by omega)
        obtain ⟨b2, o2, rfl, hs2, hc2⟩ := hb (by omega)
        have c1 := hc1 k hlt
        have c2 := hc2 k hlt
        clear hc1 hc2
        by_cases he : (xs[k]?.getD 0) = (ys[k]?.getD 0)
        · have hne2 : ((xs[k]?.getD 0) != (ys[k]?.getD 0)) = false := by simpa using he
          have HE := Lib.hid he
          clear he
          go_wp2
          go_quiet (fail)
          go_wp2
          go_roundw
          case rel => exact ⟨k + 1, by omega, by go_num, take_eq_step (by rw [HX.out]; exact hlt) (by rw [HY.out]; exact hlt) HT.out HE.out, ⟨_, rfl⟩⟩
          case measure => simp [intOf]; omega
        · have hne2 : ((xs[k]?.getD 0) != (ys[k]?.getD 0)) = true := by simpa using he
          have HE := Lib.hid he
          clear he
          go_wp2
          go_quiet (fail)
          go_wp2
          go_ret
          exact ⟨by rw [HN.out (fun h => HE.out (by rw [h]))]; rfl, Dr.drewN ⟨_, rfl⟩ _⟩
      · obtain rfl : k = n := by omega
        go_wp2
        go_ret
        have hh := HT.out
        rw [← HX.out, List.take_length, HX.out, ← HY.out, List.take_length] at hh
        exact ⟨by rw [HR.out hh]; rfl, ⟨_, rfl⟩⟩
  · have hne : ((n : Int) != (m : Int)) = true := by rw [bne_iff_ne]; omega
    have he : eqL xs ys = false := by simp only [eqL, decide_eq_false_iff_not]; exact fun h => hn (by rw [← HX.out, ← HY.out, h])
    have HE := Lib.hid he
    clear he
    go_enter Tryz.func20, Tryz.ntmps20
    go_wp2
    go_ret
    exact ⟨by rw [HE.out]; rfl, Dr.refl _⟩

theorem mark_step (xs : List Int) (q : Int) (k : Nat) (hk : k < xs.length) : (cnt q k ++ xs.drop k).set k (q + k) = cnt q (k + 1) ++ xs.drop (k + 1) := by
  have hl : (cnt q k).length = k := cnt_len _ _
  rw [List.set_append_right _ _ (by omega), hl, Nat.sub_self]
  have : xs.drop k = xs[k] :: xs.drop (k + 1) := List.drop_eq_getElem_cons hk
  rw [this, List.set_cons_zero]
  simp [cnt, List.range_succ]

set_option maxHeartbeats 800000 in
theorem markIntS_any (v : Value) (xs : List Int) (q : Int) (base : Nat) (w : World) (h : Own w base v xs) (hq : 0 ≤ q) (hq2 : q + xs.length ≤ 4611686018427387904) :
    Calls Tryz.prog 26 #[v, .int .i64 q] w fun e w' => e = .returned (.int .i64 (q + xs.length)) ∧ Own w' base v (cnt q xs.length) ∧ w.grownBy w' v.ownBlock := by
  obtain ⟨a, cap, n, HX, hv, _, hla, ha⟩ := h.rd.opn
  have hx : xs.length = n := HX.out
  rw [hx] at hq2
  rw [hx]
  have hown : Own w base v (cnt q 0 ++ xs.drop 0) := by simpa [cnt] using h
  have hgr : w.grownBy w v.ownBlock := World.grownBy.refl _ _
  subst hv
  clear hx h
  go_enter Tryz.func26, Tryz.ntmps26
  go_wp2
  go_loopw [1, 5] (fun x i wr => ∃ k : Nat, k ≤ n ∧ i = .int .i64 k ∧ x = .int .i64 (q + k) ∧ Own wr base (.slice a n cap) (cnt q k ++ xs.drop k) ∧ w.grownBy wr (Value.slice a n cap).ownBlock) (fun _ i _ => n - (intOf i).toNat)
  case atStart => exact ⟨0, by omega, rfl, by simp, hown, hgr⟩
  case round =>
    obtain ⟨k, hk, rfl, rfl, hown, hgr⟩ := hrel
    by_cases hlt : k < n
    · obtain ⟨b, off, rfl, _, hc⟩ := ha (by omega)
      have hlen : (cnt q k ++ xs.drop k).length = n := by have := HX.out; simp [cnt_len]; omega
      have hcell := (hown.cellAt rfl).2 k (by omega)
      have hfr := hown.frozenAt rfl (off + k)
      have hst := hown.stored rfl k (by omega) (q + k)
      rw [mark_step xs q k (by rw [HX.out]; exact hlt)] at hst
      have HS := Lib.hid hst
      have HG := Lib.hid hgr
      clear hst hown hlen hgr
      go_wp2
      go_roundw
      case rel => exact ⟨k + 1, by omega, by go_num, int_eq (by omega), HS.out.1, HG.out.trans' HS.out.2⟩
      case measure => simp [intOf]; omega
    · obtain rfl : k = n := by omega
      go_wp2
      go_ret
      exact ⟨rfl, by have e := HX.out; rw [List.drop_of_length_le (by omega), List.append_nil] at hown; exact hown, hgr⟩

theorem cnt_step (xs : List Int) (q : Int) (k : Nat) (hk : k < xs.length) (h : xs.take k = cnt q k) (e : xs[k]?.getD 0 = q + k) : xs.take (k + 1) = cnt q (k + 1) := by
  rw [take_succ' _ _ hk, h, e]
  simp [cnt, List.range_succ]

set_option maxHeartbeats 800000 in
/-- Marks that stand: the next number. -/
theorem heldIntS_yes (v : Value) (q : Int) (n : Nat) (w : World) (h : Rd w v (cnt q n)) (hq : 0 ≤ q) (hq2 : q + n ≤ 4611686018427387904) :
    Calls Tryz.prog 27 #[v, .int .i64 q] w fun e w' => e = .returned (.int .i64 (q + n)) ∧ Dr w w' := by
  obtain ⟨a, cap, n', HX, hv, _, hla, ha⟩ := h.opn
  have hx : n = n' := by rw [← HX.out, cnt_len]
  subst hx
  subst hv
  go_enter Tryz.func27, Tryz.ntmps27
  go_wp2
  go_loopw [1, 5] (fun x i wr => ∃ k : Nat, k ≤ n ∧ i = .int .i64 k ∧ x = .int .i64 (q + k) ∧ Dr w wr) (fun _ i _ => n - (intOf i).toNat)
  case atStart => exact ⟨0, by omega, rfl, by simp, Dr.refl _⟩
  case round =>
    obtain ⟨k, hk, rfl, rfl, m, rfl⟩ := hrel
    by_cases hlt : k < n
    · obtain ⟨b, off, rfl, _, hc⟩ := ha (by omega)
      have hcell := hc k hlt
      have hcc := cnt_getD q n k hlt
      rw [hcc] at hcell
      clear hc hcc
      have hne : ((q + k : Int) != (q + k : Int)) = false := by simp
      go_wp2
      go_roundw
      case rel => exact ⟨k + 1, by omega, by go_num, int_eq (by omega), ⟨_, rfl⟩⟩
      case measure => simp [intOf]; omega
    · obtain rfl : k = n := by omega
      go_wp2
      go_ret
      exact ⟨rfl, ⟨_, rfl⟩⟩

theorem Raw.below {B : Nat} {w w' : World} {a : Option Addr} {len cap : Nat} {zs : List Int} (h : Raw w a len cap zs) (hb : Below B w w') (hB : w.heap.size ≤ B) : Raw w' a len cap zs := by
  rcases h with h | ⟨x, rfl, h1, h2, h3, h4, h5⟩
  · exact .inl h
  · refine .inr ⟨x, rfl, h1, h2, h3, fun i hi => ?_, h5⟩
    have hc := h4 i hi
    have hlt := World.block_lt_of_cell? w _ hc
    rw [hb.cell (p := x.add i) (by omega)]
    exact hc
theorem Below.of_dr {B : Nat} {a w w' : World} (h : Below B a w) (hd : Dr w w') : Below B a w' := hd.below h
theorem Rd.dr {w w' : World} {v : Value} {xs : List Int} (h : Rd w v xs) (hd : Dr w w') : Rd w' v xs := by
  obtain ⟨n, rfl⟩ := hd; exact h
theorem Own.dr {w w' : World} {base : Nat} {v : Value} {xs : List Int} (h : Own w base v xs) (hd : Dr w w') : Own w' base v xs := by
  obtain ⟨n, rfl⟩ := hd; exact h
theorem Dr.size {w w' : World} (hd : Dr w w') : w'.heap.size = w.heap.size := by
  obtain ⟨n, rfl⟩ := hd; rfl
theorem Own.grown {w w' : World} {base : Nat} {v : Value} {xs : List Int} {row : Option Nat} (h : Own w base v xs) (hg : w.grownBy w' row) (hne : ∀ k, v.ownBlock = some k → row ≠ some k) : Own w' base v xs :=
  h.kept fun k hk => hg.block k (h.lt k hk).2 fun e => hne k hk e.symm
/-- Two slices of which one lies below, the other from there on, are apart. -/
theorem Own.apart {w w' : World} {B base base' : Nat} {v v' : Value} {xs xs' : List Int} (h : Own w base v xs) (h' : Own w' base' v' xs') (hB : w.heap.size ≤ B) (hB' : B ≤ base') : ∀ k, v.ownBlock = some k → v'.ownBlock ≠ some k := by
  intro k hk e
  have := (h.lt k hk).2
  have := (h'.lt k e).1
  omega
end Go.Proofs.YtmkkdenhjfjmgaaGreat
namespace Go.Proofs.YtmkkdenhjfjmgaaGreat
open Go.RowKit

theorem within_any (n lo hi : Int) (w : World) : Calls Tryz.prog 83 #[.int .i64 n, .int .i64 lo, .int .i64 hi] w fun e w' => e = .returned (.bool (inB n lo hi)) ∧ w = w' := by
  by_cases h1 : lo ≤ n
  · have hd : decide (lo ≤ n) = true := by simpa using h1
    go_enter Tryz.func83, Tryz.ntmps83
    go_wp2
    go_ret
    exact ⟨by simp [inB, h1], rfl⟩
  · have hd : decide (lo ≤ n) = false := by simpa using h1
    go_enter Tryz.func83, Tryz.ntmps83
    go_wp2
    go_ret
    exact ⟨by rw [inB, hd]; rfl, rfl⟩

theorem l1In_any (n lo hi : Int) (w : World) : Calls Tryz.prog 86 #[.int .i64 n, .int .i64 lo, .int .i64 hi] w fun e w' => e = .returned (.bool (inB n lo hi)) ∧ w = w' := by
  by_cases h1 : lo ≤ n
  · have hd : decide (lo ≤ n) = true := by simpa using h1
    go_enter Tryz.func86, Tryz.ntmps86
    go_wp2
    go_ret
    exact ⟨by simp [inB, h1], rfl⟩
  · have hd : decide (lo ≤ n) = false := by simpa using h1
    go_enter Tryz.func86, Tryz.ntmps86
    go_wp2
    go_ret
    exact ⟨by rw [inB, hd]; rfl, rfl⟩

end Go.Proofs.YtmkkdenhjfjmgaaGreat
namespace Go.Proofs.YtmkkdenhjfjmgaaGreat
open Go.RowKit
set_option maxRecDepth 100000

set_option maxHeartbeats 3200000 in
theorem isName_any (s : ByteArray) (w : World) (hs : s.size ≤ maxLen) :
    Calls Tryz.prog 175 #[.string s] w fun e w' => e = .returned (.bool (nameOk s)) ∧ Dr w w' := by
  unfold maxLen at hs
  have HN := Lib.hid (fun k (hk : k < s.size) h => nameOk_sgn (nam_no (s := s) (p := sgnB) (k := k) hk h))
  have HS := Lib.hid (fun k (hk : k < s.size) h e => nam_step (s := s) (p := sgnB) (k := k) hk h e)
  have HA := Lib.hid (nam_all s)
  have HH := Lib.hid (@nameOk_hd s)
  have HL := Lib.hid (@nameOk_len s)
  have HY := Lib.hid (@nameOk_yes s)
  have H0 := Lib.hid (@hd0_of s)
  generalize nameOk s = r at *
  go_enter Tryz.func175, Tryz.ntmps175
  go_wp2
  go_loopw [3, 4, 5, 8] (fun _ _ _ i wr => ∃ k : Nat, k ≤ s.size ∧ i = .int .i64 k ∧ Hid ((s.data.toList.take k).all sgnB = true) ∧ Hid (0 < k → hd0 s = true) ∧ Hid (Dr w wr)) (fun _ _ _ i _ => s.size - (intOf i).toNat)
  case atStart => exact ⟨0, Nat.zero_le _, rfl, by simp [Hid], fun h => by omega, Dr.refl _⟩
  case round =>
    obtain ⟨k, hk, rfl, HT, HK, HD⟩ := hrel
    by_cases hlt : k < s.size
    · have hltI : (k : Int) < (s.size : Int) := by omega
      have HN1 := Lib.hid (HN.out k hlt)
      have HS1 := Lib.hid (HS.out k hlt HT.out)
      have H01 := Lib.hid (fun h : k = 0 => show hd0 s = letB s[k] by subst h; exact H0.out hlt)
      have HSG := Lib.hid (show sgnB s[k] = ((decide (97 ≤ (s[k].toNat : Int)) && decide ((s[k].toNat : Int) ≤ 122)) || (decide (48 ≤ (s[k].toNat : Int)) && decide ((s[k].toNat : Int) ≤ 57))) from rfl)
      have HLE := Lib.hid (show letB s[k] = (decide (97 ≤ (s[k].toNat : Int)) && decide ((s[k].toNat : Int) ≤ 122)) from rfl)
      clear HN HS H0
      by_cases c1 : 97 ≤ (s[k].toNat : Int)
      · have c1d : decide (97 ≤ (s[k].toNat : Int)) = true := decide_eq_true c1
        have c3 : 48 ≤ (s[k].toNat : Int) := by omega
        have c3d : decide (48 ≤ (s[k].toNat : Int)) = true := decide_eq_true c3
        have c4 : ¬ (s[k].toNat : Int) ≤ 57 := by omega
        have c4d : decide ((s[k].toNat : Int) ≤ 57) = false := decide_eq_false c4
        by_cases c2 : (s[k].toNat : Int) ≤ 122
        · have c2d : decide ((s[k].toNat : Int) ≤ 122) = true := decide_eq_true c2
          have HT2 := Lib.hid (HS1.out (by rw [HSG.out, c1d, c2d]; rfl))
          have HK2 := Lib.hid (fun (_ : 0 < k + 1) => show hd0 s = true by
            by_cases h : k = 0
            · rw [H01.out h, HLE.out, c1d, c2d]; rfl
            · exact HK.out (by omega))
          go_wp2
          go_quiet (fail)
          go_wp2
          go_roundw
          case rel => exact ⟨k + 1, hlt, by go_num, HT2.out, HK2.out, HD.out.drewN _⟩
          case measure => simp [intOf]; omega
        · have c2d : decide ((s[k].toNat : Int) ≤ 122) = false := decide_eq_false c2
          have HF := Lib.hid (HN1.out (by rw [HSG.out, c1d, c2d, c3d, c4d]; rfl))
          go_wp2
          go_quiet (fail)
          go_wp2
          go_ret
          exact ⟨by rw [HF.out]; rfl, HD.out.drewN _⟩
      · have c1d : decide (97 ≤ (s[k].toNat : Int)) = false := decide_eq_false c1
        by_cases c3 : 48 ≤ (s[k].toNat : Int)
        · have c3d : decide (48 ≤ (s[k].toNat : Int)) = true := decide_eq_true c3
          by_cases c4 : (s[k].toNat : Int) ≤ 57
          · have c4d : decide ((s[k].toNat : Int) ≤ 57) = true := decide_eq_true c4
            by_cases h0 : k = 0
            · have HF := Lib.hid (HH.out (by rw [H01.out h0, HLE.out, c1d]; rfl))
              have h0I : (k : Int) = 0 := by omega
              have h0b : ((k : Int) == 0) = true := by simpa using h0I
              clear h0I h0 H01
              go_wp2
              go_quiet (fail)
              go_wp2
              go_ret
              exact ⟨by rw [HF.out]; rfl, HD.out.drewN _⟩
            · have h0b : ((k : Int) == 0) = false := by simp; omega
              have HT2 := Lib.hid (HS1.out (by rw [HSG.out, c1d, c3d, c4d]; rfl))
              have HK2 := Lib.hid (fun (_ : 0 < k + 1) => HK.out (by omega))
              go_wp2
              go_quiet (fail)
              go_wp2
              go_roundw
              case rel => exact ⟨k + 1, hlt, by go_num, HT2.out, HK2.out, HD.out.drewN _⟩
              case measure => simp [intOf]; omega
          · have c4d : decide ((s[k].toNat : Int) ≤ 57) = false := decide_eq_false c4
            have HF := Lib.hid (HN1.out (by rw [HSG.out, c1d, c3d, c4d]; rfl))
            go_wp2
            go_quiet (fail)
            go_wp2
            go_ret
            exact ⟨by rw [HF.out]; rfl, HD.out.drewN _⟩
        · have c3d : decide (48 ≤ (s[k].toNat : Int)) = false := decide_eq_false c3
          have HF := Lib.hid (HN1.out (by rw [HSG.out, c1d, c3d]; rfl))
          go_wp2
          go_quiet (fail)
          go_wp2
          go_ret
          exact ⟨by rw [HF.out]; rfl, HD.out.drewN _⟩
    · obtain rfl : k = s.size := by omega
      have hall := HT.out
      rw [HA.out] at hall
      have HR := Lib.hid (show inB (s.size : Int) 1 8 = r from by
        by_cases h : 1 ≤ s.size ∧ s.size ≤ 8
        · rw [HY.out h (HK.out (by omega)) hall]; simp [inB]; omega
        · rw [HL.out h]
          by_cases h1 : 1 ≤ s.size
          · simp [inB]; omega
          · simp [inB]; omega)
      clear HT HK HA HN HS HH HL HY H0 hall
      go_wp2_with (go_at_call 83; refine (within_any _ _ _ _).mono ?_; rintro e w' ⟨rfl, rfl⟩)
      go_ret
      exact ⟨by rw [← HR.out]; rfl, HD.out⟩
end Go.Proofs.YtmkkdenhjfjmgaaGreat
namespace Go.Proofs.YtmkkdenhjfjmgaaGreat
open Go.RowKit
set_option maxRecDepth 100000

theorem l2Sign_any (b : UInt8) (w : World) :
    Calls Tryz.prog 208 #[.int .u8 (b.toNat : Int)] w fun e w' => e = .returned (.bool (sgnB b)) ∧ w = w' := by
  have HSG := Lib.hid (show sgnB b = ((decide (97 ≤ (b.toNat : Int)) && decide ((b.toNat : Int) ≤ 122)) || (decide (48 ≤ (b.toNat : Int)) && decide ((b.toNat : Int) ≤ 57))) from rfl)
  generalize sgnB b = r at *
  generalize (b.toNat : Int) = x at *
  by_cases c1 : 97 ≤ x
  · have c1d : decide (97 ≤ x) = true := decide_eq_true c1
    by_cases c2 : x ≤ 122
    · have c2d : decide (x ≤ 122) = true := decide_eq_true c2
      go_enter Tryz.func208, Tryz.ntmps208
      go_wp2
      go_ret
      exact ⟨by rw [HSG.out, c1d, c2d]; rfl, rfl⟩
    · have c2d : decide (x ≤ 122) = false := decide_eq_false c2
      have c3 : 48 ≤ x := by omega
      have c3d : decide (48 ≤ x) = true := decide_eq_true c3
      have c4 : ¬ x ≤ 57 := by omega
      have c4d : decide (x ≤ 57) = false := decide_eq_false c4
      go_enter Tryz.func208, Tryz.ntmps208
      go_wp2
      go_ret
      exact ⟨by rw [HSG.out, c1d, c2d, c3d, c4d]; rfl, rfl⟩
  · have c1d : decide (97 ≤ x) = false := decide_eq_false c1
    by_cases c3 : 48 ≤ x
    · have c3d : decide (48 ≤ x) = true := decide_eq_true c3
      by_cases c4 : x ≤ 57
      · have c4d : decide (x ≤ 57) = true := decide_eq_true c4
        go_enter Tryz.func208, Tryz.ntmps208
        go_wp2
        go_ret
        exact ⟨by rw [HSG.out, c1d, c3d, c4d]; rfl, rfl⟩
      · have c4d : decide (x ≤ 57) = false := decide_eq_false c4
        go_enter Tryz.func208, Tryz.ntmps208
        go_wp2
        go_ret
        exact ⟨by rw [HSG.out, c1d, c3d, c4d]; rfl, rfl⟩
    · have c3d : decide (48 ≤ x) = false := decide_eq_false c3
      go_enter Tryz.func208, Tryz.ntmps208
      go_wp2
      go_ret
      exact ⟨by rw [HSG.out, c1d, c3d]; rfl, rfl⟩
set_option maxHeartbeats 3200000 in
theorem l2Name_any (s : ByteArray) (w : World) (hs : s.size ≤ maxLen) :
    Calls Tryz.prog 183 #[.string s] w fun e w' => e = .returned (.bool (nameOk s)) ∧ w = w' := by
  unfold maxLen at hs
  have HN := Lib.hid (fun k (hk : k < s.size) h => nameOk_sgn (nam_no (s := s) (p := sgnB) (k := k) hk h))
  have HS := Lib.hid (fun k (hk : k < s.size) h e => nam_step (s := s) (p := sgnB) (k := k) hk h e)
  have HA := Lib.hid (nam_all s)
  have HH := Lib.hid (@nameOk_hd s)
  have HL := Lib.hid (@nameOk_len s)
  have HY := Lib.hid (@nameOk_yes s)
  have H0 := Lib.hid (@hd0_of s)
  generalize nameOk s = r at *
  by_cases hl : 1 ≤ s.size ∧ s.size ≤ 8
  · have hb : inB (s.size : Int) 1 8 = true := by simp [inB]; omega
    have h0 : 0 < s.size := by omega
    have h0I : (0 : Int) < (s.size : Int) := by omega
    have HLE := Lib.hid (show hd0 s = (decide (97 ≤ (s[0].toNat : Int)) && decide ((s[0].toNat : Int) ≤ 122)) from (H0.out h0).trans rfl)
    by_cases c1 : (s[0].toNat : Int) < 97
    · have c1d : decide ((s[0].toNat : Int) < 97) = true := decide_eq_true c1
      have HF := Lib.hid (HH.out (by rw [HLE.out, decide_eq_false (show ¬ 97 ≤ (s[0].toNat : Int) by omega)]; rfl))
      go_enter Tryz.func183, Tryz.ntmps183
      go_wp2_with (go_at_call 86; refine (l1In_any _ _ _ _).mono ?_; rintro e w' ⟨rfl, rfl⟩; rw [hb])
      go_ret
      exact ⟨by rw [HF.out]; rfl, rfl⟩
    by_cases c2 : 122 < (s[0].toNat : Int)
    · have c1d : decide ((s[0].toNat : Int) < 97) = false := decide_eq_false c1
      have c2d : decide (122 < (s[0].toNat : Int)) = true := decide_eq_true c2
      have HF := Lib.hid (HH.out (by rw [HLE.out, decide_eq_false (show ¬ (s[0].toNat : Int) ≤ 122 by omega)]; simp))
      go_enter Tryz.func183, Tryz.ntmps183
      go_wp2_with (go_at_call 86; refine (l1In_any _ _ _ _).mono ?_; rintro e w' ⟨rfl, rfl⟩; rw [hb])
      go_ret
      exact ⟨by rw [HF.out]; rfl, rfl⟩
    have c1d : decide ((s[0].toNat : Int) < 97) = false := decide_eq_false c1
    have c2d : decide (122 < (s[0].toNat : Int)) = false := decide_eq_false c2
    have HHD := Lib.hid (show hd0 s = true by rw [HLE.out, decide_eq_true (show 97 ≤ (s[0].toNat : Int) by omega), decide_eq_true (show (s[0].toNat : Int) ≤ 122 by omega)]; rfl)
    go_enter Tryz.func183, Tryz.ntmps183
    go_wp2_with (go_at_call 86; refine (l1In_any _ _ _ _).mono ?_; rintro e w' ⟨rfl, rfl⟩; rw [hb])
    go_loop [3] (fun i => ∃ k : Nat, k ≤ s.size ∧ i = .int .i64 k ∧ Hid ((s.data.toList.take k).all sgnB = true)) (fun i => s.size - (intOf i).toNat)
    case atStart => exact ⟨0, Nat.zero_le _, rfl, by simp [Hid]⟩
    case round =>
      obtain ⟨k, hk, rfl, HT⟩ := hrel
      by_cases hlt : k < s.size
      · have hltI : (k : Int) < (s.size : Int) := by omega
        have HN1 := Lib.hid (HN.out k hlt)
        have HS1 := Lib.hid (HS.out k hlt HT.out)
        have HQ := Lib.hid (fun w => l2Sign_any s[k] w)
        generalize sgnB s[k] = ok at *
        cases ok
        · have HF := Lib.hid (HN1.out rfl)
          go_wp2_with (go_at_call 208; refine (HQ.out _).mono ?_; rintro e w' ⟨rfl, rfl⟩)
          go_ret
          exact ⟨by rw [HF.out]; rfl, rfl⟩
        · have HT2 := Lib.hid (HS1.out rfl)
          go_wp2_with (go_at_call 208; refine (HQ.out _).mono ?_; rintro e w' ⟨rfl, rfl⟩)
          go_round
          case rel => exact ⟨k + 1, hlt, by go_num, HT2.out⟩
          case measure => simp [intOf]; omega
      · obtain rfl : k = s.size := by omega
        have hall := HT.out
        rw [HA.out] at hall
        have HR := Lib.hid (HY.out hl HHD.out hall)
        go_wp2
        go_ret
        exact ⟨by rw [HR.out]; rfl, rfl⟩
  · have hb : inB (s.size : Int) 1 8 = false := by
      by_cases h1 : 1 ≤ s.size
      · simp [inB]; omega
      · simp [inB]; omega
    have HF := Lib.hid (HL.out hl)
    clear hl
    go_enter Tryz.func183, Tryz.ntmps183
    go_wp2_with (go_at_call 86; refine (l1In_any _ _ _ _).mono ?_; rintro e w' ⟨rfl, rfl⟩; rw [hb])
    go_ret
    exact ⟨by rw [HF.out]; rfl, rfl⟩
end Go.Proofs.YtmkkdenhjfjmgaaGreat
