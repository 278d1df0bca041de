/- Plain Lean: frames, their bytes. -/
import Derived.Test.YtlemielobmbadaaErsI
import Derived.Test.YtlemielobmbadaaEncW
import Derived.Test.YtlemielobmbadaaDecS
namespace Go.Proofs.Ytlemielobmbadaa
open Go.RowKit

theorem Own.part {w : World} {base b off n cap : Nat} {xs : List Int} (h : Own w base (.slice (some ⟨b, off, none⟩) n cap) xs) (k m : Nat) (hk : k + m ≤ n) : Own w base (.slice (some ⟨b, off + k, none⟩) m (cap - k)) (sub xs k m) := by
  rcases h with ⟨h0, _⟩ | ⟨g, off', cap', cur, hv, hb, hg, h1, h2, h3, h4⟩
  · simp at h0
  · simp only [Value.slice.injEq, Option.some.injEq, Addr.mk.injEq, and_true] at hv
    obtain ⟨⟨rfl, rfl⟩, rfl, rfl⟩ := hv
    have hl : (sub xs k m).length = m := sub_len hk
    refine .inr ⟨b, off + k, cap - k, cur, by rw [hl], hb, hg, by omega, by omega, by omega, ?_⟩
    have e : ints (sub xs k m) = ((ints xs).drop k).take m := by simp [ints, sub, List.map_drop, List.map_take]
    rw [e, ← h4, List.drop_take, List.drop_drop, List.take_take, hl, Nat.min_eq_left (by omega)]
structure Frm where
  c : Int
  p : Int
  l : List Int
def bytL (xs : List Int) : Bool := xs.all fun x => inB x 0 255
theorem bytL_snoc (xs : List Int) (x : Int) : bytL (xs ++ [x]) = (bytL xs && inB x 0 255) := by simp [bytL]
theorem bytL_append (xs ys : List Int) : bytL (xs ++ ys) = (bytL xs && bytL ys) := by simp [bytL]
theorem bytL_take_false {xs : List Int} {k : Nat} (hk : k < xs.length) (h : inB (xs[k]?.getD 0) 0 255 = false) : bytL xs = false := by
  simp only [bytL, List.all_eq_false]
  refine ⟨xs[k], List.getElem_mem hk, ?_⟩
  simp [List.getElem?_eq_getElem hk] at h
  simp [h]
def frmOk (f : Frm) : Bool := inB f.c 0 255 && inB f.p 0 11 && decide (f.l.length = 12) && bytL f.l
theorem frmOk_of {f : Frm} {b1 b2 b3 b4 : Bool} (h1 : inB f.c 0 255 = b1) (h2 : inB f.p 0 11 = b2) (h3 : decide (f.l.length = 12) = b3) (h4 : bytL f.l = b4) : frmOk f = (b1 && b2 && b3 && b4) := by
  simp only [frmOk, h1, h2, h3, h4]
theorem frmOk_parts {f : Frm} (h : frmOk f = true) : inB f.c 0 255 = true ∧ inB f.p 0 11 = true ∧ f.l.length = 12 ∧ bytL f.l = true := by
  simp only [frmOk, Bool.and_eq_true, decide_eq_true_eq] at h
  exact ⟨h.1.1.1, h.1.1.2, h.1.2, h.2⟩
def parL (xs : List Int) : Int := xs.foldl xr 0
theorem parL_step {xs : List Int} {k : Nat} (hk : k < xs.length) : parL (xs.take (k + 1)) = xr (parL (xs.take k)) (xs[k]?.getD 0) := by
  rw [take_succ' _ _ hk, parL, List.foldl_append]; rfl
def frmH (f : Frm) : List Int := [246, 40, f.c, f.p] ++ f.l
def frmL (f : Frm) : List Int := frmH f ++ [parL (frmH f)]
theorem frmL_len {f : Frm} (h : f.l.length = 12) : (frmL f).length = 17 := by simp [frmL, frmH, h]
theorem frmH_len {f : Frm} (h : f.l.length = 12) : (frmH f).length = 16 := by simp [frmH, h]
/-- The value reads as the frame. -/
def RdF (w : World) (v : Value) (f : Frm) : Prop := ∃ u, v = .agg #[.int .i64 f.c, .int .i64 f.p, u] ∧ Rd w u f.l
def OwF (w : World) (base : Nat) (v : Value) (f : Frm) : Prop := ∃ u, v = .agg #[.int .i64 f.c, .int .i64 f.p, u] ∧ Own w base u f.l
theorem OwF.rd {w : World} {base : Nat} {v : Value} {f : Frm} (h : OwF w base v f) : RdF w v f := by
  obtain ⟨u, rfl, o⟩ := h; exact ⟨u, rfl, o.rd⟩
theorem RdF.belowAll {w w' : World} {v : Value} {f : Frm} (h : RdF w v f) (hb : Below w.heap.size w w') : RdF w' v f := by
  obtain ⟨u, rfl, o⟩ := h; exact ⟨u, rfl, o.belowAll hb⟩
theorem OwF.belowAll {w w' : World} {base : Nat} {v : Value} {f : Frm} (h : OwF w base v f) (hb : Below w.heap.size w w') : OwF w' base v f := by
  obtain ⟨u, rfl, o⟩ := h; exact ⟨u, rfl, o.belowAll hb⟩
theorem OwF.mono {w : World} {b b' : Nat} {v : Value} {f : Frm} (h : OwF w b v f) (hb : b' ≤ b) : OwF w b' v f := by
  obtain ⟨u, rfl, o⟩ := h; exact ⟨u, rfl, o.mono hb⟩
/-- The frame that a list of bytes is, if it is one. -/
def prsF (xs : List Int) : Frm := ⟨xs[2]?.getD 0, xs[3]?.getD 0, sub xs 4 12⟩
def prsOk (xs : List Int) : Bool := decide (xs.length = 17) && frmOk (prsF xs) && eqL (frmL (prsF xs)) xs
def nilF : Frm := ⟨0, 0, []⟩
def prsR (xs : List Int) : Frm := if prsOk xs then prsF xs else nilF
theorem prs_frm {f : Frm} (h : frmOk f = true) : prsOk (frmL f) = true ∧ prsR (frmL f) = f := by
  obtain ⟨h1, h2, h3, h4⟩ := frmOk_parts h
  have e : prsF (frmL f) = f := by
    obtain ⟨c, p, l⟩ := f
    simp only [prsF, frmL, frmH, Frm.mk.injEq]
    refine ⟨by simp, by simp, ?_⟩
    simp only [sub]
    rw [show ([246, 40, c, p] ++ l ++ [parL ([246, 40, c, p] ++ l)]).drop 4 = l ++ [parL ([246, 40, c, p] ++ l)] from rfl, List.take_append_of_le_length (by simp at h3; omega), List.take_of_length_le (by simp at h3; omega)]
  have ho : prsOk (frmL f) = true := by
    unfold prsOk
    rw [e, h, frmL_len h3, eqL_refl]; rfl
  exact ⟨ho, by unfold prsR; rw [if_pos ho, e]⟩
theorem frm_prs {xs : List Int} (h : prsOk xs = true) : frmOk (prsR xs) = true ∧ frmL (prsR xs) = xs ∧ xs.length = 17 := by
  unfold prsR; rw [if_pos h]
  simp only [prsOk, Bool.and_eq_true, decide_eq_true_eq, eqL] at h
  exact ⟨h.1.2, h.2, h.1.1⟩
theorem xr_small {a b : Nat} (ha : a < 65536) (hb : b < 65536) : xr (a : Int) (b : Int) = ((a ^^^ b : Nat) : Int) := by
  have hx : a ^^^ b < 2 ^ 16 := Nat.xor_lt_two_pow (by omega) (by omega)
  have h1 : (BitVec.ofInt 64 (a : Int)).toNat = a := by
    rw [BitVec.ofInt_natCast, BitVec.toNat_ofNat]; exact Nat.mod_eq_of_lt (by omega)
  have h2 : (BitVec.ofInt 64 (b : Int)).toNat = b := by
    rw [BitVec.ofInt_natCast, BitVec.toNat_ofNat]; exact Nat.mod_eq_of_lt (by omega)
  show IntKind.i64.wrap ((BitVec.ofInt 64 (a : Int) ^^^ BitVec.ofInt 64 (b : Int)).toNat : Int) = _
  rw [BitVec.toNat_xor, h1, h2]
  simp [IntKind.wrap, IntKind.bits, IntKind.signed]
  omega
theorem xr255 {a b : Int} (ha : 0 ≤ a ∧ a ≤ 255) (hb : 0 ≤ b ∧ b ≤ 255) : 0 ≤ xr a b ∧ xr a b ≤ 255 := by
  obtain ⟨m, rfl⟩ := Int.eq_ofNat_of_zero_le ha.1
  obtain ⟨n, rfl⟩ := Int.eq_ofNat_of_zero_le hb.1
  rw [xr_small (by omega) (by omega)]
  have h1 : m < 2 ^ 8 := by omega
  have h2 : n < 2 ^ 8 := by omega
  have := Nat.xor_lt_two_pow h1 h2
  omega
theorem parL_bd {xs : List Int} (h : bytL xs = true) : ∀ k, k ≤ xs.length → 0 ≤ parL (xs.take k) ∧ parL (xs.take k) ≤ 255
  | 0, _ => by simp [parL]
  | k + 1, hk => by
    rw [parL_step (by omega)]
    refine xr255 (parL_bd h k (by omega)) ?_
    have hm : xs[k] ∈ xs := List.getElem_mem (by omega)
    have := (List.all_eq_true.1 h) _ hm
    rw [List.getElem?_eq_getElem (by omega)]
    exact inB_true this
theorem inB_of {x lo hi : Int} (h : lo ≤ x ∧ x ≤ hi) : inB x lo hi = true := by simp [inB, h.1, h.2]
theorem frm_bytes {f : Frm} (h : frmOk f = true) : bytL (frmL f) = true := by
  obtain ⟨h1, h2, h3, h4⟩ := frmOk_parts h
  have hH : bytL (frmH f) = true := by
    have := inB_true h1; have h2' := inB_true h2
    unfold frmH
    rw [bytL_append, h4]
    simp [bytL, h1, inB_of (show 0 ≤ f.p ∧ f.p ≤ 255 by omega)]
    decide
  unfold frmL
  rw [bytL_snoc, hH]
  have := parL_bd hH _ (Nat.le_refl _)
  rw [List.take_length] at this
  rw [inB_of this]; rfl
end Go.Proofs.Ytlemielobmbadaa
