/- Joined: XRow XPlnP XRtsP XHas XRou XGrd XLenW XCmrW XGrpP XHitP XMsk XBit XVis XCom. -/
import Derived.Test.YtofcicomhnkocaaGreatBp03
import Derived.Test.YtofcicomhnkocaaGreatBp01
import Derived.Test.YtofcicomhnkocaaGreatBp06
import Derived.Lib.QuietBelow
import Derived.Shelf.SlSortCmp.QuietGrown
import Derived.BigQuiet
import Derived.Test.YtofcicomhnkocaaGreatBp02
import Derived.Test.YtofcicomhnkocaaGreatBp05
import Derived.Deep.RegionHeld3
import Derived.Deep.RegionLaw
import Derived.Deep.CutRange
set_option linter.unusedVariables false
namespace Go.Proofs.YtofcicomhnkocaaGreat
open Go.RowKit

section
variable {α : Type}
def rws (m : Nat) (en : α → List Dt) (zs : List α) : Dt := .rows m (zs.flatMap en)
theorem rws_len {en : α → List Dt} {m : Nat} (hm : ∀ z, (en z).length = m) (zs : List α) : (zs.flatMap en).length = zs.length * m := flat_length hm zs
theorem rws_at {en : α → List Dt} {m : Nat} (hm : ∀ z, (en z).length = m) (nil : α) (zs : List α) {i r : Nat} (hi : i < zs.length) (hr : r < m) : (zs.flatMap en)[i * m + r]? = (en (zs[i]?.getD nil))[r]? := by
  rw [flat_at hm zs i r hr, List.getElem?_eq_getElem hi]; rfl
theorem rws_opn {en : α → List Dt} {m : Nat} {w : World} {v : Value} {zs : List α} (hm : ∀ z, (en z).length = m) (hm0 : 0 < m) (nil : α) (h : Rdt w (rws m en zs) v) :
    ∃ a n cap, v = .slice a n cap ∧ Hid (zs.length = n) ∧ n ≤ cap ∧ n ≤ 9223372036854775807 ∧
    (0 < n → ∃ b off, a = some ⟨b, off, none⟩ ∧ b < w.heap.size ∧ ∀ i, i < n → ∀ r d, (en (zs[i]?.getD nil))[r]? = some d → ∃ u, w.cell? ⟨b, off + i * m + r, none⟩ = some u ∧ Rdt w d u) := by
  obtain ⟨a, n, cap, hv, HN, h1, h2, h3⟩ := h.opn
  have hn : zs.length = n := by
    have := HN.out
    rw [rws_len hm] at this
    exact Nat.eq_of_mul_eq_mul_right hm0 this
  refine ⟨a, n, cap, hv, hn, h1, h2, fun h0 => ?_⟩
  obtain ⟨b, off, ea, hb, hc⟩ := h3 h0
  refine ⟨b, off, ea, hb, fun i hi r d hd => ?_⟩
  have hr : r < m := by rw [← hm (zs[i]?.getD nil)]; exact (List.getElem?_eq_some_iff.1 hd).1
  obtain ⟨u, k1, k2⟩ := hc (i * m + r) d (by rw [rws_at hm nil zs (by omega) hr]; exact hd)
  exact ⟨u, by rw [Nat.add_assoc]; exact k1, k2⟩
end
end Go.Proofs.YtofcicomhnkocaaGreat
namespace Go.Proofs.YtofcicomhnkocaaGreat
open Go.RowKit

/-! ### Routes -/
structure Rou where
  st : Int
  fb : List Int
def othE (f : Fib) (node : Int) : Int := if node = f.a then f.b else if node = f.b then f.a else -1
def wlk (n : Net) : List Int → Int → List Int → Option (List Int)
  | out, _, [] => some out
  | out, t, i :: is => if inB i 0 ((n.fs.length : Int) - 1) then (if othE (fbA n i.toNat) t < 0 ∨ othE (fbA n i.toNat) t ∈ out then none else wlk n (out ++ [othE (fbA n i.toNat) t]) (othE (fbA n i.toNat) t) is) else none
def rouN (n : Net) (r : Rou) : Option (List Int) := if inB r.st 0 ((n.ns.length : Int) - 1) && !r.fb.isEmpty then wlk n [r.st] r.st r.fb else none
def rouOk (n : Net) (r : Rou) : Bool := (rouN n r).isSome
/-! ### Blocks -/
def blkOk (f c : Int) : Bool := decide (0 ≤ f) && (inB c 1 24 && decide (f ≤ 24 - c))
theorem blkOk_bd {f c : Int} (h : blkOk f c = true) : 0 ≤ f ∧ 1 ≤ c ∧ f + c ≤ 24 := by
  unfold blkOk at h
  simp only [Bool.and_eq_true, decide_eq_true_eq] at h
  have := inB_true h.2.1
  omega
def mskN (f c : Nat) : Nat := (2 ^ c - 1) * 2 ^ f
def msk (f c : Int) : Int := (mskN f.toNat c.toNat : Int)

/-! ### Lights -/
structure Lgt where
  id : Int
  st : Int
  fb : List Int
  fi : Int
  ct : Int
def nilL : Lgt := ⟨0, 0, [], 0, 0⟩
def lgtD (x : Lgt) : List Dt := [.leaf (.int .i64 x.id), .leaf (.int .i64 x.st), inD x.fb, .leaf (.int .i64 x.fi), .leaf (.int .i64 x.ct)]
def lgtOk (n : Net) (x : Lgt) : Bool := rouOk n ⟨x.st, x.fb⟩ && inB x.id 1 999 && blkOk x.fi x.ct
def meets (xs ys : List Int) : Bool := xs.any fun x => ys.contains x
def hitB (x y : Lgt) : Bool := decide (x.fi < y.fi + y.ct ∧ y.fi < x.fi + x.ct)
def collB (x y : Lgt) : Bool := hitB x y && meets x.fb y.fb

/-! ### Plans -/
structure Pln where
  n : Net
  ls : List Lgt
abbrev lgA (p : Pln) (i : Nat) : Lgt := p.ls[i]?.getD nilL
def PlnR (w : World) (v : Value) (p : Pln) : Prop := ∃ u1 u2 u3, v = .agg #[u1, u2, u3] ∧ Rdt w (flt 1 strE p.n.ns) u1 ∧ Rdt w (flt 4 fibE p.n.fs) u2 ∧ Rdt w (rws 5 lgtD p.ls) u3 ∧ ∀ i : Nat, (nmA p.n i).size ≤ 1048576
theorem PlnR.behind {w w' : World} {v : Value} {p : Pln} (h : PlnR w v p) (hb : Below w.heap.size w w') : PlnR w' v p := by
  obtain ⟨u1, u2, u3, e, h1, h2, h3, h4⟩ := h; exact ⟨u1, u2, u3, e, h1.behind hb, h2.behind hb, h3.behind hb, h4⟩
end Go.Proofs.YtofcicomhnkocaaGreat
namespace Go.Proofs.YtofcicomhnkocaaGreat
open Go.RowKit

/-! ### The order of routes with the same start -/
def lenR (n : Net) (fs : List Int) : Int := (fs.map fun i => (fbA n i.toNat).l).sum
def sgnI (x : Int) : Int := if x < 0 then -1 else if 0 < x then 1 else 0
def lexI : List Int → List Int → Int
  | [], [] => 0
  | [], _ :: _ => -1
  | _ :: _, [] => 1
  | a :: ar, b :: br => if a < b then -1 else if b < a then 1 else lexI ar br
def cmpR (n : Net) (a b : List Int) : Int :=
  if lenR n a = lenR n b then (if a.length = b.length then lexI a b else sgnI ((a.length : Int) - b.length)) else sgnI (lenR n a - lenR n b)
theorem sgnI_neg {x : Int} : sgnI x < 0 ↔ x < 0 := by
  unfold sgnI; split
  · omega
  · split <;> omega
theorem lexI_self (a : List Int) : lexI a a = 0 := by
  induction a with
  | nil => rfl
  | cons x a ih => rw [lexI, if_neg (by omega), if_neg (by omega), ih]
theorem lexI_eq : ∀ {a b : List Int}, lexI a b = 0 → a = b
  | [], [], _ => rfl
  | [], _ :: _, h => by simp [lexI] at h
  | _ :: _, [], h => by simp [lexI] at h
  | a :: ar, b :: br, h => by
    rw [lexI] at h
    split at h
    · omega
    · split at h
      · omega
      · rw [lexI_eq h, show a = b by omega]
theorem lexI_flip : ∀ (a b : List Int), lexI b a = - lexI a b
  | [], [] => rfl
  | [], _ :: _ => rfl
  | _ :: _, [] => rfl
  | a :: ar, b :: br => by
    rw [lexI, lexI]
    by_cases h : a < b
    · rw [if_pos h, if_neg (by omega), if_pos h]; rfl
    · rw [if_neg h]
      by_cases h2 : b < a
      · rw [if_pos h2, if_pos h2, if_neg h]
      · rw [if_neg h2, if_neg h2, if_neg h]; exact lexI_flip ar br
theorem lexI_trans : ∀ {a b c : List Int}, lexI a b < 0 → lexI b c < 0 → lexI a c < 0
  | [], [], _, h, _ => by simp [lexI] at h
  | [], _ :: _, [], _, h => by simp [lexI] at h
  | [], _ :: _, _ :: _, _, _ => by simp [lexI]
  | _ :: _, [], _, h, _ => by simp [lexI] at h
  | _ :: _, _ :: _, [], _, h => by simp [lexI] at h
  | a :: ar, b :: br, c :: cr, h1, h2 => by
    rw [lexI] at h1 h2 ⊢
    by_cases x1 : a < b
    · by_cases x2 : b < c
      · rw [if_pos (by omega)]; omega
      · rw [if_neg x2] at h2
        by_cases x3 : c < b
        · rw [if_pos x3] at h2; omega
        · rw [if_pos (by omega)]; omega
    · rw [if_neg x1] at h1
      by_cases x3 : b < a
      · rw [if_pos x3] at h1; omega
      · rw [if_neg x3] at h1
        obtain rfl : a = b := by omega
        by_cases x2 : a < c
        · rw [if_pos x2]; omega
        · rw [if_neg x2] at h2 ⊢
          by_cases x4 : c < a
          · rw [if_pos x4] at h2; omega
          · rw [if_neg x4] at h2 ⊢
            exact lexI_trans h1 h2
theorem cmpR_self (n : Net) (a : List Int) : cmpR n a a = 0 := by unfold cmpR; rw [if_pos rfl, if_pos rfl, lexI_self]
theorem cmpR_eq {n : Net} {a b : List Int} (h : cmpR n a b = 0) : a = b := by
  unfold cmpR at h
  split at h
  · split at h
    · exact lexI_eq h
    · unfold sgnI at h; split at h
      · omega
      · split at h <;> omega
  · unfold sgnI at h; split at h
    · omega
    · split at h <;> omega
theorem cmpR_tot {n : Net} {a b : List Int} (h : ¬ cmpR n a b < 0) (hne : a ≠ b) : cmpR n b a < 0 := by
  have h0 : cmpR n a b ≠ 0 := fun e => hne (cmpR_eq e)
  unfold cmpR at h h0 ⊢
  by_cases e1 : lenR n a = lenR n b
  · rw [if_pos e1] at h h0; rw [if_pos e1.symm]
    by_cases e2 : a.length = b.length
    · rw [if_pos e2] at h h0; rw [if_pos e2.symm, lexI_flip a b]; omega
    · rw [if_neg e2] at h h0; rw [if_neg (fun e => e2 e.symm)]
      rw [sgnI_neg] at h ⊢; omega
  · rw [if_neg e1] at h h0; rw [if_neg (fun e => e1 e.symm)]
    rw [sgnI_neg] at h ⊢; omega
theorem cmpR_asym {n : Net} {a b : List Int} (h : cmpR n a b < 0) : ¬ cmpR n b a < 0 := by
  intro h2
  unfold cmpR at h h2
  by_cases e1 : lenR n a = lenR n b
  · rw [if_pos e1] at h; rw [if_pos e1.symm] at h2
    by_cases e2 : a.length = b.length
    · rw [if_pos e2] at h; rw [if_pos e2.symm, lexI_flip a b] at h2; omega
    · rw [if_neg e2, sgnI_neg] at h; rw [if_neg (fun e => e2 e.symm), sgnI_neg] at h2; omega
  · rw [if_neg e1, sgnI_neg] at h; rw [if_neg (fun e => e1 e.symm), sgnI_neg] at h2; omega
theorem cmpR_trans {n : Net} {a b c : List Int} (h1 : cmpR n a b < 0) (h2 : cmpR n b c < 0) : cmpR n a c < 0 := by
  unfold cmpR at h1 h2 ⊢
  by_cases e1 : lenR n a = lenR n b
  · rw [if_pos e1] at h1
    by_cases e2 : lenR n b = lenR n c
    · rw [if_pos e2] at h2; rw [if_pos (e1.trans e2)]
      by_cases l1 : a.length = b.length
      · rw [if_pos l1] at h1
        by_cases l2 : b.length = c.length
        · rw [if_pos l2] at h2; rw [if_pos (l1.trans l2)]; exact lexI_trans h1 h2
        · rw [if_neg l2, sgnI_neg] at h2; rw [if_neg (by omega), sgnI_neg]; omega
      · rw [if_neg l1, sgnI_neg] at h1
        by_cases l2 : b.length = c.length
        · rw [if_neg (by omega), sgnI_neg]; omega
        · rw [if_neg l2, sgnI_neg] at h2; rw [if_neg (by omega), sgnI_neg]; omega
    · rw [if_neg e2, sgnI_neg] at h2; rw [if_neg (by omega), sgnI_neg]; omega
  · rw [if_neg e1, sgnI_neg] at h1
    by_cases e2 : lenR n b = lenR n c
    · rw [if_neg (by omega), sgnI_neg]; omega
    · rw [if_neg e2, sgnI_neg] at h2; rw [if_neg (by omega), sgnI_neg]; omega

/-! ### A route inserted at its place -/
def plcR (n : Net) (r : List Int) (L : List (List Int)) : Nat → Nat
  | 0 => 0
  | i + 1 => if cmpR n r (L[i]?.getD []) < 0 then plcR n r L i else i + 1
def insR (n : Net) (L : List (List Int)) (r : List Int) : List (List Int) := L.take (plcR n r L L.length) ++ r :: L.drop (plcR n r L L.length)
theorem plcR_le (n : Net) (r : List Int) (L : List (List Int)) : ∀ i, plcR n r L i ≤ i
  | 0 => Nat.le_refl _
  | i + 1 => by
    rw [plcR]; split
    · exact Nat.le_succ_of_le (plcR_le n r L i)
    · exact Nat.le_refl _
theorem plcR_hi {n : Net} {r : List Int} {L : List (List Int)} : ∀ {i k : Nat}, plcR n r L i ≤ k → k < i → cmpR n r (L[k]?.getD []) < 0
  | 0, _, _, h => by omega
  | i + 1, k, h1, h2 => by
    rw [plcR] at h1
    split at h1
    · rename_i hc
      by_cases e : k = i
      · rw [e]; exact hc
      · exact plcR_hi h1 (by omega)
    · omega
theorem plcR_lo {n : Net} {r : List Int} {L : List (List Int)} : ∀ {i : Nat}, 0 < plcR n r L i → ¬ cmpR n r (L[plcR n r L i - 1]?.getD []) < 0
  | 0, h => by simp [plcR] at h
  | i + 1, h => by
    rw [plcR] at h ⊢
    split at h
    · rename_i hc
      rw [if_pos hc]; exact plcR_lo h
    · rename_i hc
      rw [if_neg hc]; exact hc
def srtR (n : Net) (L : List (List Int)) : Prop := L.Pairwise fun a b => cmpR n a b < 0
theorem insR_perm (n : Net) (L : List (List Int)) (r : List Int) : (insR n L r).Perm (r :: L) := by
  unfold insR
  have := List.perm_middle (a := r) (l₁ := L.take (plcR n r L L.length)) (l₂ := L.drop (plcR n r L L.length))
  rwa [List.take_append_drop] at this
theorem insR_len (n : Net) (L : List (List Int)) (r : List Int) : (insR n L r).length = L.length + 1 := by
  rw [(insR_perm n L r).length_eq]; rfl
theorem insR_srt {n : Net} {L : List (List Int)} {r : List Int} (h : srtR n L) (hr : r ∉ L) : srtR n (insR n L r) := by
  unfold insR srtR
  have hp := plcR_le n r L L.length
  have hhi := fun k h1 h2 => @plcR_hi n r L L.length k h1 h2
  have hlo := @plcR_lo n r L L.length
  generalize plcR n r L L.length = p at *
  have h' : (L.take p ++ L.drop p).Pairwise fun a b => cmpR n a b < 0 := by rw [List.take_append_drop]; exact h
  obtain ⟨ha, hb, hab⟩ := List.pairwise_append.1 h'
  refine List.pairwise_append.2 ⟨ha, List.pairwise_cons.2 ⟨fun y hy => ?_, hb⟩, fun x hx y hy => ?_⟩
  · obtain ⟨k, hk, e⟩ := List.getElem_of_mem hy
    rw [List.length_drop] at hk
    have := hhi (p + k) (by omega) (by omega)
    rw [List.getElem?_eq_getElem (by omega)] at this
    rw [List.getElem_drop] at e
    rw [← e]; exact this
  · rcases List.mem_cons.1 hy with rfl | hy
    · have hp0 : 0 < p := by
        rcases Nat.eq_zero_or_pos p with e | e
        · rw [e] at hx; simp at hx
        · exact e
      have h1 := hlo hp0
      have hpl : p - 1 < L.length := by omega
      rw [List.getElem?_eq_getElem hpl] at h1
      have h2 : cmpR n L[p - 1] y < 0 := cmpR_tot h1 (fun e => hr (by rw [e]; exact List.getElem_mem hpl))
      obtain ⟨k, hk, e⟩ := List.getElem_of_mem hx
      rw [List.length_take] at hk
      rw [List.getElem_take] at e
      by_cases hkp : k = p - 1
      · subst hkp; rw [← e]; exact h2
      · have := List.pairwise_iff_getElem.1 h k (p - 1) (by omega) hpl (by omega)
        rw [e] at this
        exact cmpR_trans this h2
    · exact hab x hx y hy
theorem srtR_one {n : Net} {L M : List (List Int)} (h1 : srtR n L) (h2 : srtR n M) (hp : L.Perm M) : L = M :=
  List.Perm.eq_of_pairwise (le := fun a b => cmpR n a b < 0) (fun _ _ _ _ x y => absurd y (cmpR_asym x)) h1 h2 hp
theorem insAll {n : Net} : ∀ {M L : List (List Int)}, srtR n L → (L ++ M).Nodup → srtR n (M.foldl (insR n) L) ∧ (M.foldl (insR n) L).Perm (L ++ M)
  | [], L, h, _ => by simp; exact h
  | r :: M, L, h, hn => by
    have hr : r ∉ L := fun hr => by
      have := (List.nodup_append.1 hn).2.2 r hr r (by simp)
      exact this rfl
    have hp : (insR n L r ++ M).Perm (L ++ r :: M) := ((insR_perm n L r).append_right M).trans List.perm_middle.symm
    obtain ⟨a, b⟩ := insAll (M := M) (insR_srt h hr) (hp.nodup_iff.2 hn)
    exact ⟨a, b.trans hp⟩

/-! ### The search -/
def extR (n : Net) (tt : Int) : Nat → Int → List Int → List Int → List (List Int)
  | 0, _, _, _ => []
  | f + 1, t, seen, fb => if t = tt then [fb] else (List.range n.fs.length).flatMap fun i => if 0 ≤ othE (fbA n i) t ∧ othE (fbA n i) t ∉ seen then extR n tt f (othE (fbA n i) t) (seen ++ [othE (fbA n i) t]) (fb ++ [(i : Int)]) else []
theorem extR_pre {n : Net} {tt : Int} : ∀ {f : Nat} {t : Int} {seen fb r : List Int}, r ∈ extR n tt f t seen fb → fb <+: r
  | 0, _, _, _, _, h => by simp [extR] at h
  | f + 1, t, seen, fb, r, h => by
    rw [extR] at h
    split at h
    · simp at h; subst h; exact List.prefix_rfl
    · obtain ⟨i, -, hi⟩ := List.mem_flatMap.1 h
      split at hi
      · exact (List.prefix_append fb _).trans (extR_pre hi)
      · cases hi
theorem extR_nodup {n : Net} {tt : Int} : ∀ {f : Nat} {t : Int} {seen fb : List Int}, (extR n tt f t seen fb).Nodup
  | 0, _, _, _ => by simp [extR]
  | f + 1, t, seen, fb => by
    rw [extR]
    split
    · simp
    · refine List.pairwise_flatMap.2 ⟨fun i _ => ?_, List.nodup_range.imp fun {i j} hij x hx y hy e => ?_⟩
      · split
        · exact extR_nodup
        · simp
      · subst e
        split at hx
        · split at hy
          · obtain ⟨u, hu⟩ := extR_pre hx
            obtain ⟨v, hv⟩ := extR_pre hy
            rw [← hu] at hv
            simp only [List.append_assoc, List.append_cancel_left_eq] at hv
            simp at hv
            exact hij (by have := hv.1; omega)
          · cases hy
        · cases hx
def feedR (n : Net) (L M : List (List Int)) : List (List Int) := (M.take (201 - L.length)).foldl (insR n) L
theorem fold_len (n : Net) : ∀ (M L : List (List Int)), (M.foldl (insR n) L).length = L.length + M.length
  | [], L => by simp
  | r :: M, L => by rw [List.foldl_cons, fold_len n M, insR_len, List.length_cons]; omega
theorem feedR_len {n : Net} {L M : List (List Int)} (h : L.length ≤ 201) : (feedR n L M).length = min 201 (L.length + M.length) := by
  unfold feedR; rw [fold_len, List.length_take]; omega
theorem feedR_nil (n : Net) (L : List (List Int)) : feedR n L [] = L := by simp [feedR]
theorem feedR_full {n : Net} {L M : List (List Int)} (h : 201 ≤ L.length) : feedR n L M = L := by
  unfold feedR; rw [show 201 - L.length = 0 by omega]; simp
theorem feedR_one {n : Net} {L : List (List Int)} {r : List Int} (h : L.length ≤ 200) : feedR n L [r] = insR n L r := by
  unfold feedR; rw [List.take_of_length_le (by simp; omega)]; rfl
theorem feedR_app {n : Net} {L A B : List (List Int)} (h : L.length ≤ 201) : feedR n (feedR n L A) B = feedR n L (A ++ B) := by
  have hl := feedR_len (n := n) (M := A) h
  unfold feedR at hl ⊢
  rw [hl, List.take_append, List.foldl_append]
  congr 2
  omega
def allR (n : Net) (from_ tt : Int) : List (List Int) := feedR n [] (extR n tt (n.ns.length + 1) from_ [from_] [])
theorem allR_srt (n : Net) (from_ tt : Int) (h : (extR n tt (n.ns.length + 1) from_ [from_] []).length ≤ 200) : srtR n (allR n from_ tt) ∧ (allR n from_ tt).Perm (extR n tt (n.ns.length + 1) from_ [from_] []) := by
  unfold allR feedR
  rw [List.take_of_length_le (by simp; omega)]
  have := insAll (n := n) (L := []) (M := extR n tt (n.ns.length + 1) from_ [from_] []) List.Pairwise.nil (by simpa using extR_nodup)
  simpa using this
theorem allR_len (n : Net) (from_ tt : Int) : (allR n from_ tt).length = min 201 (extR n tt (n.ns.length + 1) from_ [from_] []).length := by
  unfold allR; rw [feedR_len (by simp)]; simp
theorem allR_one {n : Net} {from_ tt : Int} {L : List (List Int)} (h : (extR n tt (n.ns.length + 1) from_ [from_] []).length ≤ 200) (hs : L.Pairwise fun a b => ¬ cmpR n b a < 0) (hp : L.Perm (extR n tt (n.ns.length + 1) from_ [from_] [])) : L = allR n from_ tt := by
  obtain ⟨h1, h2⟩ := allR_srt n from_ tt h
  have hn : L.Nodup := hp.nodup_iff.2 extR_nodup
  refine srtR_one ?_ h1 (hp.trans h2.symm)
  exact (List.Pairwise.and hs hn).imp fun {a b} ⟨x, y⟩ => cmpR_tot x (fun e => y e.symm)
end Go.Proofs.YtofcicomhnkocaaGreat
namespace Go.Proofs.YtofcicomhnkocaaGreat
open Go.RowKit
set_option maxRecDepth 100000

def plI (xs : List Int) (x : Int) : Int := match xs.findIdx? (fun s => s == x) with | some i => (i : Int) | none => -1
theorem plI_none {xs : List Int} {x : Int} (h : xs.any (fun s => s == x) = false) : plI xs x = -1 := by
  unfold plI
  rw [List.findIdx?_eq_none_iff.2 fun s hs => by
    have := (List.any_eq_false.1 h) s hs
    simpa using this]
theorem plI_some {xs : List Int} {x : Int} {k : Nat} (hk : k < xs.length) (h : (xs.take k).any (fun s => s == x) = false) (e : xs[k]?.getD 0 = x) : plI xs x = (k : Int) := by
  rw [List.getElem?_eq_getElem hk] at e
  unfold plI
  rw [List.findIdx?_eq_some_iff_getElem.2 ⟨hk, by simpa using e, fun j hj => by
    have := (List.any_eq_false.1 h) (xs[j]'(by omega)) (List.mem_take_iff_getElem.2 ⟨j, by omega, rfl⟩)
    simpa using this⟩]
theorem anyI_more {xs : List Int} {x : Int} {k : Nat} (hk : k < xs.length) (h : (xs.take k).any (fun s => s == x) = false) (e : xs[k]?.getD 0 ≠ x) : (xs.take (k + 1)).any (fun s => s == x) = false := by
  rw [List.getElem?_eq_getElem hk] at e
  rw [List.take_add_one, List.any_append, h, List.getElem?_eq_getElem hk]
  simpa using e
theorem plI_geq (xs : List Int) (x : Int) : decide (0 ≤ plI xs x) = xs.contains x := by
  cases h : xs.findIdx? (fun s => s == x) with
  | none =>
    have h0 := h
    rw [List.findIdx?_eq_none_iff] at h
    unfold plI
    rw [h0]
    have : xs.contains x = false := by
      rw [← Bool.not_eq_true, List.contains_iff_mem]
      intro hm
      have := h x hm
      simp at this
    rw [this]; rfl
  | some k =>
    have h0 := h
    rw [List.findIdx?_eq_some_iff_getElem] at h
    obtain ⟨hk, e, _⟩ := h
    unfold plI
    rw [h0]
    have : xs.contains x = true := by rw [List.contains_iff_mem]; have := List.getElem_mem hk; rw [eq_of_beq e] at this; exact this
    rw [this]; simp
theorem hasI_yes {xs : List Int} {x : Int} {k : Nat} (hk : k < xs.length) (e : xs[k]?.getD 0 = x) : xs.contains x = true := by
  rw [List.getElem?_eq_getElem hk] at e
  rw [List.contains_iff_mem, ← show xs[k] = x from e]; exact List.getElem_mem hk
theorem hasI_no {xs : List Int} {x : Int} (h : xs.any (fun s => s == x) = false) : xs.contains x = false := by
  rw [← Bool.not_eq_true, List.contains_iff_mem]
  intro hm
  have := (List.any_eq_false.1 h) x hm
  simp at this
set_option maxHeartbeats 1600000 in
theorem indexI_any (v : Value) (xs : List Int) (x : Int) (w : World) (h : Rd w v xs) :
    Calls Tryz.prog 118 #[v, .int .i64 x] w fun e w' => e = .returned (.int .i64 (plI xs x)) ∧ w = w' := by
  obtain ⟨a, cap, n, HN, rfl, _, hnl, ha⟩ := h.opn
  have HA := Lib.hid ha
  have HP := Lib.hid (fun k (hk : k < xs.length) => @plI_some xs x k hk)
  have HM := Lib.hid (fun k (hk : k < xs.length) => @anyI_more xs x k hk)
  have HO := Lib.hid (@plI_none xs x)
  clear ha h
  generalize plI xs x = r at *
  go_enter Tryz.func118, Tryz.ntmps118
  go_wp2
  go_loop [5, 8] (fun _ i => ∃ k : Nat, k ≤ n ∧ i = .int .i64 k ∧ Hid ((xs.take k).any (fun s => s == x) = false)) (fun _ i => n - (intOf i).toNat)
  case atStart => exact ⟨0, Nat.zero_le _, rfl, by simp [Hid]⟩
  case round =>
    obtain ⟨k, hk, rfl, HT⟩ := hrel
    by_cases hlt : k < n
    · have hltI : (k : Int) < (n : Int) := by omega
      have hkx : k < xs.length := by rw [HN.out]; exact hlt
      obtain ⟨b, off, rfl, hbs, hcs⟩ := HA.out (by omega)
      have hc0 := hcs k hlt
      have HP1 := Lib.hid (HP.out k hkx HT.out)
      have HM1 := Lib.hid (HM.out k hkx HT.out)
      clear hcs hkx
      generalize xs[k]?.getD 0 = y at *
      by_cases he : y = x
      · have HE := Lib.hid (HP1.out he)
        have hb1 : (x == y) = true := by simp [he]
        have hb2 : (y == x) = true := by simp [he]
        clear he
        go_wp2
        go_ret
        exact ⟨by rw [HE.out]; rfl, rfl⟩
      · have HE := Lib.hid (HM1.out he)
        have hb1 : (x == y) = false := by simp; exact fun e => he e.symm
        have hb2 : (y == x) = false := by simp [he]
        clear he
        go_wp2
        go_round
        case rel => exact ⟨k + 1, by omega, by go_num, HE.out⟩
        case measure => simp [intOf]; omega
    · obtain rfl : k = n := by omega
      have hall := HT.out
      rw [← HN.out, List.take_length] at hall
      have HE := Lib.hid (HO.out hall)
      clear hall
      go_wp2
      go_ret
      exact ⟨by rw [HE.out]; rfl, rfl⟩
theorem containsI_any (v : Value) (xs : List Int) (x : Int) (w : World) (h : Rd w v xs) :
    Calls Tryz.prog 65 #[v, .int .i64 x] w fun e w' => e = .returned (.bool (xs.contains x)) ∧ w = w' := by
  have HI := Lib.hid (indexI_any v xs x w h)
  have HG := Lib.hid (plI_geq xs x)
  generalize plI xs x = r at *
  generalize xs.contains x = q at *
  obtain ⟨a, cap, n, -, rfl, -, -, -⟩ := h.opn
  clear h
  go_enter Tryz.func65, Tryz.ntmps65
  go_wp2_with (go_at_call 118; refine (HI.out).mono ?_; rintro e w' ⟨rfl, rfl⟩)
  go_ret
  exact ⟨by rw [← HG.out]; rfl, rfl⟩
set_option maxHeartbeats 1600000 in
theorem l1Has_any (v : Value) (xs : List Int) (x : Int) (w : World) (h : Rd w v xs) :
    Calls Tryz.prog 59 #[v, .int .i64 x] w fun e w' => e = .returned (.bool (xs.contains x)) ∧ w = w' := by
  obtain ⟨a, cap, n, HN, rfl, _, hnl, ha⟩ := h.opn
  have HA := Lib.hid ha
  have HP := Lib.hid (fun k (hk : k < xs.length) => @hasI_yes xs x k hk)
  have HM := Lib.hid (fun k (hk : k < xs.length) => @anyI_more xs x k hk)
  have HO := Lib.hid (@hasI_no xs x)
  clear ha h
  generalize xs.contains x = r at *
  go_enter Tryz.func59, Tryz.ntmps59
  go_wp2
  go_loop [5] (fun i => ∃ k : Nat, k ≤ n ∧ i = .int .i64 k ∧ Hid ((xs.take k).any (fun s => s == x) = false)) (fun i => n - (intOf i).toNat)
  case atStart => exact ⟨0, Nat.zero_le _, rfl, by simp [Hid]⟩
  case round =>
    obtain ⟨k, hk, rfl, HT⟩ := hrel
    by_cases hlt : k < n
    · have hltI : (k : Int) < (n : Int) := by omega
      have hkx : k < xs.length := by rw [HN.out]; exact hlt
      obtain ⟨b, off, rfl, hbs, hcs⟩ := HA.out (by omega)
      have hc0 := hcs k hlt
      have HP1 := Lib.hid (HP.out k hkx)
      have HM1 := Lib.hid (HM.out k hkx HT.out)
      clear hcs hkx
      generalize xs[k]?.getD 0 = y at *
      by_cases he : y = x
      · have HE := Lib.hid (HP1.out he)
        have hb2 : (y == x) = true := by simp [he]
        clear he
        go_wp2
        go_ret
        exact ⟨by rw [HE.out]; rfl, rfl⟩
      · have HE := Lib.hid (HM1.out he)
        have hb2 : (y == x) = false := by simp [he]
        clear he
        go_wp2
        go_round
        case rel => exact ⟨k + 1, by omega, by go_num, HE.out⟩
        case measure => simp [intOf]; omega
    · obtain rfl : k = n := by omega
      have hall := HT.out
      rw [← HN.out, List.take_length] at hall
      have HE := Lib.hid (HO.out hall)
      clear hall
      go_wp2
      go_ret
      exact ⟨by rw [HE.out]; rfl, rfl⟩
end Go.Proofs.YtofcicomhnkocaaGreat
namespace Go.Proofs.YtofcicomhnkocaaGreat
open Go.RowKit Go.Sort
set_option maxRecDepth 100000

theorem othE_a {f : Fib} {t : Int} (h : t = f.a) : othE f t = f.b := by unfold othE; rw [if_pos h]
theorem othE_b {f : Fib} {t : Int} (h : ¬ t = f.a) (h2 : t = f.b) : othE f t = f.a := by unfold othE; rw [if_neg h, if_pos h2]
theorem othE_no {f : Fib} {t : Int} (h : ¬ t = f.a) (h2 : ¬ t = f.b) : othE f t = -1 := by unfold othE; rw [if_neg h, if_neg h2]
theorem otherEnd_any (f : Fib) (t : Int) (w : World) :
    Calls Tryz.prog 179 #[fibV f, .int .i64 t] w fun e w' => e = .returned (.int .i64 (othE f t)) ∧ Below w.heap.size w w' := by
  unfold fibV
  have HA := Lib.hid (@othE_a f t)
  have HB := Lib.hid (@othE_b f t)
  have HN := Lib.hid (@othE_no f t)
  obtain ⟨bx, bc, -, -⟩ := box_facts w #[.int .i64 f.a, .int .i64 f.b, .int .i64 f.l, .int .i64 f.r] 146
  have q0 := bc 0 _ rfl
  have q1 := bc 1 _ rfl
  have HBX := Lib.hid bx
  clear bc bx
  generalize othE f t = o at *
  by_cases h1 : t = f.a
  · have HE := Lib.hid (HA.out h1)
    have b1 : (t == f.a) = true := by simp [h1]
    have b2 : decide (t = f.a) = true := by simp [h1]
    clear h1
    go_enter Tryz.func179, Tryz.ntmps179
    go_wp2
    go_ret
    exact ⟨by rw [HE.out]; rfl, HBX.out⟩
  have b1 : (t == f.a) = false := by simp [h1]
  have b2 : decide (t = f.a) = false := by simp [h1]
  by_cases h2 : t = f.b
  · have HE := Lib.hid (HB.out h1 h2)
    have b3 : (t == f.b) = true := by simp [h2]
    have b4 : decide (t = f.b) = true := by simp [h2]
    clear h1 h2
    go_enter Tryz.func179, Tryz.ntmps179
    go_wp2
    go_ret
    exact ⟨by rw [HE.out]; rfl, HBX.out⟩
  have b3 : (t == f.b) = false := by simp [h2]
  have b4 : decide (t = f.b) = false := by simp [h2]
  have HE := Lib.hid (HN.out h1 h2)
  clear h1 h2
  go_enter Tryz.func179, Tryz.ntmps179
  go_wp2
  go_ret
  exact ⟨by rw [HE.out]; rfl, HBX.out⟩
theorem l2Other_any (u1 u2 : Value) (n : Net) (k : Nat) (t : Int) (w : World) (h : Rdt w (flt 4 fibE n.fs) u2) (h1 : ∃ a m c, u1 = .slice a m c) (hk : k < n.fs.length) :
    Calls Tryz.prog 232 #[.agg #[u1, u2], .int .i64 k, .int .i64 t] w fun e w' => e = .returned (.int .i64 (othE (fbA n k) t)) ∧ Below w.heap.size w w' := by
  obtain ⟨a1, m1, c1, rfl⟩ := h1
  obtain ⟨a2, m2, c2, rfl, HN2, hc2, hm2, ha2⟩ := flt_opn (m := 4) (enc := fibE) (fun _ => rfl) (by omega) nilB h
  have hk2 : k < m2 := by have := HN2.out; omega
  obtain ⟨b, off, rfl, hbs, hcs⟩ := ha2 (by omega)
  obtain ⟨bx, bc, -, -⟩ := box_facts w #[.slice a1 m1 c1, .slice (some ⟨b, off, none⟩) m2 c2] 35
  have q0 := bc 0 _ rfl
  have q1 := bc 1 _ rfl
  have HBX := Lib.hid bx
  have e0 := (bx.cell (p := ⟨b, off + k * 4 + 0, none⟩) hbs).trans (hcs k hk2 0 _ rfl)
  have e1 := (bx.cell (p := ⟨b, off + k * 4 + 1, none⟩) hbs).trans (hcs k hk2 1 _ rfl)
  have e2 := (bx.cell (p := ⟨b, off + k * 4 + 2, none⟩) hbs).trans (hcs k hk2 2 _ rfl)
  have e3 := (bx.cell (p := ⟨b, off + k * 4 + 3, none⟩) hbs).trans (hcs k hk2 3 _ rfl)
  simp only [Nat.add_zero] at e0
  have hkI : (k : Int) < (m2 : Int) := by omega
  unfold fbA
  clear hcs bc bx ha2 h hk
  generalize n.fs[k]?.getD nilB = f at *
  have HA := Lib.hid (@othE_a f t)
  have HB := Lib.hid (@othE_b f t)
  have HN := Lib.hid (@othE_no f t)
  have HBY := Lib.hid (fun (w1 : World) => (box_facts w1 #[.int .i64 f.a, .int .i64 f.b, .int .i64 f.l, .int .i64 f.r] 146).1)
  generalize othE f t = o at *
  go_enter Tryz.func232, Tryz.ntmps232
  by_cases h1 : t = f.a
  · have HE := Lib.hid (HA.out h1)
    have b1 : (t == f.a) = true := by simp [h1]
    have b2 : decide (t = f.a) = true := by simp [h1]
    clear h1
    go_wp2
    go_ret
    exact ⟨by rw [HE.out]; rfl, HBX.out.trans ((HBY.out _).mono HBX.out.size)⟩
  have b1 : (t == f.a) = false := by simp [h1]
  have b2 : decide (t = f.a) = false := by simp [h1]
  by_cases h2 : t = f.b
  · have HE := Lib.hid (HB.out h1 h2)
    have b3 : (t == f.b) = true := by simp [h2]
    have b4 : decide (t = f.b) = true := by simp [h2]
    clear h1 h2
    go_wp2
    go_ret
    exact ⟨by rw [HE.out]; rfl, HBX.out.trans ((HBY.out _).mono HBX.out.size)⟩
  have b3 : (t == f.b) = false := by simp [h2]
  have b4 : decide (t = f.b) = false := by simp [h2]
  have HE := Lib.hid (HN.out h1 h2)
  clear h1 h2
  go_wp2
  go_ret
  exact ⟨by rw [HE.out]; rfl, HBX.out.trans ((HBY.out _).mono HBX.out.size)⟩
end Go.Proofs.YtofcicomhnkocaaGreat
namespace Go.Proofs.YtofcicomhnkocaaGreat
open Go.RowKit Go.Sort

def Gr (w w' : World) : Prop := ∃ (q : Nat) (os : Array Obj), w' = grow (w.drewN q) os
theorem Gr.refl (w : World) : Gr w w := ⟨0, #[], by rw [grow_empty]; rfl⟩
theorem Gr.trans {a b c : World} (h : Gr a b) (k : Gr b c) : Gr a c := by
  obtain ⟨q, os, rfl⟩ := h
  obtain ⟨q', os', rfl⟩ := k
  refine ⟨q + q', os ++ os', ?_⟩
  show grow (grow ((a.drewN q).drewN q') os) os' = _
  rw [grow_grow, World.drewN_drewN]
theorem Gr.drew {a b : World} (h : Gr a b) : Gr a b.drew := h.trans ⟨1, #[], by rw [grow_empty]; rfl⟩
theorem Gr.alloc {a b : World} (h : Gr a b) (o : Obj) : Gr a (b.alloc o) := h.trans ⟨0, #[o], by rw [alloc_eq_grow]; rfl⟩
theorem Gr.below {a b : World} (h : Gr a b) : Below a.heap.size a b := by
  obtain ⟨q, os, rfl⟩ := h
  refine ⟨rfl, rfl, rfl, by simp [grow, World.drewN], fun k hk => ?_⟩
  show ((a.drewN q).heap ++ os)[k]? = _
  exact Array.getElem?_append_left hk
end Go.Proofs.YtofcicomhnkocaaGreat
namespace Go.Proofs.YtofcicomhnkocaaGreat
open Go.RowKit Go.Sort
set_option maxRecDepth 100000

theorem lenR_app (n : Net) (xs ys : List Int) : lenR n (xs ++ ys) = lenR n xs + lenR n ys := by
  unfold lenR; rw [List.map_append, List.sum_append]
theorem lenR_take {n : Net} {fs : List Int} {k : Nat} (hk : k < fs.length) : lenR n (fs.take (k + 1)) = lenR n (fs.take k) + (fbA n (fs[k]?.getD 0).toNat).l := by
  rw [List.take_add_one, lenR_app, List.getElem?_eq_getElem hk]
  simp [lenR]
def LenOk (n : Net) : Prop := ∀ j : Nat, 0 ≤ (fbA n j).l ∧ (fbA n j).l ≤ 100000
theorem lenR_bd {n : Net} (h : LenOk n) : ∀ fs : List Int, 0 ≤ lenR n fs ∧ lenR n fs ≤ fs.length * 100000
  | [] => by simp [lenR]
  | i :: fs => by
    have := lenR_bd h fs
    have h1 := h i.toNat
    unfold lenR at this ⊢
    rw [List.map_cons, List.sum_cons, List.length_cons]
    push_cast
    omega
theorem lenR_bdt {n : Net} (h : LenOk n) {fs : List Int} (hl : fs.length ≤ 1000) (k : Nat) : 0 ≤ lenR n (fs.take k) ∧ lenR n (fs.take k) ≤ 100000000 := by
  have := lenR_bd h (fs.take k)
  rw [List.length_take] at this
  have h2 : min k fs.length ≤ 1000 := by omega
  omega
def InNet (n : Net) (fs : List Int) : Prop := ∀ k : Nat, k < fs.length → 0 ≤ fs[k]?.getD 0 ∧ fs[k]?.getD 0 < n.fs.length
set_option maxHeartbeats 1600000 in
theorem lengthOf_any (u1 u2 v : Value) (n : Net) (st : Int) (fs : List Int) (w : World) (h : Rdt w (flt 4 fibE n.fs) u2) (h1 : ∃ a m c, u1 = .slice a m c) (hr : Rd w v fs) (hl : fs.length ≤ 1000) (hi : InNet n fs) (hb : LenOk n) :
    Calls Tryz.prog 191 #[.agg #[u1, u2], .agg #[.int .i64 st, v]] w fun e w' => e = .returned (.int .i64 (lenR n fs)) ∧ Gr w w' := by
  obtain ⟨a1, m1, c1, rfl⟩ := h1
  obtain ⟨a2, m2, c2, rfl, HN2, hc2, hm2, ha2⟩ := flt_opn (m := 4) (enc := fibE) (fun _ => rfl) (by omega) nilB h
  obtain ⟨a3, c3, m3, HN3, rfl, hc3, hm3, ha3⟩ := hr.opn
  have HA2 := Lib.hid ha2
  have HA3 := Lib.hid ha3
  have HT := Lib.hid (fun k (hk : k < fs.length) => @lenR_take n fs k hk)
  have HB := Lib.hid (fun k => lenR_bdt hb hl k)
  have HL := Lib.hid hb
  have HI := Lib.hid (show ∀ k : Nat, k < m3 → 0 ≤ fs[k]?.getD 0 ∧ fs[k]?.getD 0 < m2 from fun k hk => by
    have := hi k (by have := HN3.out; omega)
    rwa [show n.fs.length = m2 from HN2.out] at this)
  have HR := Lib.hid (show lenR n (fs.take m3) = lenR n fs by rw [List.take_of_length_le (Nat.le_of_eq HN3.out)])
  have h10 : m3 ≤ 1000 := by have := HN3.out; omega
  rw [HN3.out] at HT
  obtain ⟨bx, bc, blt, -⟩ := box_facts w #[.slice a1 m1 c1, .slice a2 m2 c2] 35
  obtain ⟨by', bd, bmt, -⟩ := box_facts (w.alloc (.cells #[.slice a1 m1 c1, .slice a2 m2 c2] 35)) #[.int .i64 st, .slice a3 m3 c3] 82
  have q1 := (by'.cell (p := ⟨w.heap.size, 1, none⟩) blt).trans (bc 1 _ rfl)
  have q3 := bd 1 _ rfl
  have hs1 : (w.alloc (.cells #[.slice a1 m1 c1, .slice a2 m2 c2] 35)).heap.size = w.heap.size + 1 := by simp
  rw [hs1] at q3
  have HBX := Lib.hid (bx.trans (by'.mono bx.size))
  have HG := Lib.hid (((Gr.refl w).alloc (.cells #[.slice a1 m1 c1, .slice a2 m2 c2] 35)).alloc (.cells #[.int .i64 st, .slice a3 m3 c3] 82))
  clear bc bd bx by' hs1 ha2 ha3 h hr bmt blt hl hi hb
  go_enter Tryz.func191, Tryz.ntmps191
  go_wp2
  generalize (w.alloc (.cells #[.slice a1 m1 c1, .slice a2 m2 c2] 35)).alloc (.cells #[.int .i64 st, .slice a3 m3 c3] 82) = W at *
  go_loopw [5, 7, 11] (fun s5 _ i wr => ∃ k : Nat, k ≤ m3 ∧ i = .int .i64 k ∧ s5 = .int .i64 (lenR n (fs.take k)) ∧ wr = W) (fun _ _ i _ => m3 - (intOf i).toNat)
  case atStart => exact ⟨0, Nat.zero_le _, rfl, rfl, rfl⟩
  case round =>
    obtain ⟨k, hk, rfl, rfl, rfl⟩ := hrel
    by_cases hlt : k < m3
    · have hltI : (k : Int) < (m3 : Int) := by omega
      obtain ⟨b, off, rfl, hbs, hcs⟩ := HA3.out (by omega)
      have e0 := (HBX.out.cell (p := ⟨b, off + k, none⟩) hbs).trans (hcs k hlt)
      have hg := HI.out k hlt
      have HTK := Lib.hid (HT.out k hlt)
      have HBK := HB.out k
      clear hcs
      generalize fs[k]?.getD 0 = g at *
      obtain ⟨gn, rfl⟩ : ∃ gn : Nat, g = (gn : Int) := ⟨g.toNat, by omega⟩
      have hgn : gn < m2 := by omega
      have hgnI : (gn : Int) < (m2 : Int) := by omega
      obtain ⟨b1, off1, rfl, hbs1, hcs1⟩ := HA2.out (by omega)
      have e1 := (HBX.out.cell (p := ⟨b1, off1 + gn * 4 + 2, none⟩) hbs1).trans (hcs1 gn hgn 2 _ rfl)
      have hlg := HL.out gn
      rw [show ((gn : Int)).toNat = gn from rfl] at HTK
      clear hcs1 hg
      unfold fbA at HTK hlg
      generalize (n.fs[gn]?.getD nilB).l = lg at *
      generalize lenR n (fs.take k) = s at *
      have hw : wrap64 (s + lg) = s + lg := IntWalk.wrap64_in _ (by omega)
      go_wp2
      go_roundw
      case rel => exact ⟨k + 1, hlt, by go_num, by rw [HTK.out], trivial⟩
      case measure => simp [intOf]; omega
    · obtain rfl : m3 = k := by omega
      go_wp2
      go_ret
      exact ⟨by rw [← HR.out]; rfl, HG.out⟩
end Go.Proofs.YtofcicomhnkocaaGreat
namespace Go.Proofs.YtofcicomhnkocaaGreat
open Go.RowKit Go.Sort
set_option maxRecDepth 100000

theorem lexI_end1 {a b : List Int} {k : Nat} (h1 : k < a.length) (h2 : b.length ≤ k) : lexI (a.drop k) (b.drop k) = 1 := by
  rw [List.drop_eq_nil_of_le h2, List.drop_eq_getElem_cons h1]; rfl
theorem lexI_end2 {a b : List Int} {k : Nat} (h1 : a.length = k) (hb : k ≤ b.length) : lexI (a.drop k) (b.drop k) = if a.length < b.length then -1 else 0 := by
  rw [List.drop_eq_nil_of_le (by omega)]
  by_cases h : a.length < b.length
  · rw [if_pos h, List.drop_eq_getElem_cons (by omega)]; rfl
  · rw [if_neg h, List.drop_eq_nil_of_le (by omega)]; rfl
theorem lexI_step {a b : List Int} {k : Nat} (h1 : k < a.length) (h2 : k < b.length) : lexI (a.drop k) (b.drop k) = if cmpI (a[k]?.getD 0) (b[k]?.getD 0) = 0 then lexI (a.drop (k + 1)) (b.drop (k + 1)) else cmpI (a[k]?.getD 0) (b[k]?.getD 0) := by
  rw [List.drop_eq_getElem_cons h1, List.drop_eq_getElem_cons h2, List.getElem?_eq_getElem h1, List.getElem?_eq_getElem h2, Option.getD_some, Option.getD_some, lexI]
  unfold cmpI
  split
  · rw [if_neg (by omega)]
  · split
    · rw [if_neg (by omega)]
    · rw [if_pos rfl]
theorem lexI_go {a b : List Int} {k : Nat} (h1 : k < a.length) (h2 : k < b.length) (e : cmpI (a[k]?.getD 0) (b[k]?.getD 0) = 0) : lexI (a.drop (k + 1)) (b.drop (k + 1)) = lexI (a.drop k) (b.drop k) := by
  rw [lexI_step h1 h2, if_pos e]
theorem lexI_stop {a b : List Int} {k : Nat} (h1 : k < a.length) (h2 : k < b.length) (e : ¬ cmpI (a[k]?.getD 0) (b[k]?.getD 0) = 0) : lexI (a.drop k) (b.drop k) = cmpI (a[k]?.getD 0) (b[k]?.getD 0) := by
  rw [lexI_step h1 h2, if_neg e]
set_option maxHeartbeats 1600000 in
theorem slcCompare_any (va vb : Value) (xs ys : List Int) (w : World) (ha : Rd w va xs) (hb : Rd w vb ys) :
    Calls Tryz.prog 251 #[va, vb] w fun e w' => e = .returned (.int .i64 (lexI xs ys)) ∧ w = w' := by
  obtain ⟨a1, c1, n1, HN1, rfl, _, hn1, ha1⟩ := ha.opn
  obtain ⟨a2, c2, n2, HN2, rfl, _, hn2, ha2⟩ := hb.opn
  have HA1 := Lib.hid ha1
  have HA2 := Lib.hid ha2
  have HE1 := Lib.hid (fun k (h1 : k < n1) (h2 : n2 ≤ k) => @lexI_end1 xs ys k (by have := HN1.out; omega) (by have := HN2.out; omega))
  have HE2 := Lib.hid (fun (h : n1 ≤ n2) => show lexI (xs.drop n1) (ys.drop n1) = if n1 < n2 then -1 else 0 from by
    have h1 := HN1.out; have h2 := HN2.out
    rw [lexI_end2 h1 (by omega), h1, h2])
  have HGO := Lib.hid (fun k (h1 : k < n1) (h2 : k < n2) => @lexI_go xs ys k (by have := HN1.out; omega) (by have := HN2.out; omega))
  have HST := Lib.hid (fun k (h1 : k < n1) (h2 : k < n2) => @lexI_stop xs ys k (by have := HN1.out; omega) (by have := HN2.out; omega))
  have H0 := Lib.hid (show lexI (xs.drop 0) (ys.drop 0) = lexI xs ys by simp)
  clear ha hb ha1 ha2
  generalize lexI xs ys = R at *
  go_enter Tryz.func251, Tryz.ntmps251
  go_wp2
  go_loopw [5, 6, 7, 8, 11] (fun _ _ _ _ i wr => ∃ k : Nat, k ≤ n1 ∧ k ≤ n2 ∧ i = .int .i64 k ∧ Hid (lexI (xs.drop k) (ys.drop k) = R) ∧ wr = w) (fun _ _ _ _ i _ => n1 - (intOf i).toNat)
  case atStart => exact ⟨0, Nat.zero_le _, Nat.zero_le _, rfl, H0, rfl⟩
  case round =>
    obtain ⟨k, hk, hk2, rfl, HK, rfl⟩ := hrel
    by_cases hlt : k < n1
    · have hltI : (k : Int) < (n1 : Int) := by omega
      obtain ⟨b, off, rfl, hbs, hcs⟩ := HA1.out (by omega)
      have e0 := hcs k hlt
      clear hcs
      by_cases h2 : k < n2
      · have h2I : (k : Int) < (n2 : Int) := by omega
        have h2d : decide ((k : Int) ≥ (n2 : Int)) = false := decide_eq_false (by omega)
        obtain ⟨b2, off2, rfl, hbs2, hcs2⟩ := HA2.out (by omega)
        have e1 := hcs2 k h2
        clear hcs2
        have HG := Lib.hid (HGO.out k hlt h2)
        have HS := Lib.hid (HST.out k hlt h2)
        generalize xs[k]?.getD 0 = x at *
        generalize ys[k]?.getD 0 = y at *
        have HC := Lib.hid (compare_any x y)
        generalize cmpI x y = c at *
        by_cases hc : c = 0
        · have HT := Lib.hid ((HG.out hc).trans HK.out)
          subst hc
          go_wp2_with (go_at_call 174; refine (HC.out _).mono ?_; rintro e w' ⟨rfl, rfl⟩)
          go_roundw
          case rel => exact ⟨k + 1, hlt, h2, by go_num, HT, trivial⟩
          case measure => simp [intOf]; omega
        · have HT := Lib.hid ((HS.out hc).symm.trans HK.out)
          have hcb : (c != 0) = true := by simpa using hc
          clear hc
          go_wp2_with (go_at_call 174; refine (HC.out _).mono ?_; rintro e w' ⟨rfl, rfl⟩)
          go_ret
          exact ⟨by rw [← HT.out]; rfl, rfl⟩
      · have h2d : decide ((k : Int) ≥ (n2 : Int)) = true := decide_eq_true (by omega)
        have HT := Lib.hid ((HE1.out k hlt (by omega)).symm.trans HK.out)
        go_wp2
        go_ret
        exact ⟨by rw [← HT.out]; rfl, rfl⟩
    · obtain rfl : n1 = k := by omega
      have HT := Lib.hid ((HE2.out hk2).symm.trans HK.out)
      by_cases h3 : n1 < n2
      · have h3d : decide ((n1 : Int) < (n2 : Int)) = true := decide_eq_true (by omega)
        rw [if_pos h3] at HT
        go_wp2
        go_ret
        exact ⟨by rw [← HT.out]; rfl, rfl⟩
      · have h3d : decide ((n1 : Int) < (n2 : Int)) = false := decide_eq_false (by omega)
        rw [if_neg h3] at HT
        go_wp2
        go_ret
        exact ⟨by rw [← HT.out]; rfl, rfl⟩
theorem cmpR_or (n : Net) (a b : List Int) (st : Int) : orI [cmpI (lenR n a) (lenR n b), cmpI a.length b.length, lexI a b, cmpI st st] = cmpR n a b := by
  have key : ∀ x y : Int, cmpI x y = if x = y then 0 else sgnI (x - y) := fun x y => by
    unfold cmpI sgnI
    by_cases h : x = y
    · rw [if_pos h, if_neg (by omega), if_neg (by omega)]
    · rw [if_neg h]
      by_cases h2 : x < y
      · rw [if_pos h2, if_pos (by omega)]
      · rw [if_neg h2, if_pos (by omega), if_neg (by omega), if_pos (by omega)]
  have sg : ∀ x : Int, x ≠ 0 → sgnI x ≠ 0 := fun x h => by
    unfold sgnI
    split
    · omega
    · split <;> omega
  unfold cmpR
  rw [key (lenR n a), key a.length, key st, if_pos rfl]
  by_cases h1 : lenR n a = lenR n b
  · rw [if_pos h1, if_pos h1, orI, if_pos rfl]
    by_cases h2 : a.length = b.length
    · rw [if_pos (by omega : (a.length : Int) = b.length), if_pos h2, orI, if_pos rfl, orI]
      by_cases h3 : lexI a b = 0
      · rw [if_pos h3, h3]; rfl
      · rw [if_neg h3]
    · rw [if_neg (by omega : ¬ (a.length : Int) = b.length), if_neg h2, orI, if_neg (sg _ (by omega))]
  · rw [if_neg h1, if_neg h1, orI, if_neg (sg _ (by omega))]
theorem box3_facts (w : World) (A B C : Obj) : Below w.heap.size w (((w.alloc A).alloc B).alloc C) ∧ (((w.alloc A).alloc B).alloc C).heap[w.heap.size]? = some A ∧ (((w.alloc A).alloc B).alloc C).heap[w.heap.size + 1]? = some B ∧ (((w.alloc A).alloc B).alloc C).heap[w.heap.size + 1 + 1]? = some C ∧ (((w.alloc A).alloc B).alloc C).heap.size = w.heap.size + 1 + 1 + 1 := by
  have s1 : (w.alloc A).heap.size = w.heap.size + 1 := by simp
  have s2 : ((w.alloc A).alloc B).heap.size = w.heap.size + 1 + 1 := by simp
  have b1 := (Below.refl w.heap.size w).alloc (Nat.le_refl _) A
  have b2 := b1.alloc b1.size B
  have k0 := heap_alloc_new w A
  have k1 := heap_alloc_new (w.alloc A) B
  have k2 := heap_alloc_new ((w.alloc A).alloc B) C
  rw [s1] at k1
  rw [s2] at k2
  refine ⟨b2.alloc b2.size C, ?_, ?_, k2, by simp⟩
  · rw [heap_alloc_old _ C (by rw [s2]; omega), heap_alloc_old _ B (by rw [s1]; omega)]; exact k0
  · rw [heap_alloc_old _ C (by rw [s2]; omega)]; exact k1
set_option maxHeartbeats 6400000 in
theorem compareRoutes_any (u1 u2 va vb : Value) (n : Net) (st : Int) (xs ys : List Int) (w : World) (h : Rdt w (flt 4 fibE n.fs) u2) (h1 : ∃ a m c, u1 = .slice a m c) (ha : Rd w va xs) (hb : Rd w vb ys)
    (hlx : xs.length ≤ 1000) (hly : ys.length ≤ 1000) (hix : InNet n xs) (hiy : InNet n ys) (hL : LenOk n) :
    Calls Tryz.prog 242 #[.agg #[u1, u2], .agg #[.int .i64 st, va], .agg #[.int .i64 st, vb]] w fun e w' => e = .returned (.int .i64 (cmpR n xs ys)) ∧ Gr w w' := by
  have HX := Lib.hid (fun w' (hw : Below w.heap.size w w') => lengthOf_any u1 u2 va n st xs w' (h.behind hw) h1 (ha.belowAll hw) hlx hix hL)
  have HY := Lib.hid (fun w' (hw : Below w.heap.size w w') => lengthOf_any u1 u2 vb n st ys w' (h.behind hw) h1 (hb.belowAll hw) hly hiy hL)
  have HC := Lib.hid (fun w' (hw : Below w.heap.size w w') => slcCompare_any va vb xs ys w' (ha.belowAll hw) (hb.belowAll hw))
  have HF := Lib.hid (cmpR_or n xs ys st)
  obtain ⟨a1, m1, c1, rfl⟩ := h1
  obtain ⟨a2, m2, c2, rfl, -, -, -, -⟩ := flt_opn (m := 4) (enc := fibE) (fun _ => rfl) (by omega) nilB h
  obtain ⟨a3, c3, m3, HN3, rfl, -, hm3, -⟩ := ha.opn
  obtain ⟨a4, c4, m4, HN4, rfl, -, hm4, -⟩ := hb.opn
  rw [show xs.length = m3 from HN3.out, show ys.length = m4 from HN4.out] at HF
  clear h ha hb hlx hly hix hiy hL
  generalize lenR n xs = lx at *
  generalize lenR n ys = ly at *
  generalize lexI xs ys = lc at *
  generalize cmpR n xs ys = R at *
  have HK1 := Lib.hid (fun w' => compare_any lx ly w')
  have HK2 := Lib.hid (fun w' => compare_any (m3 : Int) (m4 : Int) w')
  have HK3 := Lib.hid (fun w' => compare_any st st w')
  generalize cmpI lx ly = k1 at *
  generalize cmpI (m3 : Int) (m4 : Int) = k2 at *
  generalize cmpI st st = k3 at *
  have HO := Lib.hid (fun w' => or_any _ [k1, k2, lc, k3] _ (rd_alloc w' 3 [k1, k2, lc, k3] (by unfold maxLen; simp)))
  rw [HF.out] at HO
  obtain ⟨hBX, g0, g1, g2, hsz⟩ := box3_facts w (.cells #[.slice a1 m1 c1, .slice a2 m2 c2] 35) (.cells #[.int .i64 st, .slice a3 m3 c3] 82) (.cells #[.int .i64 st, .slice a4 m4 c4] 82)
  have HBX := Lib.hid hBX
  have HG := Lib.hid ((((Gr.refl w).alloc (.cells #[.slice a1 m1 c1, .slice a2 m2 c2] 35)).alloc (.cells #[.int .i64 st, .slice a3 m3 c3] 82)).alloc (.cells #[.int .i64 st, .slice a4 m4 c4] 82))
  have q0 := blkc g0 (j := 0) (show _ = some (.slice a1 m1 c1) from rfl)
  have q1 := blkc g0 (j := 1) (show _ = some (.slice a2 m2 c2) from rfl)
  have q2 := blkc g1 (j := 0) (show _ = some (.int .i64 st) from rfl)
  have q3 := blkc g1 (j := 1) (show _ = some (.slice a3 m3 c3) from rfl)
  have q4 := blkc g2 (j := 0) (show _ = some (.int .i64 st) from rfl)
  have q5 := blkc g2 (j := 1) (show _ = some (.slice a4 m4 c4) from rfl)
  clear g0 g1 g2 hBX
  go_enter Tryz.func242, Tryz.ntmps242
  go_wp2
  generalize ((w.alloc (.cells #[.slice a1 m1 c1, .slice a2 m2 c2] 35)).alloc (.cells #[.int .i64 st, .slice a3 m3 c3] 82)).alloc (.cells #[.int .i64 st, .slice a4 m4 c4] 82) = w2 at *
  have HS := Lib.hid (fun (w' : World) (hg : Gr w2 w') => show Gr w2 w' ∧ w'.cell? ⟨w.heap.size, 0, none⟩ = some (.slice a1 m1 c1) ∧ w'.cell? ⟨w.heap.size, 1, none⟩ = some (.slice a2 m2 c2) ∧ w'.cell? ⟨w.heap.size + 1, 0, none⟩ = some (.int .i64 st) ∧ w'.cell? ⟨w.heap.size + 1, 1, none⟩ = some (.slice a3 m3 c3) ∧ w'.cell? ⟨w.heap.size + 1 + 1, 0, none⟩ = some (.int .i64 st) ∧ w'.cell? ⟨w.heap.size + 1 + 1, 1, none⟩ = some (.slice a4 m4 c4) from
    have hb := hg.below; ⟨hg, (hb.cell (show w.heap.size < _ by omega)).trans q0, (hb.cell (show w.heap.size < _ by omega)).trans q1, (hb.cell (show w.heap.size + 1 < _ by omega)).trans q2, (hb.cell (show w.heap.size + 1 < _ by omega)).trans q3, (hb.cell (show w.heap.size + 1 + 1 < _ by omega)).trans q4, (hb.cell (show w.heap.size + 1 + 1 < _ by omega)).trans q5⟩)
  have HBS := Lib.hid (fun (wx w' : World) (hb : Gr w2 wx) (hc : Gr wx w') => show Gr w2 w' from hb.trans hc)
  have HBA := Lib.hid (fun (wx : World) (hb : Gr w2 wx) (o : Obj) => show Gr w2 (wx.alloc o) from hb.alloc o)
  have HXB := Lib.hid (fun (w' : World) (hb : Gr w2 w') => HX.out w' (HBX.out.trans (hb.below.mono HBX.out.size)))
  have HYB := Lib.hid (fun (w' : World) (hb : Gr w2 w') => HY.out w' (HBX.out.trans (hb.below.mono HBX.out.size)))
  have HCB := Lib.hid (fun (w' : World) (hb : Gr w2 w') => HC.out w' (HBX.out.trans (hb.below.mono HBX.out.size)))
  have s0 : Gr w2 w2.drew := (Gr.refl w2).drew
  clear q0 q1 q2 q3 q4 q5 hsz
  go_region_held3 (fun w' => Gr w2 w' ∧ w'.cell? ⟨w.heap.size, 0, none⟩ = some (.slice a1 m1 c1) ∧ w'.cell? ⟨w.heap.size, 1, none⟩ = some (.slice a2 m2 c2) ∧ w'.cell? ⟨w.heap.size + 1, 0, none⟩ = some (.int .i64 st) ∧ w'.cell? ⟨w.heap.size + 1, 1, none⟩ = some (.slice a3 m3 c3) ∧ w'.cell? ⟨w.heap.size + 1 + 1, 0, none⟩ = some (.int .i64 st) ∧ w'.cell? ⟨w.heap.size + 1 + 1, 1, none⟩ = some (.slice a4 m4 c4))
    (first | exact HS.out _ (by assumption) | exact HS.out _ (HBA.out _ (by assumption) _))
    (first
      | (go_at_call 191; first | ((with_reducible refine (HXB.out _ (And.left (by assumption))).mono ?_); rintro e w5 ⟨rfl, b5⟩; have s5 := HBS.out _ _ (And.left (by assumption)) b5; clear b5) | ((with_reducible refine (HYB.out _ (And.left (by assumption))).mono ?_); rintro e w6 ⟨rfl, b6⟩; have s6 := HBS.out _ _ (And.left (by assumption)) b6; clear b6))
      | (go_at_call 174; first | ((with_reducible refine (HK1.out _).mono ?_); rintro e w7 ⟨rfl, rfl⟩) | ((with_reducible refine (HK2.out _).mono ?_); rintro e w7 ⟨rfl, rfl⟩) | ((with_reducible refine (HK3.out _).mono ?_); rintro e w7 ⟨rfl, rfl⟩))
      | (go_at_call 251; refine (HCB.out _ (And.left (by assumption))).mono ?_; rintro e w8 ⟨rfl, rfl⟩)
      | (go_at_call 173; refine (HO.out _).mono ?_; rintro e w9 ⟨rfl, rfl⟩))
  all_goals
    go_wp2
    go_ret
    exact ⟨rfl, HG.out.trans (HBA.out _ (by assumption) _)⟩
theorem sortRoutes_any (u1 u2 va vb : Value) (n : Net) (st : Int) (xs ys : List Int) (bn : Nat) (w : World) (hn0 : w.cell? ⟨bn, 0, none⟩ = some u1) (hn1 : w.cell? ⟨bn, 1, none⟩ = some u2) (h : Rdt w (flt 4 fibE n.fs) u2) (h1 : ∃ a m c, u1 = .slice a m c) (ha : Rd w va xs) (hb : Rd w vb ys)
    (hlx : xs.length ≤ 1000) (hly : ys.length ≤ 1000) (hix : InNet n xs) (hiy : InNet n ys) (hL : LenOk n) :
    Calls Tryz.prog 241 #[.agg #[.int .i64 st, va], .agg #[.int .i64 st, vb], ptr bn] w fun e w' => e = .returned (.int .i64 (cmpR n xs ys)) ∧ Gr w w' := by
  have HC := Lib.hid (fun w' (hw : Below w.heap.size w w') => compareRoutes_any u1 u2 va vb n st xs ys w' (h.behind hw) h1 (ha.belowAll hw) (hb.belowAll hw) hlx hly hix hiy hL)
  obtain ⟨a1, m1, c1, rfl⟩ := h1
  obtain ⟨a2, m2, c2, rfl, -, -, -, -⟩ := flt_opn (m := 4) (enc := fibE) (fun _ => rfl) (by omega) nilB h
  obtain ⟨a3, c3, m3, -, rfl, -, hm3, -⟩ := ha.opn
  obtain ⟨a4, c4, m4, -, rfl, -, hm4, -⟩ := hb.opn
  clear h ha hb hlx hly hix hiy hL
  generalize cmpR n xs ys = R at *
  have hG := ((Gr.refl w).alloc (.cells #[.int .i64 st, .slice a3 m3 c3] 82)).alloc (.cells #[.int .i64 st, .slice a4 m4 c4] 82)
  have k0 := heap_alloc_new w (.cells #[.int .i64 st, .slice a3 m3 c3] 82)
  have k0' := (heap_alloc_old _ (.cells #[.int .i64 st, .slice a4 m4 c4] 82) (Array.getElem?_eq_some_iff.1 k0).1).trans k0
  have k1 := heap_alloc_new (w.alloc (.cells #[.int .i64 st, .slice a3 m3 c3] 82)) (.cells #[.int .i64 st, .slice a4 m4 c4] 82)
  rw [show (w.alloc (.cells #[.int .i64 st, .slice a3 m3 c3] 82)).heap.size = w.heap.size + 1 by simp] at k1
  have z0 := (hG.below.cell (World.block_lt_of_cell? _ _ hn0)).trans hn0
  have z1 := (hG.below.cell (World.block_lt_of_cell? _ _ hn1)).trans hn1
  have q2 := blkc k0' (j := 0) (show _ = some (.int .i64 st) from rfl)
  have q3 := blkc k0' (j := 1) (show _ = some (.slice a3 m3 c3) from rfl)
  have q4 := blkc k1 (j := 0) (show _ = some (.int .i64 st) from rfl)
  have q5 := blkc k1 (j := 1) (show _ = some (.slice a4 m4 c4) from rfl)
  have HG := Lib.hid hG
  clear k0 k0' k1 hG hn0 hn1
  go_enter Tryz.func241, Tryz.ntmps241

  go_wp2_with fail
  refine (HC.out _ HG.out.below).mono ?_
  rintro e w' ⟨rfl, hw⟩
  have HW := Lib.hid (HG.out.trans hw)
  clear hw
  go_wp2
  go_ret
  exact ⟨rfl, HW.out⟩
end Go.Proofs.YtofcicomhnkocaaGreat
namespace Go.Proofs.YtofcicomhnkocaaGreat
open Go.RowKit

def grpTo (n : Net) (g : Int) (k : Nat) : List Int := ((List.range k).filter fun i => decide ((fbA n i).r = g)).map fun i : Nat => (i : Int)
def grp (n : Net) (g : Int) : List Int := grpTo n g n.fs.length
def gA (n : Net) : Nat → List (List Int)
  | 0 => []
  | g + 1 => if (grp n ((g + 1 : Nat) : Int)).length = 0 then gA n g else gA n g ++ [grp n ((g + 1 : Nat) : Int)]
def gS (n : Net) : Nat → List (List Int)
  | 0 => []
  | k + 1 => if (fbA n k).r = 0 then gS n k ++ [[(k : Int)]] else gS n k
def grps (n : Net) : List (List Int) := gA n 9 ++ gS n n.fs.length
end Go.Proofs.YtofcicomhnkocaaGreat
namespace Go.Proofs.YtofcicomhnkocaaGreat
open Go.RowKit

def grA (n : Net) (g : Int) : List Int := (grps n)[g.toNat]?.getD []
def fof (n : Net) (gs : List Int) : List Int := gs.flatMap (grA n)
def hitL (p : Pln) (gs : List Int) (x : Lgt) : Bool := meets x.fb (fof p.n gs)
def hitTo (p : Pln) (gs : List Int) (k : Nat) : List Int := ((p.ls.take k).filter (hitL p gs)).map (·.id)
def hts (p : Pln) (gs : List Int) : List Int := hitTo p gs p.ls.length
/-! ### Bits -/
def nats (ms : List Nat) : List Int := ms.map fun k : Nat => (k : Int)
theorem nats_len (ms : List Nat) : (nats ms).length = ms.length := by simp [nats]
theorem nats_at (ms : List Nat) (i : Nat) : (nats ms)[i]?.getD 0 = ((ms[i]?.getD 0 : Nat) : Int) := by
  unfold nats
  rw [List.getElem?_map]
  cases ms[i]? <;> rfl
theorem or_lt {a b k : Nat} (ha : a < 2 ^ k) (hb : b < 2 ^ k) : a ||| b < 2 ^ k := Nat.or_lt_two_pow ha hb
/-! ### Sets of numbers -/
end Go.Proofs.YtofcicomhnkocaaGreat
namespace Go.Proofs.YtofcicomhnkocaaGreat
open Go.RowKit Go.Sort
set_option maxRecDepth 100000

theorem mskN_bit (f c i : Nat) : (mskN f c).testBit i = (decide (f ≤ i) && decide (i < f + c)) := by
  unfold mskN
  rw [Nat.testBit_mul_two_pow, Nat.testBit_two_pow_sub_one]
  by_cases h : f ≤ i
  · simp only [h, decide_true, Bool.true_and]
    rw [decide_eq_decide]; omega
  · simp [h]
theorem mskN_meet (f c g d : Nat) (hc : 0 < c) (hd : 0 < d) : (mskN f c &&& mskN g d = 0) ↔ ¬ (f < g + d ∧ g < f + c) := by
  constructor
  · intro h ⟨h1, h2⟩
    have := congrArg (fun x => x.testBit (max f g)) h
    simp only [Nat.testBit_and, mskN_bit, Nat.zero_testBit, Bool.and_eq_false_iff, decide_eq_false_iff_not] at this
    omega
  · intro h
    apply Nat.eq_of_testBit_eq
    intro i
    simp only [Nat.testBit_and, mskN_bit, Nat.zero_testBit, Bool.and_eq_false_iff, decide_eq_false_iff_not]
    omega
theorem mskN_lt (f c : Nat) (h : f + c ≤ 24) : mskN f c < 16777216 := by
  unfold mskN
  have h1 : 2 ^ c * 2 ^ f ≤ 2 ^ 24 := by rw [← Nat.pow_add]; exact Nat.pow_le_pow_right (by omega) (by omega)
  have h2 : (2 ^ c - 1) * 2 ^ f + 2 ^ f = 2 ^ c * 2 ^ f := by
    have : 0 < 2 ^ c := Nat.two_pow_pos c
    rw [Nat.sub_mul, Nat.one_mul]
    exact Nat.sub_add_cancel (Nat.le_mul_of_pos_left _ this)
  have h3 : 0 < 2 ^ f := Nat.two_pow_pos f
  omega
theorem msk_val {f c : Nat} (h : f + c ≤ 24) : wrap64 (wrap64 (wrap64 ((2 : Int) ^ c) - 1) * (2 : Int) ^ f) = (mskN f c : Int) := by
  have hm := mskN_lt f c h
  have hc : 2 ^ c ≤ 2 ^ 24 := Nat.pow_le_pow_right (by omega) (by omega)
  have hc0 : 0 < 2 ^ c := Nat.two_pow_pos c
  have e1 : (2 : Int) ^ c = ((2 ^ c : Nat) : Int) := by simp
  have e2 : (2 : Int) ^ f = ((2 ^ f : Nat) : Int) := by simp
  rw [e1, e2]
  have w1 : wrap64 ((2 ^ c : Nat) : Int) = ((2 ^ c : Nat) : Int) := IntWalk.wrap64_in _ (by omega)
  have e3 : (((2 ^ c : Nat) : Int) - 1) = ((2 ^ c - 1 : Nat) : Int) := by omega
  have w2 : wrap64 ((2 ^ c - 1 : Nat) : Int) = ((2 ^ c - 1 : Nat) : Int) := IntWalk.wrap64_in _ (by omega)
  rw [w1, e3, w2, ← Int.natCast_mul]
  show wrap64 ((mskN f c : Nat) : Int) = _
  exact IntWalk.wrap64_in _ (by omega)
theorem maskOf_any (f c : Nat) (w : World) (h : f + c ≤ 24) :
    Calls Tryz.prog 142 #[.agg #[.int .i64 f, .int .i64 c]] w fun e w' => e = .returned (.int .i64 (mskN f c)) ∧ Below w.heap.size w w' := by
  obtain ⟨bx, bc, -, -⟩ := box_facts w #[.int .i64 f, .int .i64 c] 84
  have q0 := bc 0 _ rfl
  have q1 := bc 1 _ rfl
  have HBX := Lib.hid bx
  have HVV := Lib.hid (msk_val h)
  clear bc bx
  go_enter Tryz.func142, Tryz.ntmps142
  go_wp2
  go_quiet (fail)
  go_wp2
  go_ret
  exact ⟨by rw [← HVV.out]; rfl, ⟨HBX.out.os, HBX.out.tape, HBX.out.output, HBX.out.size, HBX.out.block⟩⟩
theorem l8Bits_any (f c : Nat) (w : World) (h : f + c ≤ 24) :
    Calls Tryz.prog 132 #[.agg #[.int .i64 f, .int .i64 c]] w fun e w' => e = .returned (.int .i64 (mskN f c)) ∧ Below w.heap.size w w' := by
  obtain ⟨bx, bc, -, -⟩ := box_facts w #[.int .i64 f, .int .i64 c] 84
  have q0 := bc 0 _ rfl
  have q1 := bc 1 _ rfl
  have HBX := Lib.hid bx
  have HVV := Lib.hid (msk_val h)
  clear bc bx
  go_enter Tryz.func132, Tryz.ntmps132
  go_wp2
  go_ret
  exact ⟨by rw [← HVV.out]; rfl, HBX.out⟩
theorem bits_and {a b : Nat} (ha : a < 16777216) (hb : b < 16777216) : bits .and .i64 (a : Int) (b : Int) = ((a &&& b : Nat) : Int) := by
  have hab : a &&& b ≤ a := Nat.and_le_left
  have e : (BitVec.ofInt 64 (a : Int) &&& BitVec.ofInt 64 (b : Int)).toNat = a &&& b := by
    rw [BitVec.toNat_and, BitVec.ofInt_natCast, BitVec.ofInt_natCast, BitVec.toNat_ofNat, BitVec.toNat_ofNat, Nat.mod_eq_of_lt (by omega), Nat.mod_eq_of_lt (by omega)]
  unfold bits
  show IntKind.i64.wrap (((BitVec.ofInt 64 (a : Int) &&& BitVec.ofInt 64 (b : Int)).toNat : Nat) : Int) = _
  rw [e, IntWalk.i64_in _ (by omega)]
end Go.Proofs.YtofcicomhnkocaaGreat
namespace Go.Proofs.YtofcicomhnkocaaGreat
open Go.RowKit Go.Sort
set_option maxRecDepth 100000

theorem bits_or {a b : Nat} (ha : a < 16777216) (hb : b < 16777216) : bits .or .i64 (a : Int) (b : Int) = ((a ||| b : Nat) : Int) := by
  have hab : a ||| b < 2 ^ 24 := or_lt (by omega) (by omega)
  have e : (BitVec.ofInt 64 (a : Int) ||| BitVec.ofInt 64 (b : Int)).toNat = a ||| b := by
    rw [BitVec.toNat_or, BitVec.ofInt_natCast, BitVec.ofInt_natCast, BitVec.toNat_ofNat, BitVec.toNat_ofNat, Nat.mod_eq_of_lt (by omega), Nat.mod_eq_of_lt (by omega)]
  unfold bits
  show IntKind.i64.wrap (((BitVec.ofInt 64 (a : Int) ||| BitVec.ofInt 64 (b : Int)).toNat : Nat) : Int) = _
  rw [e, IntWalk.i64_in _ (by omega)]
theorem shl_one {k : Nat} (hk : k < 24) : wrap64 ((2 : Int) ^ k) = ((2 ^ k : Nat) : Int) := by
  have : (2 : Nat) ^ k < 2 ^ 24 := Nat.pow_lt_pow_right (by omega) hk
  have e : (2 : Int) ^ k = ((2 ^ k : Nat) : Int) := by simp
  rw [e]
  generalize (2 : Nat) ^ k = P at *
  exact IntWalk.wrap64_in _ (by omega)
theorem bit_at {M : Nat} (k : Nat) (hM : M < 16777216) : bits .and .i64 ((M : Int) / (2 : Int) ^ k) 1 = if M.testBit k then 1 else 0 := by
  have e : (M : Int) / (2 : Int) ^ k = ((M / 2 ^ k : Nat) : Int) := by simp
  have hle : M / 2 ^ k ≤ M := Nat.div_le_self _ _
  rw [e, show (1 : Int) = ((1 : Nat) : Int) from rfl, bits_and (by omega) (by omega), Nat.and_one_is_mod, Nat.testBit_eq_decide_div_mod_eq]
  by_cases h : M / 2 ^ k % 2 = 1
  · rw [h]; simp
  · have : M / 2 ^ k % 2 = 0 := by omega
    rw [this]; simp
theorem bit_on {M k : Nat} (hM : M < 16777216) (h : M.testBit k = true) : bits .and .i64 ((M : Int) / (2 : Int) ^ k) 1 = 1 := by rw [bit_at k hM, h]; rfl
theorem bit_off {M k : Nat} (hM : M < 16777216) (h : M.testBit k = false) : bits .and .i64 ((M : Int) / (2 : Int) ^ k) 1 = 0 := by rw [bit_at k hM, h]; rfl
theorem pow_lt24 {k : Nat} (hk : k < 24) : 2 ^ k < 16777216 := Nat.lt_of_lt_of_le (Nat.pow_lt_pow_right (by omega) hk) (Nat.le_refl (2 ^ 24))
end Go.Proofs.YtofcicomhnkocaaGreat
namespace Go.Proofs.YtofcicomhnkocaaGreat
open Go.RowKit Go.Sort
set_option maxRecDepth 100000
theorem Tryz.infoI : (Tryz.prog.info? 3).map (fun i => (i.zero, i.size, i.bytes)) = some (some (.int .i64 0), 1, 8) := by kernel_rfl
end Go.Proofs.YtofcicomhnkocaaGreat
namespace Go.Proofs.YtofcicomhnkocaaGreat
open Go.RowKit Go.Sort
set_option maxRecDepth 100000

theorem own_none (w : World) (T : TypeId) : Own (w.alloc (.cells #[] T)) w.heap.size (.slice (some ⟨w.heap.size, 0, none⟩) 0 0) [] :=
  .inr ⟨w.heap.size, 0, 0, #[], rfl, Nat.le_refl _, ⟨T, heap_alloc_new w _⟩, by simp, by unfold maxLen; omega, by simp, by simp [ints]⟩
end Go.Proofs.YtofcicomhnkocaaGreat
