/- Plain Lean: streams of blocks. -/
import Derived.Test.YtlemielobmbadaaErsW
namespace Go.Proofs.Ytlemielobmbadaa
open Go.RowKit

/-- So many numbers of a list from a place on. -/
def sub (xs : List Int) (i s : Nat) : List Int := (xs.drop i).take s
theorem sub_len {xs : List Int} {i s : Nat} (h : i + s ≤ xs.length) : (sub xs i s).length = s := by simp [sub]; omega
theorem symL_sub {xs ys : List Int} (h : symL xs = true) (hs : ∀ y ∈ ys, y ∈ xs) : symL ys = true := by
  simp only [symL, List.all_eq_true] at *
  exact fun y hy => h y (hs y hy)
theorem sub_sym {xs : List Int} (h : symL xs = true) (i s : Nat) : symL (sub xs i s) = true := symL_sub h fun _ hy => List.mem_of_mem_drop (List.mem_of_mem_take hy)
theorem sub_get (xs : List Int) (i s j : Nat) (h : j < s) : (sub xs i s)[j]?.getD 0 = xs[i + j]?.getD 0 := by
  simp [sub, List.getElem?_take, h, List.getElem?_drop]
theorem symL_append (xs ys : List Int) : symL (xs ++ ys) = (symL xs && symL ys) := by simp [symL]
theorem rd_sub {w : World} {xs : List Int} {b off n cap : Nat} (hX : xs.length = n) (hn : n ≤ cap) (hcap : cap ≤ maxLen) (hb : b < w.heap.size)
    (hc : ∀ j, j < n → w.cell? ⟨b, off + j, none⟩ = some (.int .i64 ((xs[j]?.getD 0)))) (i s : Nat) (h : i + s ≤ n) :
    Rd w (.slice (some ⟨b, off + i, none⟩) s (cap - i)) (sub xs i s) := by
  have hl : (sub xs i s).length = s := sub_len (by omega)
  refine .inr ⟨b, off + i, cap - i, by rw [hl], by omega, by omega, hb, fun j hj => ?_⟩
  rw [hl] at hj
  rw [sub_get _ _ _ _ hj, Nat.add_assoc]
  exact hc _ (by omega)

theorem Rd.opnc {w : World} {v : Value} {xs : List Int} (h : Rd w v xs) : ∃ a cap n, Hid (xs.length = n) ∧ v = .slice a n cap ∧ n ≤ cap ∧ n ≤ 9223372036854775807 ∧ Hid (cap ≤ maxLen) ∧
    (0 < n → ∃ b off, a = some ⟨b, off, none⟩ ∧ b < w.heap.size ∧ ∀ j, j < n → w.cell? ⟨b, off + j, none⟩ = some (.int .i64 ((xs[j]?.getD 0)))) := by
  obtain ⟨a, cap, hv, h1, h2, h3⟩ := h.shape
  have h4 := h2
  unfold maxLen at h2
  exact ⟨a, cap, xs.length, rfl, hv, h1, by omega, h4, h3⟩
theorem symL_of {xs : List Int} (h : ∀ i : Nat, Sym (xs[i]?.getD 0)) : symL xs = true := by
  simp only [symL, List.all_eq_true]
  intro x hx
  obtain ⟨i, hi, rfl⟩ := List.mem_iff_getElem.1 hx
  have := h i
  rw [List.getElem?_eq_getElem hi] at this
  simp only [Option.getD_some] at this
  simp [inB]; exact this
theorem sol_sym {ps : List Int} (h : Pl ps) {u : Vec} (hu : SymV u) : symL (sol ps u) = true := by
  have hf := fin_sym h hu
  unfold sol
  simp only [symL, List.all_eq_true]
  intro x hx
  obtain ⟨i, _, rfl⟩ := List.mem_map.1 hx
  have := hf i
  simp [inB]; exact this
theorem encL_sym {data : List Int} (h : symL data = true) : symL (encL data) = true := by
  rw [encL_eq, symL_append, h, Bool.and_true]
  unfold solR; rw [solOk0, if_pos rfl]
  exact sol_sym pl0 (synV_sym (blk0_sym h))

/-- The code blocks of the first k data blocks. -/
def encAll (xs : List Int) : Nat → List Int
  | 0 => []
  | k + 1 => encAll xs k ++ encL (sub xs (11 * k) 11)
theorem encAll_len {xs : List Int} {k : Nat} (h : 11 * k ≤ xs.length) : (encAll xs k).length = 15 * k := by
  induction k with
  | zero => rfl
  | succ k ih => rw [encAll, List.length_append, ih (by omega), encL_len (sub_len (by omega))]; omega
theorem encAll_sym {xs : List Int} (h : symL xs = true) (k : Nat) : symL (encAll xs k) = true := by
  induction k with
  | zero => rfl
  | succ k ih => rw [encAll, symL_append, ih, encL_sym (sub_sym h _ _)]; rfl

def strOk (m : Nat) (xs : List Int) : Bool := inB ((xs.length : Int) / m) 1 8 && decide ((xs.length : Int) % m = 0) && symL xs
theorem strOk_parts {m : Nat} {xs : List Int} (hm : 0 < m) (h : strOk m xs = true) : ∃ n, xs.length = m * n ∧ 1 ≤ n ∧ n ≤ 8 ∧ symL xs = true ∧ (xs.length : Int) / m = (n : Int) ∧ xs.length / m = n := by
  simp only [strOk, Bool.and_eq_true, decide_eq_true_eq] at h
  obtain ⟨⟨h1, h2⟩, h3⟩ := h
  have hb := inB_true h1
  have e : (xs.length : Int) / m = ((xs.length / m : Nat) : Int) := (Int.natCast_ediv _ _).symm
  refine ⟨xs.length / m, ?_, by omega, by omega, h3, e, rfl⟩
  exact (Nat.mul_div_cancel' (Nat.dvd_of_mod_eq_zero (by omega))).symm
theorem strOk_of {m : Nat} {xs : List Int} {b1 b2 b3 : Bool} (h1 : inB ((xs.length : Int) / m) 1 8 = b1) (h2 : decide ((xs.length : Int) % m = 0) = b2) (h3 : symL xs = b3) : strOk m xs = (b1 && b2 && b3) := by
  rw [← h1, ← h2, ← h3]; rfl
def streR (xs : List Int) : List Int := if strOk 11 xs then turn (encAll xs (xs.length / 11)) (xs.length / 11) 15 else []
theorem streR_len (xs : List Int) : (streR xs).length ≤ 120 := by
  unfold streR; split
  · rename_i h
    obtain ⟨n, hn, h1, h8, _, _, e⟩ := strOk_parts (by omega) h
    rw [turn_len, e]; omega
  · simp
theorem inter_enc {xs : List Int} {n : Nat} (hn : xs.length = 11 * n) (h1 : 1 ≤ n) (h8 : n ≤ 8) (hs : symL xs = true) : tblOk (encAll xs n) (n : Int) = true ∧ interL (encAll xs n) (n : Int) = turn (encAll xs n) n 15 := by
  have hl : (encAll xs n).length = 15 * n := encAll_len (by omega)
  have ht : tblOk (encAll xs n) (n : Int) = true := by
    unfold tblOk
    rw [encAll_sym hs, hl]
    have e1 : inB (n : Int) 1 8 = true := by simp [inB]; omega
    have e2 : decide (((15 * n : Nat) : Int) ≤ 120) = true := by simp; omega
    have e3 : decide (((15 * n : Nat) : Int) % n = 0) = true := by simp
    rw [e1, e2, e3]; rfl
  refine ⟨ht, ?_⟩
  unfold interL
  rw [if_pos ht, hl]
  simp only [Int.toNat_natCast]
  rw [Nat.mul_div_cancel _ (by omega)]
end Go.Proofs.Ytlemielobmbadaa
