/- Plain Lean: numerals, checksums, lines of a log. -/
import Derived.Test.YtphhenlokbodnaaRecP
import Derived.Lib.ItoaNum
namespace Go.Proofs.Ytphhenlokbodnaa
open Go.RowKit

abbrev mk (l : List UInt8) : ByteArray := ⟨l.toArray⟩
theorem ba_ext {a b : ByteArray} (h : a.data.toList = b.data.toList) : a = b := by
  cases a; cases b; simp only [ByteArray.mk.injEq]; exact Array.toList_inj.1 h
theorem mk_data (s : ByteArray) : mk s.data.toList = s := ba_ext (by simp)
theorem data_mk (l : List UInt8) : (mk l).data.toList = l := by simp
theorem data_append (a b : ByteArray) : (a ++ b).data.toList = a.data.toList ++ b.data.toList := by simp [ByteArray.data_append]
theorem mk_append (a b : List UInt8) : mk a ++ mk b = mk (a ++ b) := ba_ext (by rw [data_append])
theorem str_append (a : ByteArray) (b : List UInt8) : a ++ mk b = mk (a.data.toList ++ b) := ba_ext (by rw [data_append])
theorem mk_size (l : List UInt8) : (mk l).size = l.length := List.size_toArray
theorem size_data (s : ByteArray) : s.size = s.data.toList.length := by simp

/-- The numeral's digits. -/
abbrev digs (n : Nat) : List UInt8 := Go.Lib.decDigits n
theorem digs_small {n : Nat} (h : n < 10) : digs n = [UInt8.ofNat (48 + n)] := by unfold digs; rw [Go.Lib.decDigits, dif_pos h]
theorem digs_big {n : Nat} (h : ¬ n < 10) : digs n = digs (n / 10) ++ [UInt8.ofNat (48 + n % 10)] := by unfold digs; rw [Go.Lib.decDigits, dif_neg h]
theorem digs_len : ∀ (d n : Nat), n < 10 ^ (d + 1) → (digs n).length ≤ d + 1
  | 0, n, h => by rw [digs_small (by simpa using h)]; simp
  | d + 1, n, h => by
    by_cases h1 : n < 10
    · rw [digs_small h1]; simp
    · rw [digs_big h1, List.length_append]
      have := digs_len d (n / 10) (by rw [Nat.pow_succ] at h; omega)
      simp; omega
theorem digs_byte (n : Nat) : ∀ b ∈ digs n, 48 ≤ b.toNat ∧ b.toNat ≤ 57 := by
  induction n using Nat.strongRecOn with
  | _ n ih =>
    intro b hb
    by_cases h1 : n < 10
    · rw [digs_small h1] at hb
      simp only [List.mem_singleton] at hb
      subst hb
      simp [UInt8.toNat_ofNat']; omega
    · rw [digs_big h1] at hb
      rcases List.mem_append.1 hb with h | h
      · exact ih (n / 10) (by omega) b h
      · simp only [List.mem_singleton] at h
        subst h
        simp [UInt8.toNat_ofNat']; omega

/-- The checksum. -/
def sumStep (h : Int) (b : UInt8) : Int := (41 * h + (b.toNat : Int) + 1) % 999979
def sumL (l : List UInt8) : Int := l.foldl sumStep 7
theorem sumL_bd (l : List UInt8) : 0 ≤ sumL l ∧ sumL l < 999979 := by
  unfold sumL
  suffices H : ∀ (l : List UInt8) (h : Int), 0 ≤ h ∧ h < 999979 → 0 ≤ l.foldl sumStep h ∧ l.foldl sumStep h < 999979 from H l 7 (by omega)
  intro l
  induction l with
  | nil => intro h hh; exact hh
  | cons b l ih => intro h _; exact ih _ (by unfold sumStep; omega)
theorem sumL_snoc (l : List UInt8) (b : UInt8) : sumL (l ++ [b]) = sumStep (sumL l) b := by simp [sumL]
def sealL (l : List UInt8) : List UInt8 := l ++ 35 :: digs (sumL l).toNat
theorem sealL_len (l : List UInt8) : (sealL l).length ≤ l.length + 7 := by
  have hb := sumL_bd l
  have := digs_len 5 (sumL l).toNat (by omega)
  simp [sealL]; omega
/-- A record's text ahead of its checksum; its line. -/
def bodyL (k : Nat) (c r : List UInt8) : List UInt8 := digs k ++ 32 :: (c ++ 64 :: r)
def lineL (k : Nat) (c r : List UInt8) : List UInt8 := sealL (bodyL k c r) ++ [10]
def encOk (k : Int) (c r : ByteArray) : Bool := inB k 0 59 && recOk c r
def encS (k : Int) (c r : ByteArray) : ByteArray := if encOk k c r then mk (lineL k.toNat c.data.toList r.data.toList) else mk []
theorem recOk_parts {c r : ByteArray} (h : recOk c r = true) : 1 ≤ c.size ∧ c.size ≤ 160 ∧ r.size ≤ 200 ∧ plainL c.data.toList = true ∧ plainL r.data.toList = true ∧ standsL c.data.toList 64 = false := by
  simp only [recOk, Bool.and_eq_true, Bool.not_eq_true'] at h
  obtain ⟨⟨⟨⟨h1, h2⟩, h3⟩, h4⟩, h5⟩ := h
  have a := inB_true h1
  have b := inB_true h2
  exact ⟨by omega, by omega, by omega, h3, h4, h5⟩
theorem stands_append (a b : List UInt8) (x : UInt8) : standsL (a ++ b) x = (standsL a x || standsL b x) := by simp [standsL]
theorem stands_cons (a : UInt8) (b : List UInt8) (x : UInt8) : standsL (a :: b) x = (((a.toNat : Int) == (x.toNat : Int)) || standsL b x) := rfl
theorem digs_stands (n : Nat) {x : UInt8} (hx : x.toNat < 48 ∨ 57 < x.toNat) : standsL (digs n) x = false := by
  unfold standsL
  rw [List.any_eq_false]
  intro b hb
  have := digs_byte n b hb
  simp only [beq_iff_eq]
  omega
theorem plain_stands {l : List UInt8} (h : plainL l = true) : standsL l 35 = false := by
  unfold standsL
  rw [List.any_eq_false]
  intro b hb
  have := List.all_eq_true.1 h b hb
  simp only [plainB, Bool.and_eq_true, Bool.not_eq_true', beq_eq_false_iff_ne] at this
  simp only [beq_iff_eq]
  exact this.2
theorem body_hash {k : Nat} {c r : ByteArray} (h : recOk c r = true) : standsL (bodyL k c.data.toList r.data.toList) 35 = false := by
  obtain ⟨_, _, _, h4, h5, _⟩ := recOk_parts h
  unfold bodyL
  rw [stands_append, digs_stands k (by decide), stands_cons, stands_append, plain_stands h4, stands_cons, plain_stands h5]
  decide
theorem body_len {k : Nat} {c r : ByteArray} (hk : k ≤ 99) (h : recOk c r = true) : (bodyL k c.data.toList r.data.toList).length ≤ 364 := by
  obtain ⟨_, h2, h3, _⟩ := recOk_parts h
  have := digs_len 1 k (by omega)
  rw [size_data] at h2 h3
  simp [bodyL] at *
  omega
end Go.Proofs.Ytphhenlokbodnaa
