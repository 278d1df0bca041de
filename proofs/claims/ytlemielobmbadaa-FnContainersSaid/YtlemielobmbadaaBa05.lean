/- Joined: XSynP XSolP. -/
import Derived.Test.YtlemielobmbadaaBa04
namespace Go.Proofs.Ytlemielobmbadaa
open Go.RowKit

def pwTo : Nat → Nat
  | 0 => 1
  | n + 1 => mul (pwTo n) 2
/-- A power of the symbol 2. -/
def powI (n : Int) : Int := (pwTo (n.toNat % 15) : Nat)
theorem pwTo_lt0 : ∀ n, n < 15 → pwTo n < 16 := by decide +kernel
theorem powI_bd (n : Int) : 0 ≤ powI n ∧ powI n ≤ 15 := by
  have := pwTo_lt0 (n.toNat % 15) (Nat.mod_lt _ (by omega))
  unfold powI; omega
theorem pw_step (k : Nat) (hk : k < 15) : mulI (pwTo k : Nat) 2 = (pwTo (k + 1) : Nat) := rfl

/-- The sum of two symbols. -/
def xr (x y : Int) : Int := bits BinOp.xor .i64 x y
theorem xr0 : ∀ a, a < 16 → ∀ b, b < 16 → xr (a : Nat) (b : Nat) = ((a ^^^ b : Nat) : Int) := by decide +kernel
theorem xr_nat {x y : Int} (hx : 0 ≤ x) (hx2 : x ≤ 15) (hy : 0 ≤ y) (hy2 : y ≤ 15) : xr x y = ((x.toNat ^^^ y.toNat : Nat) : Int) := by
  have := xr0 x.toNat (by omega) y.toNat (by omega)
  rwa [show ((x.toNat : Nat) : Int) = x from by omega, show ((y.toNat : Nat) : Int) = y from by omega] at this
theorem nxor_lt {x y : Nat} (hx : x < 16) (hy : y < 16) : x ^^^ y < 16 := Nat.xor_lt_two_pow (n := 4) hx hy
theorem xr_bd {x y : Int} (hx : 0 ≤ x) (hx2 : x ≤ 15) (hy : 0 ≤ y) (hy2 : y ≤ 15) : 0 ≤ xr x y ∧ xr x y ≤ 15 := by
  rw [xr_nat hx hx2 hy hy2]
  have := nxor_lt (x := x.toNat) (y := y.toNat) (by omega) (by omega)
  omega

/-- The sum for one syndrome behind i symbols. -/
def synTo (xs : List Int) (j : Nat) : Nat → Int
  | 0 => 0
  | i + 1 => xr (synTo xs j i) (mulI (xs[i]?.getD 0) (powI (((j : Int) + 1) * i)))
theorem symAt (xs : List Int) (h : symL xs = true) (i : Nat) : 0 ≤ xs[i]?.getD 0 ∧ xs[i]?.getD 0 ≤ 15 := by
  by_cases hi : i < xs.length
  · exact inB_true (symL_get h i hi)
  · simp [List.getElem?_eq_none (Nat.le_of_not_lt hi)]
theorem synTo_bd {xs : List Int} (h : symL xs = true) (j i : Nat) : 0 ≤ synTo xs j i ∧ synTo xs j i ≤ 15 := by
  induction i with
  | zero => simp [synTo]
  | succ i ih =>
    have hs := symAt xs h i
    have hp := powI_bd (((j : Int) + 1) * i)
    have hm := mulI_bd hs.1 hs.2 hp.1 hp.2
    exact xr_bd ih.1 ih.2 hm.1 hm.2
/-- The four syndromes. -/
def syn (xs : List Int) : List Int := (List.range 4).map fun j => synTo xs j xs.length
/-- Behind j whole syndromes and i symbols of the next. -/
def synAt (xs : List Int) (j i : Nat) : List Int := (List.range 4).map fun t => if t < j then synTo xs t xs.length else if t = j then synTo xs j i else 0
theorem synAt_len (xs : List Int) (j i : Nat) : (synAt xs j i).length = 4 := by simp [synAt]
theorem synAt_zero (xs : List Int) : synAt xs 0 0 = List.replicate 4 0 := by
  simp [synAt, List.range_succ, synTo, List.replicate]
theorem synAt_get (xs : List Int) (j i : Nat) (hj : j < 4) : (synAt xs j i)[j]?.getD 0 = synTo xs j i := by simp [synAt, hj]
theorem synAt_step (xs : List Int) (j i : Nat) (hj : j < 4) : (synAt xs j i).set j (xr (synTo xs j i) (mulI (xs[i]?.getD 0) (powI (((j : Int) + 1) * i)))) = synAt xs j (i + 1) := by
  apply List.ext_getElem
  · simp [synAt]
  · intro t h1 h2
    rw [List.getElem_set]
    simp only [synAt, List.getElem_map, List.getElem_range]
    by_cases e : j = t
    · subst e; simp [synTo]
    · rw [if_neg e]
      by_cases h3 : t < j
      · simp [h3]
      · simp [h3, Ne.symm e]
theorem synAt_next (xs : List Int) (j : Nat) (hj : j < 4) : synAt xs j xs.length = synAt xs (j + 1) 0 := by
  apply List.ext_getElem
  · simp [synAt]
  · intro t h1 h2
    simp only [synAt, List.getElem_map, List.getElem_range, synTo]
    by_cases h3 : t < j
    · rw [if_pos h3, if_pos (by omega)]
    · rw [if_neg h3]
      by_cases e : t = j
      · subst e; rw [if_pos rfl, if_pos (by omega)]
      · rw [if_neg e, if_neg (by omega)]; simp
theorem synAt_all (xs : List Int) : synAt xs 4 0 = syn xs := by
  unfold synAt syn
  apply List.map_congr_left
  intro t ht
  rw [if_pos (List.mem_range.1 ht)]
theorem syn_len (xs : List Int) : (syn xs).length = 4 := by simp [syn]

/-- A block of symbols. -/
def blkOk (xs : List Int) : Bool := decide (xs.length = 15) && symL xs
def synR (xs : List Int) : List Int := if blkOk xs then syn xs else []
theorem synR_len (xs : List Int) : (synR xs).length ≤ 4 := by
  unfold synR; split <;> simp [syn_len]

end Go.Proofs.Ytlemielobmbadaa
namespace Go.Proofs.Ytlemielobmbadaa
open Go.RowKit

/-! Laws of the field, on integers from 0 to 15. -/
def Sym (x : Int) : Prop := 0 ≤ x ∧ x ≤ 15
theorem Sym.mul {a b : Int} (ha : Sym a) (hb : Sym b) : Sym (mulI a b) := mulI_bd ha.1 ha.2 hb.1 hb.2
theorem Sym.xr {a b : Int} (ha : Sym a) (hb : Sym b) : Sym (xr a b) := xr_bd ha.1 ha.2 hb.1 hb.2
theorem Sym.zero : Sym 0 := ⟨by omega, by omega⟩
theorem Sym.one : Sym 1 := ⟨by omega, by omega⟩
theorem Sym.pow (n : Int) : Sym (powI n) := powI_bd n
theorem Sym.nat {a : Int} (h : Sym a) : ∃ n : Nat, n < 16 ∧ a = (n : Int) := ⟨a.toNat, by have := h.1; have := h.2; omega, by have := h.1; omega⟩
theorem mulI_nat (a b : Nat) : mulI (a : Int) (b : Int) = (mul a b : Nat) := rfl
theorem mul_assoc0 : ∀ a, a < 16 → ∀ b, b < 16 → ∀ c, c < 16 → mul (mul a b) c = mul a (mul b c) := by decide +kernel
theorem mul_one0 : ∀ a, a < 16 → mul a 1 = a := by decide +kernel
theorem mul_zero0 : ∀ a, a < 16 → mul a 0 = 0 := by decide +kernel
theorem mul_eq_zero0 : ∀ a, a < 16 → ∀ b, b < 16 → mul a b = 0 → a = 0 ∨ b = 0 := by decide +kernel
theorem mulI_assoc {a b c : Int} (ha : Sym a) (hb : Sym b) (hc : Sym c) : mulI (mulI a b) c = mulI a (mulI b c) := by
  obtain ⟨a, h1, rfl⟩ := ha.nat; obtain ⟨b, h2, rfl⟩ := hb.nat; obtain ⟨c, h3, rfl⟩ := hc.nat
  simp only [mulI_nat]; rw [mul_assoc0 a h1 b h2 c h3]
theorem mulI_comm' {a b : Int} (ha : Sym a) (hb : Sym b) : mulI a b = mulI b a := by
  obtain ⟨a, h1, rfl⟩ := ha.nat; obtain ⟨b, h2, rfl⟩ := hb.nat
  simp only [mulI_nat]; rw [mul_comm0 a h1 b h2]
theorem mulI_one {a : Int} (ha : Sym a) : mulI a 1 = a := by
  obtain ⟨a, h1, rfl⟩ := ha.nat
  have := mul_one0 a h1
  show ((mul a 1 : Nat) : Int) = _; rw [this]
theorem mulI_zero {a : Int} (ha : Sym a) : mulI a 0 = 0 := by
  obtain ⟨a, h1, rfl⟩ := ha.nat
  have := mul_zero0 a h1
  show ((mul a 0 : Nat) : Int) = _; rw [this]; rfl
theorem zero_mulI {a : Int} (ha : Sym a) : mulI 0 a = 0 := by rw [mulI_comm' Sym.zero ha, mulI_zero ha]
theorem mulI_eq_zero {a b : Int} (ha : Sym a) (hb : Sym b) (h : mulI a b = 0) : a = 0 ∨ b = 0 := by
  obtain ⟨a, h1, rfl⟩ := ha.nat; obtain ⟨b, h2, rfl⟩ := hb.nat
  simp only [mulI_nat] at h
  have := mul_eq_zero0 a h1 b h2 (by omega)
  omega
theorem xr_natn {a b : Nat} (ha : a < 16) (hb : b < 16) : xr (a : Int) (b : Int) = ((a ^^^ b : Nat) : Int) := xr0 a ha b hb
theorem xr_comm {a b : Int} (ha : Sym a) (hb : Sym b) : xr a b = xr b a := by
  obtain ⟨a, h1, rfl⟩ := ha.nat; obtain ⟨b, h2, rfl⟩ := hb.nat
  rw [xr_natn h1 h2, xr_natn h2 h1, Nat.xor_comm]
theorem xr_assoc {a b c : Int} (ha : Sym a) (hb : Sym b) (hc : Sym c) : xr (xr a b) c = xr a (xr b c) := by
  obtain ⟨a, h1, rfl⟩ := ha.nat; obtain ⟨b, h2, rfl⟩ := hb.nat; obtain ⟨c, h3, rfl⟩ := hc.nat
  rw [xr_natn h1 h2, xr_natn h2 h3, xr_natn (nxor_lt h1 h2) h3, xr_natn h1 (nxor_lt h2 h3), Nat.xor_assoc]
theorem xr_self {a : Int} (ha : Sym a) : xr a a = 0 := by
  obtain ⟨a, h1, rfl⟩ := ha.nat
  rw [xr_natn h1 h1, Nat.xor_self]; rfl
theorem xr_zero {a : Int} (ha : Sym a) : xr a 0 = a := by
  obtain ⟨a, h1, rfl⟩ := ha.nat
  have := xr_natn (a := a) (b := 0) h1 (by omega)
  rw [Nat.xor_zero] at this; exact this
theorem zero_xr {a : Int} (ha : Sym a) : xr 0 a = a := by rw [xr_comm Sym.zero ha, xr_zero ha]
theorem xr_eq_zero {a b : Int} (ha : Sym a) (hb : Sym b) (h : xr a b = 0) : a = b := by
  have e : xr (xr a b) b = b := by rw [h, zero_xr hb]
  rw [xr_assoc ha hb hb, xr_self hb, xr_zero ha] at e; exact e
theorem xr_cancel {a b : Int} (ha : Sym a) (hb : Sym b) : xr (xr a b) b = a := by rw [xr_assoc ha hb hb, xr_self hb, xr_zero ha]
theorem mulI_xr' {a b c : Int} (ha : Sym a) (hb : Sym b) (hc : Sym c) : mulI a (xr b c) = xr (mulI a b) (mulI a c) := by
  obtain ⟨a, h1, rfl⟩ := ha.nat; obtain ⟨b, h2, rfl⟩ := hb.nat; obtain ⟨c, h3, rfl⟩ := hc.nat
  rw [xr_natn h2 h3]
  simp only [mulI_nat]
  rw [xr_natn (mul_lt0 a h1 b h2) (mul_lt0 a h1 c h3), mul_xor0 a h1 b h2 c h3]
theorem xr_mulI {a b c : Int} (ha : Sym a) (hb : Sym b) (hc : Sym c) : mulI (xr b c) a = xr (mulI b a) (mulI c a) := by
  rw [mulI_comm' (hb.xr hc) ha, mulI_xr' ha hb hc, mulI_comm' ha hb, mulI_comm' ha hc]
/-- Four sums: (a+b)+(c+d) = (a+c)+(b+d). -/
theorem xr_four {a b c d : Int} (ha : Sym a) (hb : Sym b) (hc : Sym c) (hd : Sym d) : xr (xr a b) (xr c d) = xr (xr a c) (xr b d) := by
  rw [xr_assoc ha hb (hc.xr hd), ← xr_assoc hb hc hd, xr_comm hb hc, xr_assoc hc hb hd, ← xr_assoc ha hc (hb.xr hd)]
theorem Sym.inv {a : Int} (ha : Sym a) (h : a ≠ 0) : Sym (invI a) := by
  have := invI_bd (a := a) (by have := ha.1; omega) ha.2
  exact ⟨by omega, this.2⟩
theorem mulI_inv {a : Int} (ha : Sym a) (h : a ≠ 0) : mulI a (invI a) = 1 := invI_mul (by have := ha.1; omega) ha.2

/-! A matrix: rows 0 .. 3, columns 0 .. n. -/
abbrev Mat := Nat → Nat → Int
def SymM (M : Mat) : Prop := ∀ j c, Sym (M j c)

/-- The first row from k on that is not 0 in column k (4: none). -/
def piv (M : Mat) (k : Nat) : Nat := ((List.range 4).find? fun p => decide (k ≤ p) && decide (M p k ≠ 0)).getD 4
def swp (M : Mat) (k p : Nat) : Mat := fun j c => if j = k then M p c else if j = p then M k c else M j c
def scl (M : Mat) (n k : Nat) : Mat := fun j c => if j = k ∧ c ≤ n then mulI (M k c) (invI (M k k)) else M j c
def clr (M : Mat) (n k : Nat) : Mat := fun j c => if j ≠ k ∧ c ≤ n then xr (M j c) (mulI (M j k) (M k c)) else M j c
/-- One column cleared. -/
def elim (n : Nat) (M : Mat) (k : Nat) : Mat := clr (scl (swp M k (piv M k)) n k) n k
def elims (n : Nat) (M : Mat) : Nat → Mat
  | 0 => M
  | k + 1 => elim n (elims n M k) k

/-- What clearing column k does to a column v, the pivot column being u, its row p. -/
def colT (u v : Nat → Int) (k p : Nat) : Nat → Int :=
  fun j => if j = k then mulI (v p) (invI (u p)) else xr (if j = p then v k else v j) (mulI (if j = p then u k else u j) (mulI (v p) (invI (u p))))

theorem elim_col {n : Nat} {M : Mat} {k c : Nat} (hk : k ≤ n) (hc : c ≤ n) (hsym : SymM M) (hp : M (piv M k) k ≠ 0) (j : Nat) :
    elim n M k j c = colT (fun j => M j k) (fun j => M j c) k (piv M k) j := by
  have h1 : mulI (M (piv M k) k) (invI (M (piv M k) k)) = 1 := mulI_inv (hsym _ _) hp
  unfold elim clr scl swp colT
  by_cases hj : j = k
  · subst hj; simp [hc]
  · have hs : Sym (if j = piv M k then M k k else M j k) := by split <;> exact hsym _ _
    simp [hj, hc]

/-! Independence. -/
/-- A power, by multiplication. -/
def npw (a : Int) : Nat → Int
  | 0 => 1
  | n + 1 => mulI a (npw a n)
theorem Sym.npw {a : Int} (h : Sym a) (n : Nat) : Sym (npw a n) := by
  induction n with
  | zero => exact Sym.one
  | succ n ih => exact h.mul ih
theorem pw_add0 : ∀ a, a < 15 → ∀ b, b < 15 → mul (pwTo a) (pwTo b) = pwTo ((a + b) % 15) := by decide +kernel
theorem pw_inj0 : ∀ a, a < 15 → ∀ b, b < 15 → pwTo a = pwTo b → a = b := by decide +kernel
theorem pw_ne0 : ∀ a, a < 15 → pwTo a ≠ 0 := by decide +kernel
theorem powI_nat (n : Nat) : powI n = (pwTo (n % 15) : Nat) := by unfold powI; rw [Int.toNat_natCast]
theorem powI_add (a b : Nat) : powI ((a : Int) + b) = mulI (powI a) (powI b) := by
  rw [← Int.natCast_add, powI_nat, powI_nat, powI_nat, mulI_nat, pw_add0 _ (Nat.mod_lt _ (by omega)) _ (Nat.mod_lt _ (by omega))]
  rw [show (a % 15 + b % 15) % 15 = (a + b) % 15 from by omega]
theorem powI_mul (p m : Nat) : powI ((m : Int) * p) = npw (powI p) m := by
  induction m with
  | zero => simp [npw]; rfl
  | succ m ih =>
    have e : ((m + 1 : Nat) : Int) * (p : Int) = (p : Int) + ((m * p : Nat) : Int) := by rw [Int.natCast_mul, Int.natCast_add, Int.add_mul]; omega
    rw [e, powI_add, Int.natCast_mul, ih]; rfl
theorem powI_ne (p : Nat) : powI p ≠ 0 := by
  rw [powI_nat]; have := pw_ne0 (p % 15) (Nat.mod_lt _ (by omega)); omega
theorem powI_inj {p q : Nat} (hp : p < 15) (hq : q < 15) (h : powI p = powI q) : p = q := by
  rw [powI_nat, powI_nat, Nat.mod_eq_of_lt hp, Nat.mod_eq_of_lt hq] at h
  exact pw_inj0 p hp q hq (by omega)

/-- The sum of coefficients times powers: the pairs are (coefficient, base). -/
def psum : List (Int × Int) → Nat → Int
  | [], _ => 0
  | (x, a) :: l, j => xr (mulI x (npw a j)) (psum l j)
theorem psum_sym {l : List (Int × Int)} (h : ∀ q ∈ l, Sym q.1 ∧ Sym q.2) (j : Nat) : Sym (psum l j) := by
  induction l with
  | nil => exact Sym.zero
  | cons q l ih => exact ((h q (by simp)).1.mul ((h q (by simp)).2.npw j)).xr (ih fun q hq => h q (by simp [hq]))
/-- One base less: each coefficient times (its base + b). -/
theorem psum_shift {l : List (Int × Int)} {b : Int} (hb : Sym b) (h : ∀ q ∈ l, Sym q.1 ∧ Sym q.2) (j : Nat) :
    psum (l.map fun q => (mulI q.1 (xr q.2 b), q.2)) j = xr (psum l (j + 1)) (mulI b (psum l j)) := by
  induction l with
  | nil => simp only [List.map_nil, psum]; rw [mulI_zero hb, xr_zero Sym.zero]
  | cons q l ih =>
    obtain ⟨x, a⟩ := q
    obtain ⟨hx, ha⟩ := h (x, a) (by simp)
    have hl : ∀ q ∈ l, Sym q.1 ∧ Sym q.2 := fun q hq => h q (by simp [hq])
    have hn := ha.npw j
    have s1 := psum_sym hl (j + 1)
    have s2 := psum_sym hl j
    simp only [List.map_cons, psum]
    rw [ih hl]
    have e1 : mulI (mulI x (xr a b)) (npw a j) = xr (mulI x (npw a (j + 1))) (mulI b (mulI x (npw a j))) := by
      rw [mulI_xr' hx ha hb, xr_mulI hn (hx.mul ha) (hx.mul hb), mulI_assoc hx ha hn, mulI_comm' hx hb, mulI_assoc hb hx hn]; rfl
    rw [e1, xr_four (hx.mul (ha.npw (j + 1))) (hb.mul (hx.mul hn)) s1 (hb.mul s2), ← mulI_xr' hb (hx.mul hn) s2]
theorem psum_zero {l : List (Int × Int)} (h : ∀ q ∈ l, q.1 = 0 ∧ Sym q.2) (j : Nat) : psum l j = 0 := by
  induction l with
  | nil => rfl
  | cons q l ih =>
    obtain ⟨y, c⟩ := q
    obtain ⟨hy, hc⟩ := h (y, c) (by simp)
    have e : psum l j = 0 := ih fun q hq => h q (by simp [hq])
    show xr (mulI y (npw c j)) (psum l j) = 0
    have hy' : y = 0 := hy
    rw [hy', e, zero_mulI (hc.npw j), xr_zero Sym.zero]
theorem psum_cons (x b : Int) (l : List (Int × Int)) (j : Nat) : psum ((x, b) :: l) j = xr (mulI x (npw b j)) (psum l j) := rfl
theorem indep_step {x b : Int} {l : List (Int × Int)} (hx : Sym x) (hb : Sym b) (hl : ∀ q ∈ l, Sym q.1 ∧ Sym q.2 ∧ q.2 ≠ 0) (hd : b ∉ l.map Prod.snd) (hz : ∀ j, j < l.length + 1 → psum ((x, b) :: l) j = 0)
    (ih : (∀ j, j < l.length → psum (l.map fun q => (mulI q.1 (xr q.2 b), q.2)) j = 0) → ∀ q ∈ l.map fun q => (mulI q.1 (xr q.2 b), q.2), q.1 = 0) : x = 0 ∧ ∀ q ∈ l, q.1 = 0 := by
  have hl2 : ∀ q ∈ l, Sym q.1 ∧ Sym q.2 := fun q hq => ⟨(hl q hq).1, (hl q hq).2.1⟩
  have key : ∀ j, j < l.length → psum (l.map fun q => (mulI q.1 (xr q.2 b), q.2)) j = 0 := fun j hj => by
    rw [psum_shift hb hl2]
    have z1 := hz (j + 1) (by omega)
    have z0 := hz j (by omega)
    rw [psum_cons] at z1 z0
    have e1 : psum l (j + 1) = mulI x (npw b (j + 1)) := (xr_eq_zero (hx.mul (hb.npw _)) (psum_sym hl2 _) z1).symm
    have e0 : psum l j = mulI x (npw b j) := (xr_eq_zero (hx.mul (hb.npw _)) (psum_sym hl2 _) z0).symm
    have e2 : mulI x (npw b (j + 1)) = mulI b (mulI x (npw b j)) := by
      show mulI x (mulI b (npw b j)) = _
      rw [← mulI_assoc hx hb (hb.npw j), mulI_comm' hx hb, mulI_assoc hb hx (hb.npw j)]
    rw [e1, e0, e2]
    exact xr_self (hb.mul (hx.mul (hb.npw j)))
  have hq0 := ih key
  have hrest : ∀ q ∈ l, q.1 = 0 := fun q hq => by
    have e := hq0 (mulI q.1 (xr q.2 b), q.2) (List.mem_map.2 ⟨q, hq, rfl⟩)
    rcases mulI_eq_zero (hl2 q hq).1 ((hl2 q hq).2.xr hb) e with e | e
    · exact e
    · exact absurd (List.mem_map.2 ⟨q, hq, xr_eq_zero (hl2 q hq).2 hb e⟩) hd
  refine ⟨?_, hrest⟩
  have z := hz 0 (by omega)
  rw [psum_cons, psum_zero (fun q hq => ⟨hrest q hq, (hl2 q hq).2⟩)] at z
  have e : xr (mulI x 1) 0 = 0 := z
  rw [mulI_one hx, xr_zero hx] at e
  exact e
theorem psum_indep_n (n : Nat) : ∀ (l : List (Int × Int)), l.length = n → (∀ q ∈ l, Sym q.1 ∧ Sym q.2 ∧ q.2 ≠ 0) → (l.map Prod.snd).Nodup → (∀ j, j < l.length → psum l j = 0) → ∀ q ∈ l, q.1 = 0 := by
  induction n with
  | zero => intro l hn _ _ _ q hq; rw [List.eq_nil_of_length_eq_zero hn] at hq; cases hq
  | succ n ih =>
    intro l hn h hd hz
    cases l with
    | nil => cases hn
    | cons p l =>
      obtain ⟨x, b⟩ := p
      rw [List.map_cons, List.nodup_cons] at hd
      have hp := h (x, b) List.mem_cons_self
      have hn' : l.length = n := by simpa using hn
      have hl : ∀ q ∈ l, Sym q.1 ∧ Sym q.2 ∧ q.2 ≠ 0 := fun q hq => h q (List.mem_cons_of_mem _ hq)
      have st := indep_step hp.1 hp.2.1 hl hd.1 hz fun hk => ih _ (by rw [List.length_map]; exact hn')
        (fun q hq => by
          obtain ⟨r, hr, rfl⟩ := List.mem_map.1 hq
          have hr2 := hl r hr
          exact ⟨hr2.1.mul (hr2.2.1.xr hp.2.1), hr2.2.1, hr2.2.2⟩)
        (by rw [List.map_map]; exact hd.2)
        (fun j hj => hk j (by rwa [List.length_map] at hj))
      intro q hq
      rcases List.mem_cons.1 hq with rfl | hq
      · exact st.1
      · exact st.2 q hq
theorem psum_indep (l : List (Int × Int)) (h : ∀ q ∈ l, Sym q.1 ∧ Sym q.2 ∧ q.2 ≠ 0) (hd : (l.map Prod.snd).Nodup) (hz : ∀ j, j < l.length → psum l j = 0) : ∀ q ∈ l, q.1 = 0 := psum_indep_n _ l rfl h hd hz

end Go.Proofs.Ytlemielobmbadaa
