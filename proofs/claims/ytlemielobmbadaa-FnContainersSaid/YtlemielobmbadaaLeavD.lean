/- Walks: the program's deinterleaving. -/
import Derived.Test.YtlemielobmbadaaLeavI
namespace Go.Proofs.Ytlemielobmbadaa
open Go.RowKit

/-- What stands in the table behind k rounds. -/
def deintTo (xs : List Int) (r c k : Nat) : List Int := (List.range (r * c)).map fun p => if p % c * r + p / c < k then xs[p % c * r + p / c]?.getD 0 else 0
theorem deintTo_len (xs : List Int) (r c k : Nat) : (deintTo xs r c k).length = r * c := by simp [deintTo]
theorem deintTo_zero (xs : List Int) (r c : Nat) : deintTo xs r c 0 = List.replicate (r * c) 0 := by
  unfold deintTo; simp [List.map_const']
theorem place_back {r c p : Nat} (hp : p < r * c) : p % c * r + p / c < r * c := by
  have hc : 0 < c := by rcases Nat.eq_zero_or_pos c with h | h; · simp [h] at hp
                        · exact h
  have h1 : p % c < c := Nat.mod_lt _ hc
  have h2 : p / c < r := Nat.div_lt_of_lt_mul (by rw [Nat.mul_comm]; exact hp)
  have := idx_lt (r := c) (c := r) h1 h2
  rwa [Nat.mul_comm c r] at this
theorem place_iff {r c p k : Nat} (hr : 1 ≤ r) (hp : p < r * c) (hk : k < r * c) : p % c * r + p / c = k ↔ k % r * c + k / r = p := by
  have hc : 0 < c := by rcases Nat.eq_zero_or_pos c with h | h; · simp [h] at hp
                        · exact h
  have h1 : p % c < c := Nat.mod_lt _ hc
  have h2 : p / c < r := Nat.div_lt_of_lt_mul (by rw [Nat.mul_comm]; exact hp)
  have h3 : k % r < r := Nat.mod_lt _ hr
  have h4 : k / r < c := Nat.div_lt_of_lt_mul hk
  constructor
  · rintro rfl
    rw [Nat.mul_comm (p % c) r, Nat.mul_add_mod, Nat.mod_eq_of_lt h2, Nat.mul_add_div hr, Nat.div_eq_of_lt h2, Nat.add_zero, Nat.mul_comm]
    exact Nat.div_add_mod p c
  · rintro rfl
    rw [Nat.mul_comm (k % r) c, Nat.mul_add_mod, Nat.mod_eq_of_lt h4, Nat.mul_add_div hc, Nat.div_eq_of_lt h4, Nat.add_zero, Nat.mul_comm]
    exact Nat.div_add_mod k r
theorem deintTo_step (xs : List Int) (r c k : Nat) (hr : 1 ≤ r) (hk : k < r * c) : (deintTo xs r c k).set (k % r * c + k / r) (xs[k]?.getD 0) = deintTo xs r c (k + 1) := by
  apply List.ext_getElem
  · simp [deintTo]
  · intro p h1 h2
    have hp : p < r * c := by simpa [deintTo] using h2
    have hiff := place_iff hr hp hk
    rw [List.getElem_set]
    simp only [deintTo, List.getElem_map, List.getElem_range]
    by_cases e : k % r * c + k / r = p
    · rw [if_pos e, if_pos (by have := hiff.2 e; omega), hiff.2 e]
    · rw [if_neg e]
      have : p % c * r + p / c ≠ k := fun h => e (hiff.1 h)
      by_cases h3 : p % c * r + p / c < k
      · rw [if_pos h3, if_pos (by omega)]
      · rw [if_neg h3, if_neg (by omega)]
theorem deintTo_all (xs : List Int) (r c : Nat) : deintTo xs r c (r * c) = turn xs c r := by
  unfold deintTo turn
  rw [Nat.mul_comm c r]
  apply List.map_congr_left
  intro p hp
  rw [if_pos (place_back (List.mem_range.1 hp))]

set_option maxHeartbeats 1600000 in
set_option maxRecDepth 100000 in
theorem implDeint_any (v : Value) (xs : List Int) (rows : Int) (w : World) (h : Rd w v xs) :
    Calls Try.prog 13 #[v, .int .i64 rows] w fun e w' => ∃ v', e = .returned (.tuple #[v', .bool (tblOk xs rows)]) ∧ Own w' w.heap.size v' (deintL xs rows) ∧ Below w.heap.size w w' := by
  cases ht : tblOk xs rows
  · have hI : deintL xs rows = [] := by simp [deintL, ht]
    rw [hI]
    obtain ⟨a, cap, n, HX, rfl, _, hla, _⟩ := h.opn
    go_enter Try.func13, Try.ntmps13
    go_wp2_with (go_at_call 65; refine (isTable_any _ xs rows _ h).mono ?_; rintro e w' ⟨rfl, rfl⟩)
    go_ret2
    exact ⟨_, rfl, own_nil, Below.refl _ _⟩
  · obtain ⟨hb, hl, hs, hm⟩ := tblOk_parts ht
    have hI : deintL xs rows = turn xs (xs.length / rows.toNat) rows.toNat := by simp [deintL, ht]
    rw [hI]
    obtain ⟨r, rfl⟩ := Int.eq_ofNat_of_zero_le (show 0 ≤ rows by omega)
    simp only [Int.toNat_natCast] at hm ⊢
    have HM := Lib.hid hm
    have hd : xs.length / r ≤ 120 := Nat.le_trans (Nat.div_le_self _ _) hl
    clear hm hI
    obtain ⟨a, cap, n, HX, rfl, _, hla, ha⟩ := h.opn
    rw [HX.out] at hl HM hd ⊢
    have hq : (n : Int) / (r : Int) = ((n / r : Nat) : Int) := (Int.natCast_ediv n r).symm
    generalize n / r = c at *
    have hq2 : wrap64 (c : Int) = (c : Int) := IntWalk.wrap64_in _ ⟨by omega, by omega⟩
    have hr1 : 1 ≤ r := by omega
    go_enter Try.func13, Try.ntmps13
    go_wp2_with (first | (go_at_call 65; refine (isTable_any _ xs _ _ h).mono ?_; rintro e w' ⟨rfl, rfl⟩))
    have e2t : (n : Int).tdiv (r : Int) = (c : Int) := by rw [Int.tdiv_eq_ediv_of_nonneg (by omega)]; exact hq
    have z1 : ((r : Int) == 0) = false := by rw [beq_eq_false_iff_ne]; omega
    have z2 : ¬ ((r : Int) = 0) := by omega
    have z3 : ¬ (r = 0) := by omega
    have f1 : IntKind.i64.wrap (c : Int) = (c : Int) := IntWalk.i64_in _ (by omega)
    have hmk := run_mk Try.underlying24 Try.infoInt n (by omega)
    go_region
    go_wp2
    have h0 : Own (w.drew.alloc (.cells (zer n) 3)) w.heap.size (.slice (some ⟨w.heap.size, 0, none⟩) n n) (deintTo xs r c 0) := by
      rw [deintTo_zero, HM.out]
      exact own_zer (w := w.drew) (by omega)
    have hb0 : Below w.heap.size w (w.drew.alloc (.cells (zer n) 3)) := (Below.refl _ _).drew.alloc (Nat.le_refl _) _
    go_loopw [23] (fun i wr => ∃ k : Nat, k ≤ n ∧ i = .int .i64 k ∧ Own wr w.heap.size (.slice (some ⟨w.heap.size, 0, none⟩) n n) (deintTo xs r c k) ∧ Below w.heap.size w wr) (fun i _ => n - (intOf i).toNat)
    case atStart => exact ⟨0, by omega, rfl, h0, hb0⟩
    case round =>
      obtain ⟨k, hk, rfl, hown, hbel⟩ := hrel
      by_cases hlt : k < n
      · have hix := place_lt (r := r) (c := c) hr1 (k := k) (by rw [HM.out]; exact hlt)
        rw [HM.out] at hix
        have hm1 : k % r * c ≤ 8 * 120 := Nat.mul_le_mul (by have := Nat.mod_lt k hr1; omega) hd
        have HS := Lib.hid (deintTo_step xs r c k hr1 (by rw [HM.out]; exact hlt))
        have e1 : (k : Int) % (r : Int) = ((k % r : Nat) : Int) := (Int.natCast_emod k r).symm
        have e2 : (k : Int) / (r : Int) = ((k / r : Nat) : Int) := (Int.natCast_ediv k r).symm
        have hq8 : k % r ≤ 8 := by have := Nat.mod_lt k hr1; omega
        have hs120 : k / r ≤ 120 := Nat.le_trans (Nat.div_le_self _ _) (by omega)
        have e1t : (k : Int).tmod (r : Int) = ((k % r : Nat) : Int) := by rw [Int.tmod_eq_emod_of_nonneg (by omega)]; exact e1
        have e2t : (k : Int).tdiv (r : Int) = ((k / r : Nat) : Int) := by rw [Int.tdiv_eq_ediv_of_nonneg (by omega)]; exact e2
        generalize k % r = q at *
        generalize k / r = s at *
        have e3 : (q : Int) * (c : Int) = ((q * c : Nat) : Int) := (Int.natCast_mul q c).symm
        generalize q * c = m at *
        have hrI : (1 : Int) ≤ (r : Int) := by omega
        have hk0 : (0 : Int) ≤ (k : Int) := by omega
        have z1 : ((r : Int) == 0) = false := by rw [beq_eq_false_iff_ne]; omega
        have z2 : ¬ ((r : Int) = 0) := by omega
        have z3 : ¬ (r = 0) := by omega
        have f1 : IntKind.i64.wrap (m : Int) = (m : Int) := IntWalk.i64_in _ (by omega)
        have f2 : IntKind.i64.wrap (q : Int) = (q : Int) := IntWalk.i64_in _ (by omega)
        have f3 : IntKind.i64.wrap (s : Int) = (s : Int) := IntWalk.i64_in _ (by omega)
        have f4 : IntKind.i64.wrap ((m : Int) + (s : Int)) = (m : Int) + (s : Int) := IntWalk.i64_in _ (by omega)
        have f5 : (0 : Int) ≤ (m : Int) + (s : Int) := by omega
        have f6 : (m : Int) + (s : Int) < (n : Int) := by omega
        have f7 : ((m : Int) + (s : Int)).toNat = m + s := by omega
        obtain ⟨b, off, rfl, hbs, hc⟩ := ha (by omega)
        have hcell0 := hc _ hlt
        rw [← hbel.cell (p := ⟨b, off + k, none⟩) hbs] at hcell0
        clear hc
        have hlen : (deintTo xs r c k).length = n := by rw [deintTo_len, HM.out]
        have hcell := (hown.cellAt rfl).2 (m + s) (by omega)
        have hfr := hown.frozenAt rfl (m + s)
        have hst := hown.stored rfl (m + s) (by omega) (xs[k]?.getD 0)
        rw [HS.out] at hst
        rw [Nat.zero_add] at hcell hst
        have HT := Lib.hid hst
        have HB := Lib.hid hbel
        clear hst hown hlen hbel
        go_wp2
        go_region
        go_wp2
        go_roundw
        case rel => exact ⟨k + 1, by omega, by go_num, HT.out.1.drew, (HB.out.grown HT.out.2 (by have := HB.out.size; omega) (by simp)).drew⟩
        case measure => simp [intOf]; omega
      · obtain rfl : k = n := by omega
        go_wp2
        go_ret2
        rw [← HM.out, deintTo_all, HM.out] at hown
        exact ⟨_, rfl, hown, hbel⟩
end Go.Proofs.Ytlemielobmbadaa
