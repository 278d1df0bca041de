/- Walks: the program's interleaving. -/
import Derived.Test.YtlemielobmbadaaBa08
import Derived.Test.YtlemielobmbadaaLeavW
namespace Go.Proofs.Ytlemielobmbadaa
open Go.RowKit

set_option maxHeartbeats 800000 in
set_option maxRecDepth 100000 in
theorem isTable_any (v : Value) (xs : List Int) (rows : Int) (w : World) (h : Rd w v xs) :
    Calls Try.prog 65 #[v, .int .i64 rows] w fun e w' => e = .returned (.bool (tblOk xs rows)) ∧ w = w' := by
  obtain ⟨a, cap, n, HX, rfl, _, hla, _⟩ := h.opn
  have ht := fun (b1 b2 b3 b4 : Bool) h1 h2 h3 h4 => tblOk_of (xs := xs) (rows := rows) (b1 := b1) (b2 := b2) (b3 := b3) (b4 := b4) h1 h2 h3 h4
  rw [HX.out] at ht
  have HT := Lib.hid ht
  clear ht
  generalize tblOk xs rows = r at *
  by_cases h3 : inB rows 1 8 = true
  case neg =>
    have h3 : inB rows 1 8 = false := by simpa using h3
    have e := HT.out false _ _ _ h3 rfl rfl rfl
    simp only [Bool.false_and, Bool.and_false, Bool.true_and] at e
    have HE := Lib.hid e
    clear e
    go_enter Try.func65, Try.ntmps65
    go_wp2_with (first | (go_at_call 69; refine (areSymbols_any _ xs _ h).mono ?_; rintro e w' ⟨rfl, rfl⟩) | (go_at_call 68; refine (within_any _ _ _ _).mono ?_; rintro e w' ⟨rfl, rfl⟩))
    go_ret
    exact ⟨by rw [HE.out]; rfl, rfl⟩
  by_cases h1 : (n : Int) ≤ 120
  case neg =>
    have h1d : decide ((n : Int) ≤ 120) = false := by simpa using h1
    have e := HT.out true false _ _ h3 h1d rfl rfl
    simp only [Bool.false_and, Bool.and_false, Bool.true_and] at e
    have HE := Lib.hid e
    clear e
    go_enter Try.func65, Try.ntmps65
    go_wp2_with (first | (go_at_call 69; refine (areSymbols_any _ xs _ h).mono ?_; rintro e w' ⟨rfl, rfl⟩) | (go_at_call 68; refine (within_any _ _ _ _).mono ?_; rintro e w' ⟨rfl, rfl⟩))
    go_ret
    exact ⟨by rw [HE.out]; rfl, rfl⟩
  by_cases h2 : symL xs = true
  case neg =>
    have h2 : symL xs = false := by simpa using h2
    have e := HT.out true true false _ h3 (decide_eq_true h1) h2 rfl
    simp only [Bool.false_and, Bool.and_false, Bool.true_and] at e
    have HE := Lib.hid e
    clear e
    go_enter Try.func65, Try.ntmps65
    go_wp2_with (first | (go_at_call 69; refine (areSymbols_any _ xs _ h).mono ?_; rintro e w' ⟨rfl, rfl⟩) | (go_at_call 68; refine (within_any _ _ _ _).mono ?_; rintro e w' ⟨rfl, rfl⟩))
    go_ret
    exact ⟨by rw [HE.out]; rfl, rfl⟩
  have hb := inB_true h3
  have hr0 : (1 : Int) ≤ rows := hb.1
  by_cases h4 : (n : Int) % rows = 0
  · have h5 : ((n : Int) % rows == 0) = true := by simpa using h4
    have e := HT.out true true true true h3 (decide_eq_true h1) h2 (decide_eq_true h4)
    have HE := Lib.hid e
    clear e h4
    go_enter Try.func65, Try.ntmps65
    go_wp2_with (first | (go_at_call 69; refine (areSymbols_any _ xs _ h).mono ?_; rintro e w' ⟨rfl, rfl⟩) | (go_at_call 68; refine (within_any _ _ _ _).mono ?_; rintro e w' ⟨rfl, rfl⟩))
    go_ret
    exact ⟨by rw [HE.out]; rfl, rfl⟩
  · have h5 : ((n : Int) % rows == 0) = false := by simpa using h4
    have e := HT.out true true true false h3 (decide_eq_true h1) h2 (decide_eq_false h4)
    have HE := Lib.hid e
    clear e h4
    go_enter Try.func65, Try.ntmps65
    go_wp2_with (first | (go_at_call 69; refine (areSymbols_any _ xs _ h).mono ?_; rintro e w' ⟨rfl, rfl⟩) | (go_at_call 68; refine (within_any _ _ _ _).mono ?_; rintro e w' ⟨rfl, rfl⟩))
    go_ret
    exact ⟨by rw [HE.out]; rfl, rfl⟩

theorem empty_any {w : World} : Own (w.alloc (.cells #[] 3)) w.heap.size (.slice (some ⟨w.heap.size, 0, none⟩) 0 0) [] :=
  .inr ⟨w.heap.size, 0, 0, #[], rfl, Nat.le_refl _, ⟨_, heap_alloc_new w _⟩, by simp, by simp, by simp, rfl⟩
theorem own_nil {w : World} {base : Nat} : Own w base (.slice none 0 0) [] := .inl ⟨rfl, rfl⟩

set_option maxHeartbeats 800000 in
set_option maxRecDepth 100000 in
theorem specInter_any (v : Value) (xs : List Int) (rows : Int) (w : World) (h : Rd w v xs) :
    Calls Try.prog 12 #[v, .int .i64 rows] w fun e w' => ∃ v', e = .returned (.tuple #[v', .bool (tblOk xs rows)]) ∧ Own w' w.heap.size v' (interL xs rows) ∧ Below w.heap.size w w' := by
  cases ht : tblOk xs rows
  · have hI : interL xs rows = [] := by simp [interL, ht]
    rw [hI]
    obtain ⟨a, cap, n, HX, rfl, _, hla, _⟩ := h.opn
    go_enter Try.func12, Try.ntmps12
    go_wp2_with (go_at_call 66; refine (l24Table_any _ xs rows _ h).mono ?_; rintro e w' ⟨rfl, rfl⟩)
    go_ret2
    exact ⟨_, rfl, empty_any, (Below.refl _ _).alloc (Nat.le_refl _) _⟩
  · obtain ⟨hb, hl, hs, hm⟩ := tblOk_parts ht
    have hI : interL xs rows = turn xs rows.toNat (xs.length / rows.toNat) := by simp [interL, ht]
    rw [hI]
    obtain ⟨r, rfl⟩ := Int.eq_ofNat_of_zero_le (show 0 ≤ rows by omega)
    simp only [Int.toNat_natCast] at hm ⊢
    have HM := Lib.hid hm
    have hd : xs.length / r ≤ 120 := Nat.le_trans (Nat.div_le_self _ _) hl
    clear hm hI
    obtain ⟨a, cap, n, HX, rfl, _, hla, _⟩ := h.opn
    rw [HX.out] at hl HM hd ⊢
    have hq : (n : Int) / (r : Int) = ((n / r : Nat) : Int) := (Int.natCast_ediv n r).symm
    generalize n / r = c at *
    go_enter Try.func12, Try.ntmps12
    go_wp2_with (first | (go_at_call 66; refine (l24Table_any _ xs _ _ h).mono ?_; rintro e w' ⟨rfl, rfl⟩) | (go_at_call 67; refine (l24Turn_any _ xs r c _ h (by rw [HM.out, HX.out]) (by omega) (by omega)).mono ?_; rintro e w' ⟨v', rfl, ho, hbel⟩))
    go_ret2
    exact ⟨_, rfl, ho, hbel⟩

/-- The first k symbols that the interleaving reads. -/
def interTo (xs : List Int) (rows cols k : Nat) : List Int := (List.range k).map fun j => xs[j % rows * cols + j / rows]?.getD 0
theorem interTo_step (xs : List Int) (rows cols k : Nat) : interTo xs rows cols (k + 1) = interTo xs rows cols k ++ [xs[k % rows * cols + k / rows]?.getD 0] := by
  simp [interTo, List.range_succ]
theorem interTo_all (xs : List Int) (rows cols : Nat) : interTo xs rows cols (rows * cols) = turn xs rows cols := rfl
theorem place_lt {r c k : Nat} (hr : 1 ≤ r) (hk : k < r * c) : k % r * c + k / r < r * c := by
  have h1 : k % r < r := Nat.mod_lt _ (by omega)
  have h2 : k / r < c := Nat.div_lt_of_lt_mul hk
  exact idx_lt h1 h2

set_option maxHeartbeats 1600000 in
set_option maxRecDepth 100000 in
theorem implInter_any (v : Value) (xs : List Int) (rows : Int) (w : World) (h : Rd w v xs) :
    Calls Try.prog 11 #[v, .int .i64 rows] w fun e w' => ∃ v', e = .returned (.tuple #[v', .bool (tblOk xs rows)]) ∧ Own w' w.heap.size v' (interL xs rows) ∧ Below w.heap.size w w' := by
  cases ht : tblOk xs rows
  · have hI : interL xs rows = [] := by simp [interL, ht]
    rw [hI]
    obtain ⟨a, cap, n, HX, rfl, _, hla, _⟩ := h.opn
    go_enter Try.func11, Try.ntmps11
    go_wp2_with (go_at_call 65; refine (isTable_any _ xs rows _ h).mono ?_; rintro e w' ⟨rfl, rfl⟩)
    go_ret2
    exact ⟨_, rfl, own_nil, Below.refl _ _⟩
  · obtain ⟨hb, hl, hs, hm⟩ := tblOk_parts ht
    have hI : interL xs rows = turn xs rows.toNat (xs.length / rows.toNat) := by simp [interL, ht]
    rw [hI]
    obtain ⟨r, rfl⟩ := Int.eq_ofNat_of_zero_le (show 0 ≤ rows by omega)
    simp only [Int.toNat_natCast] at hm ⊢
    have HM := Lib.hid hm
    have hd : xs.length / r ≤ 120 := Nat.le_trans (Nat.div_le_self _ _) hl
    clear hm hI
    obtain ⟨a, cap, n, HX, rfl, _, hla, ha⟩ := h.opn
    rw [HX.out] at hl HM hd ⊢
    have hq : (n : Int) / (r : Int) = ((n / r : Nat) : Int) := (Int.natCast_ediv n r).symm
    generalize n / r = c at *
    have hq2 : wrap64 (c : Int) = (c : Int) := IntWalk.wrap64_in _ ⟨by omega, by omega⟩
    have hr1 : 1 ≤ r := by omega
    go_enter Try.func11, Try.ntmps11
    go_wp2_with (first | (go_at_call 65; refine (isTable_any _ xs _ _ h).mono ?_; rintro e w' ⟨rfl, rfl⟩))
    go_region
    go_wp2
    have h0 : (w.drew.alloc (.cells #[] 3)).ownsRow w.heap.size 3 1 (.slice (some ⟨w.heap.size, 0, none⟩) 0 0) 0 (ints (interTo xs r c 0)) :=
      World.ownsRow_lit (base := w.heap.size) (e := 3) (size := 1) w.drew #[] 0 (Nat.le_refl _) (by simp) rfl
    have hb0 : Below w.heap.size w (w.drew.alloc (.cells #[] 3)) := (Below.refl _ _).drew.alloc (Nat.le_refl _) _
    go_loopw [6, 20] (fun o i wr => ∃ k : Nat, k ≤ n ∧ i = .int .i64 k ∧ wr.ownsRow w.heap.size 3 1 o k (ints (interTo xs r c k)) ∧ Below w.heap.size w wr) (fun _ i _ => n - (intOf i).toNat)
    case atStart => exact ⟨0, by omega, rfl, h0, hb0⟩
    case round =>
      obtain ⟨k, hk, rfl, hown, hbel⟩ := hrel
      by_cases hlt : k < n
      · have hix := place_lt (r := r) (c := c) hr1 (k := k) (by rw [HM.out]; exact hlt)
        rw [HM.out] at hix
        have hm1 : k % r * c ≤ 8 * 120 := Nat.mul_le_mul (by have := Nat.mod_lt k hr1; omega) hd
        have HS := Lib.hid (interTo_step xs r c k)
        have e1 : (k : Int) % (r : Int) = ((k % r : Nat) : Int) := (Int.natCast_emod k r).symm
        have e2 : (k : Int) / (r : Int) = ((k / r : Nat) : Int) := (Int.natCast_ediv k r).symm
        have hq8 : k % r ≤ 8 := by have := Nat.mod_lt k hr1; omega
        have hs120 : k / r ≤ 120 := Nat.le_trans (Nat.div_le_self _ _) (by omega)
        have e1t : (k : Int).tmod (r : Int) = ((k % r : Nat) : Int) := by rw [Int.tmod_eq_emod_of_nonneg (by omega)]; exact e1
        have e2t : (k : Int).tdiv (r : Int) = ((k / r : Nat) : Int) := by rw [Int.tdiv_eq_ediv_of_nonneg (by omega)]; exact e2
        generalize k % r = q at *
        generalize k / r = s at *
        have e3 : (q : Int) * (c : Int) = ((q * c : Nat) : Int) := (Int.natCast_mul q c).symm
        generalize q * c = m at *
        have hrI : (1 : Int) ≤ (r : Int) := by omega
        have hk0 : (0 : Int) ≤ (k : Int) := by omega
        have z1 : ((r : Int) == 0) = false := by rw [beq_eq_false_iff_ne]; omega
        have z2 : ¬ ((r : Int) = 0) := by omega
        have z3 : ¬ (r = 0) := by omega
        have f1 : IntKind.i64.wrap (m : Int) = (m : Int) := IntWalk.i64_in _ (by omega)
        have f2 : IntKind.i64.wrap (q : Int) = (q : Int) := IntWalk.i64_in _ (by omega)
        have f3 : IntKind.i64.wrap (s : Int) = (s : Int) := IntWalk.i64_in _ (by omega)
        have f4 : IntKind.i64.wrap ((m : Int) + (s : Int)) = (m : Int) + (s : Int) := IntWalk.i64_in _ (by omega)
        have f5 : (0 : Int) ≤ (m : Int) + (s : Int) := by omega
        have f6 : (m : Int) + (s : Int) < (n : Int) := by omega
        have f7 : ((m : Int) + (s : Int)).toNat = m + s := by omega
        obtain ⟨b, off, rfl, hbs, hc⟩ := ha (by omega)
        have hcell := hc _ hix
        rw [← hbel.cell (p := ⟨b, off + (m + s), none⟩) hbs] at hcell
        clear hc
        have hsz := hbel.size
        have hne : ∀ q, q < w.heap.size → some q ≠ u6.ownBlock := fun q hq e => by have := (hown.lt q e.symm).1; omega
        go_wp2
        go_region_held3 (fun w' => w'.cell? ⟨b, off + (m + s), none⟩ = some (.int .i64 (xs[m + s]?.getD 0)))
          (first
            | go_keep
            | (rw [hgrow1.cell_far _ (by simp; omega) (hne _ hbs)]; assumption))
          ((refine step_push rfl (.tmp 23) (.tmp 36) 24 rfl Try.underlying24 Try.infoInt w.heap.size _ k (interTo xs r c k) rfl hown rfl rfl rfl rfl rfl (by omega) hsz ?_; intro v' w1 hown1 hgrow1))
        have hb1 := below_push hbel hown hgrow1 (Nat.le_refl _) hsz
        rw [← HS.out] at hown1
        clear hown hgrow1 hcell hix hbel e1 e1t e2 e2t e3 f1 f2 f3 f4 f5 f6 f7 z1 z2 z3 hne
        go_wp2
        go_roundw
        case rel => exact ⟨k + 1, by omega, by go_num, hown1, hb1⟩
        case measure => simp [intOf]; omega
      · obtain rfl : k = n := by omega
        go_wp2
        go_ret2
        have hh := own_of_row hown
        rw [← HM.out, interTo_all] at hh
        exact ⟨_, rfl, hh, hbel⟩
end Go.Proofs.Ytlemielobmbadaa
