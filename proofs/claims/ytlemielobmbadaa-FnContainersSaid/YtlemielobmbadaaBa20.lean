/- Joined: XErsP XErsI. -/
import Derived.Test.YtlemielobmbadaaBa19
import Derived.Deep.QuietTactic
import Derived.BigQuiet
namespace Go.Proofs.Ytlemielobmbadaa
open Go.RowKit

theorem getD_set (xs : List Int) (p i : Nat) (x : Int) (hp : p < xs.length) : (xs.set p x)[i]?.getD 0 = if p = i then x else xs[i]?.getD 0 := by
  rw [List.getElem?_set]
  by_cases e : p = i
  · subst e; simp [hp]
  · simp [e]
theorem symD {xs : List Int} (h : symL xs = true) (i : Nat) : Sym (xs[i]?.getD 0) := symAt xs h i

theorem synTo_set {xs : List Int} (h : symL xs = true) {p : Nat} (hp : p < xs.length) {x : Int} (hx : Sym x) (j m : Nat) :
    synTo (xs.set p x) j m = if p < m then xr (synTo xs j m) (mulI (xr (xs[p]?.getD 0) x) (powI (((j : Int) + 1) * p))) else synTo xs j m := by
  have ha := symD h p
  induction m with
  | zero => simp [synTo]
  | succ m ih =>
    have hS : Sym (synTo xs j m) := synTo_bd h j m
    have hP := Sym.pow (((j : Int) + 1) * m)
    have hm := symD h m
    simp only [synTo]
    rw [ih, getD_set _ _ _ _ hp]
    by_cases h1 : p < m
    · have hD := (ha.xr hx).mul (Sym.pow (((j : Int) + 1) * p))
      rw [if_pos h1, if_neg (by omega), if_pos (by omega), xr_assoc hS hD (hm.mul hP), xr_comm hD (hm.mul hP), ← xr_assoc hS (hm.mul hP) hD]
    · by_cases h2 : p = m
      · subst h2
        have hA := hm.mul hP
        have hX := hx.mul hP
        rw [if_neg h1, if_pos rfl, if_pos (by omega), xr_mulI hP hm hx, xr_assoc hS hA (hA.xr hX), ← xr_assoc hA hA hX, xr_self hA, zero_xr hX]
      · rw [if_neg h1, if_neg h2, if_neg (by omega)]
theorem synV_set {xs : List Int} (h : symL xs = true) {p : Nat} (hp : p < xs.length) {x : Int} (hx : Sym x) (j : Nat) :
    synV (xs.set p x) j = xr (synV xs j) (mulI (xr (xs[p]?.getD 0) x) (powI (((j : Int) + 1) * p))) := by
  unfold synV
  rw [List.length_set, synTo_set h hp hx, if_pos hp]

/-- The symbol that stood at a place. -/
def old (xs ps : List Int) (i : Nat) : Int := xs[pl ps i]?.getD 0
theorem old_sym {xs : List Int} (h : symL xs = true) (ps : List Int) (i : Nat) : Sym (old xs ps i) := symD h _
theorem pl_lt {ps : List Int} (h : Pl ps) {i : Nat} (hi : i < ps.length) : pl ps i < 15 := by
  obtain ⟨p, hp, e⟩ := place_nat h hi
  unfold pl; rw [e]; simpa using hp
theorem pl_cast {ps : List Int} (h : Pl ps) {i : Nat} (hi : i < ps.length) : ps[i]?.getD 0 = (pl ps i : Int) := by
  obtain ⟨p, hp, e⟩ := place_nat h hi
  unfold pl; rw [e]; simp
theorem pl_ne {ps : List Int} (h : Pl ps) {i k : Nat} (hi : i < k) (hk : k < ps.length) : pl ps i ≠ pl ps k := by
  intro e
  have e2 : ps[i]?.getD 0 = ps[k]?.getD 0 := by rw [pl_cast h (by omega), pl_cast h hk, e]
  rw [List.getElem?_eq_getElem (by omega), List.getElem?_eq_getElem hk] at e2
  have := (List.getElem_inj h.nodup).1 (by simpa using e2)
  omega
theorem zto_other {xs ps : List Int} {q : Nat} : ∀ k, (∀ i, i < k → pl ps i ≠ q) → (zto xs ps k)[q]? = xs[q]?
  | 0, _ => rfl
  | k + 1, h => by
    show ((zto xs ps k).set _ 0)[q]? = _
    rw [List.getElem?_set_ne (h k (by omega)), zto_other k fun i hi => h i (by omega)]
theorem fto_other {xs ps : List Int} {F : Vec} {q : Nat} : ∀ k, (∀ i, i < k → pl ps i ≠ q) → (fto xs ps F k)[q]? = xs[q]?
  | 0, _ => rfl
  | k + 1, h => by
    show ((fto xs ps F k).set _ _)[q]? = _
    rw [List.getElem?_set_ne (h k (by omega)), fto_other k fun i hi => h i (by omega)]
theorem zto_old {xs ps : List Int} (h : Pl ps) {k : Nat} (hk : k < ps.length) : (zto xs ps k)[pl ps k]?.getD 0 = old xs ps k := by
  rw [zto_other k fun i hi => pl_ne h hi hk]; rfl

theorem synV_zto {xs ps : List Int} (hl : xs.length = 15) (hs : symL xs = true) (h : Pl ps) (j : Nat) : ∀ k, k ≤ ps.length →
    synV (zto xs ps k) j = xr (synV xs j) (sumv k (fun i => vmul (old xs ps i) (V ps i)) j)
  | 0, _ => by show _ = xr _ 0; rw [xr_zero (synV_sym hs j)]; rfl
  | k + 1, hk => by
    have hT : Sym (sumv k (fun i => vmul (old xs ps i) (V ps i)) j) := sumv_sym (fun i _ => (V_sym ps i).smul (old_sym hs ps i)) j
    have hV : Sym (mulI (old xs ps k) (V ps k j)) := (old_sym hs ps k).mul (V_sym ps k j)
    show synV ((zto xs ps k).set (pl ps k) 0) j = xr _ (xr _ (mulI (old xs ps k) (V ps k j)))
    rw [synV_set (zto_sym hs k) (by rw [zto_len, hl]; exact pl_lt h (by omega)) Sym.zero, zto_old h (by omega), xr_zero (old_sym hs ps k), synV_zto hl hs h j k (by omega), ← pl_cast h (by omega),
      ← xr_assoc (synV_sym hs j) hT hV]
    rfl

theorem era {xs ps : List Int} (hl : xs.length = 15) (hs : symL xs = true) (h : Pl ps) :
    solOk ps (synV xs) = fillOk xs ps ∧ ∀ k, k < ps.length → fin ps (synV xs) k = xr (fin ps (synV (zto xs ps ps.length)) k) (old xs ps k) := by
  have hZ : SymV (synV (zto xs ps ps.length)) := synV_sym (zto_sym hs _)
  have ho := old_sym hs ps
  have hC : SymV (comb ps (old xs ps)) := comb_sym ho
  have e : Eq4 (synV xs) (vadd (synV (zto xs ps ps.length)) (comb ps (old xs ps))) := fun j _ => by
    show _ = xr (synV (zto xs ps ps.length) j) _
    rw [synV_zto hl hs h j _ (Nat.le_refl _)]
    exact (xr_cancel (synV_sym hs j) (hC j)).symm
  obtain ⟨c1, c2⟩ := sol_of h hC ho fun _ _ => rfl
  rw [solOk_iff] at c1
  obtain ⟨T, hT, hf, _⟩ := fin_lin h
  have key : ∀ j, j < 4 → fin ps (synV xs) j = xr (fin ps (synV (zto xs ps ps.length)) j) (fin ps (comb ps (old xs ps)) j) := fun j hj => by
    rw [hf _ (synV_sym hs), hT.congr _ _ e j hj, hT.add _ _ hZ hC, ← hf _ hZ, ← hf _ hC]
  refine ⟨?_, fun k hk => by rw [key k (by have := h.len; omega), c2 k hk]⟩
  have key2 : solOk ps (synV xs) = true ↔ fillOk xs ps = true := by
    unfold fillOk
    rw [solOk_iff, solOk_iff]
    have e3 : ∀ j, j < 4 → ps.length ≤ j → fin ps (synV xs) j = fin ps (synV (zto xs ps ps.length)) j := fun j hj hn => by
      rw [key j hj, c1 j hj hn, xr_zero (fin_sym h hZ j)]
    exact ⟨fun H j hj hn => by rw [← e3 j hj hn]; exact H j hj hn, fun H j hj hn => by rw [e3 j hj hn]; exact H j hj hn⟩
  cases a : solOk ps (synV xs) <;> cases b : fillOk xs ps <;> simp_all

/-- Values added at the first k places. -/
def chg (xs ps : List Int) (G : Vec) : Nat → List Int
  | 0 => xs
  | k + 1 => (chg xs ps G k).set (pl ps k) (xr ((chg xs ps G k)[pl ps k]?.getD 0) (G k))
theorem chg_len (xs ps : List Int) (G : Vec) (k : Nat) : (chg xs ps G k).length = xs.length := by induction k with | zero => rfl | succ k ih => simp [chg, ih]
theorem chg_fto {xs ps : List Int} (hs : symL xs = true) (h : Pl ps) {F G : Vec} (hF : SymV F) (e : ∀ k, k < ps.length → G k = xr (F k) (old xs ps k)) : ∀ k, k ≤ ps.length → chg xs ps G k = fto xs ps F k
  | 0, _ => rfl
  | k + 1, hk => by
    show (chg xs ps G k).set _ _ = (fto xs ps F k).set _ _
    have e1 : (fto xs ps F k)[pl ps k]?.getD 0 = old xs ps k := by rw [fto_other k fun i hi => pl_ne h hi (by omega)]; rfl
    rw [chg_fto hs h hF e k (by omega), e1, e k (by omega), xr_comm (old_sym hs ps k) ((hF k).xr (old_sym hs ps k)), xr_cancel (hF k) (old_sym hs ps k)]
theorem fto_set (ps : List Int) (F : Vec) (xs : List Int) (p : Nat) (x y : Int) : ∀ k, (fto (xs.set p x) ps F k).set p y = (fto xs ps F k).set p y
  | 0 => by simp [fto]
  | k + 1 => by
    show ((fto (xs.set p x) ps F k).set _ _).set p y = ((fto xs ps F k).set _ _).set p y
    by_cases e : pl ps k = p
    · rw [e, List.set_set, List.set_set, fto_set ps F xs p x y k]
    · rw [List.set_comm _ _ e, fto_set ps F xs p x y k, List.set_comm _ _ e]
theorem fto_zto (xs ps : List Int) (F : Vec) : ∀ k, fto (zto xs ps k) ps F k = fto xs ps F k
  | 0 => rfl
  | k + 1 => by
    show (fto ((zto xs ps k).set (pl ps k) 0) ps F k).set (pl ps k) (F k) = (fto xs ps F k).set _ _
    rw [fto_set, fto_zto xs ps F k]

/-- What both come to. -/
theorem chg_fill {xs ps : List Int} (hl : xs.length = 15) (hs : symL xs = true) (h : Pl ps) (hok : fillOk xs ps = true) : chg xs ps (fin ps (synV xs)) ps.length = fillR xs ps := by
  unfold fillR
  rw [if_pos hok, fto_zto]
  exact chg_fto hs h (fin_sym h (synV_sym (zto_sym hs _))) (era hl hs h).2 _ (Nat.le_refl _)
theorem fillR_len (xs ps : List Int) : (fillR xs ps).length = xs.length := by
  unfold fillR; split
  · rw [fto_len, zto_len]
  · rw [zto_len]

/-- A list of rising numbers of a range. -/
def risAt (xs : List Int) (n : Int) (i : Nat) : Bool := inB (xs[i]?.getD 0) 0 (n - 1) && (decide (i = 0) || decide (xs[i - 1]?.getD 0 < xs[i]?.getD 0))
def risTo (xs : List Int) (n : Int) (m : Nat) : Bool := (List.range m).all (risAt xs n)
def rising (xs : List Int) (n : Int) : Bool := risTo xs n xs.length
theorem risTo_snoc (xs : List Int) (n : Int) (k : Nat) : risTo xs n (k + 1) = (risTo xs n k && risAt xs n k) := by simp [risTo, List.range_succ]
theorem ris_false {xs : List Int} {n : Int} {k : Nat} (hk : k < xs.length) (h : risAt xs n k = false) : rising xs n = false := by
  cases e : rising xs n
  · rfl
  · have := List.all_eq_true.1 e k (List.mem_range.2 hk)
    rw [h] at this; exact this.symm
theorem ris_mono {xs : List Int} {n : Int} (h : rising xs n = true) : ∀ i k, i < k → k < xs.length → xs[i]?.getD 0 < xs[k]?.getD 0 := by
  intro i k hik
  have h' := List.all_eq_true.1 h
  induction k with
  | zero => omega
  | succ k ih =>
    intro hk
    have := h' (k + 1) (List.mem_range.2 hk)
    simp only [risAt, Bool.and_eq_true, Bool.or_eq_true, decide_eq_true_eq] at this
    have h2 : xs[k]?.getD 0 < xs[k + 1]?.getD 0 := this.2.resolve_left (by omega)
    by_cases e : i = k
    · subst e; exact h2
    · exact Int.lt_trans (ih (by omega) (by omega)) h2
theorem ris_pl {ps : List Int} (h : rising ps 15 = true) (hl : ps.length ≤ 4) : Pl ps := by
  have h' := List.all_eq_true.1 h
  refine ⟨hl, fun p hp => ?_, ?_⟩
  · obtain ⟨i, hi, rfl⟩ := List.mem_iff_getElem.1 hp
    have := h' i (List.mem_range.2 hi)
    simp only [risAt, Bool.and_eq_true] at this
    have := inB_true this.1
    rw [List.getElem?_eq_getElem hi] at this
    simp only [Option.getD_some] at this
    omega
  · rw [List.nodup_iff_pairwise_ne, List.pairwise_iff_getElem]
    intro i j hi hj hij e
    have := ris_mono h i j hij hj
    rw [List.getElem?_eq_getElem hi, List.getElem?_eq_getElem hj] at this
    simp [e] at this

/-- EraseBlock. -/
def erOk (xs ps : List Int) : Bool := blkOk xs && decide (ps.length ≤ 4) && rising ps 15
def erGot (xs ps : List Int) : Bool := erOk xs ps && fillOk xs ps
def erR (xs ps : List Int) : List Int := if erGot xs ps then (fillR xs ps).drop 4 else []
theorem erR_len (xs ps : List Int) : (erR xs ps).length ≤ 15 := by
  unfold erR; split
  · rename_i h
    simp [erGot, erOk, blkOk] at h
    rw [List.length_drop, fillR_len]; omega
  · simp
end Go.Proofs.Ytlemielobmbadaa
namespace Go.Proofs.Ytlemielobmbadaa
open Go.RowKit
set_option maxRecDepth 100000

set_option maxHeartbeats 1600000 in
set_option maxRecDepth 100000 in
theorem isSet_any (v : Value) (xs : List Int) (w : World) (h : Rd w v xs) :
    Calls Try.prog 77 #[v, .int .i64 15] w fun e w' => e = .returned (.bool (rising xs 15)) ∧ w = w' := by
  obtain ⟨a, cap, n, HX, rfl, _, hla, ha⟩ := h.opn
  have HN := Lib.hid (fun k => ris_false (xs := xs) (n := 15) (k := k))
  have HSN := Lib.hid (fun k => risTo_snoc xs 15 k)
  go_enter Try.func77, Try.ntmps77
  go_wp2
  go_loop [9] (fun i => ∃ k : Nat, k ≤ n ∧ i = .int .i64 k ∧ Hid (risTo xs 15 k = true)) (fun i => n - (intOf i).toNat)
  case atStart => exact ⟨0, by omega, rfl, rfl⟩
  case round =>
    obtain ⟨k, hk, rfl, HT⟩ := hrel
    by_cases hlt : k < n
    · obtain ⟨b, off, rfl, _, hc⟩ := ha (by omega)
      have hcell := hc k hlt
      rcases k with _ | k
      · clear hc
        rw [Nat.add_zero] at hcell
        cases he : inB (xs[0]?.getD 0) 0 14
        · have HF := Lib.hid (HN.out 0 (by rw [HX.out]; exact hlt) (by simp [risAt, he]))
          go_wp2_with (go_at_call 68; refine (within_any _ _ _ _).mono ?_; rintro e w' ⟨rfl, rfl⟩)
          go_ret
          exact ⟨by rw [HF.out]; rfl, rfl⟩
        · have HS := Lib.hid (show risTo xs 15 1 = true by rw [HSN.out]; simp [HT.out, risAt, he])
          go_wp2_with (go_at_call 68; refine (within_any _ _ _ _).mono ?_; rintro e w' ⟨rfl, rfl⟩)
          go_round
          case rel => exact ⟨1, by omega, by go_num, HS.out⟩
          case measure => simp [intOf]; omega
      · have hcell0 := hc k (by omega)
        clear hc
        cases he : inB (xs[k + 1]?.getD 0) 0 14
        · have HF := Lib.hid (HN.out (k + 1) (by rw [HX.out]; exact hlt) (by simp [risAt, he]))
          go_wp2_with (go_at_call 68; refine (within_any _ _ _ _).mono ?_; rintro e w' ⟨rfl, rfl⟩)
          go_ret
          exact ⟨by rw [HF.out]; rfl, rfl⟩
        · by_cases hlt2 : xs[k]?.getD 0 < xs[k + 1]?.getD 0
          · have HS := Lib.hid (show risTo xs 15 (k + 1 + 1) = true by rw [HSN.out]; simp [HT.out, risAt, he, hlt2])
            go_wp2_with (go_at_call 68; refine (within_any _ _ _ _).mono ?_; rintro e w' ⟨rfl, rfl⟩)
            go_round
            case rel => exact ⟨k + 1 + 1, by omega, by go_num, HS.out⟩
            case measure => simp [intOf]; omega
          · have HF := Lib.hid (HN.out (k + 1) (by rw [HX.out]; exact hlt) (by simp [risAt, he]; omega))
            go_wp2_with (go_at_call 68; refine (within_any _ _ _ _).mono ?_; rintro e w' ⟨rfl, rfl⟩)
            go_ret
            exact ⟨by rw [HF.out]; rfl, rfl⟩
    · obtain rfl : k = n := by omega
      have HH := Lib.hid (show rising xs 15 = true by unfold rising; rw [HX.out]; exact HT.out)
      go_wp2
      go_ret
      exact ⟨by rw [HH.out]; rfl, rfl⟩

set_option maxHeartbeats 800000 in
set_option maxRecDepth 100000 in
theorem clone_any (v : Value) (xs : List Int) (w : World) (h : Rd w v xs) (h0 : 0 < xs.length) (hl : xs.length ≤ 1000000) :
    Calls Try.prog 88 #[v] w fun e w' => ∃ v', e = .returned v' ∧ Own w' w.heap.size v' xs ∧ Below w.heap.size w w' := by
  have hrd := h.belowAll (((Below.refl _ _).alloc (Nat.le_refl _) _ : Below w.heap.size w (w.alloc (.cells #[] 3))))
  have hown0 : (w.alloc (.cells #[] 3)).ownsRow w.heap.size 3 1 (.slice (some ⟨w.heap.size, 0, none⟩) 0 0) 0 (ints []) :=
    World.ownsRow_lit (base := w.heap.size) (e := 3) (size := 1) w #[] 0 (Nat.le_refl _) (by simp) rfl
  obtain ⟨a, cap, n, HX, rfl, _, _, ha⟩ := h.opn
  obtain ⟨b, off, rfl, _, _⟩ := ha (by rw [← HX.out]; exact h0)
  have hnil : ∀ w : World, (binOp .eql 24 (.slice (some ⟨b, off, none⟩) n cap) (.slice none 0 0)).run Try.prog w = .ok (.bool false) w := fun _ => rfl
  go_enter Try.func88, Try.ntmps88
  go_wp2_with (at_builtin; refine wpList_cat rfl (.tmp 5) (.tmp 6) 24 rfl Try.underlying24 Try.infoInt w.heap.size (.slice (some ⟨w.heap.size, 0, none⟩) 0 0) 0 [] rfl hown0 _ xs rfl hrd h0 (by omega) (by simp) ?_; intro v' w1 hown1 hgrow1)
  go_ret
  exact ⟨_, rfl, own_of_row hown1, ((Below.refl _ _).alloc (Nat.le_refl _) _).grown hgrow1 (by simp) (fun k hk => by have e : w.heap.size = k := (by simpa [Value.ownBlock] using hk); exact Nat.le_of_eq e)⟩
end Go.Proofs.Ytlemielobmbadaa
