/- Plain Lean: the elimination finds a pivot in every column, and what its last column says. No program in sight. -/
import Derived.Test.YtlemielobmbadaaSolQ
namespace Go.Proofs.Ytlemielobmbadaa
open Go.RowKit

/-- The column of a place. -/
def V (ps : List Int) (i : Nat) : Vec := fun j => powI (((j : Int) + 1) * (ps[i]?.getD 0))
theorem V_sym (ps : List Int) (i : Nat) : SymV (V ps i) := fun _ => Sym.pow _
/-- Places of a block: at most four, different. -/
structure Pl (ps : List Int) : Prop where
  len : ps.length ≤ 4
  rng : ∀ p ∈ ps, 0 ≤ p ∧ p ≤ 14
  nodup : ps.Nodup
def vand (ps : List Int) (want : Vec) : Mat := fun j c => if c < ps.length then V ps c j else if c = ps.length then want j else 0
theorem vand_sym {ps : List Int} {want : Vec} (h : SymV want) : SymM (vand ps want) := fun j c => by
  unfold vand; split
  · exact V_sym ps c j
  · split
    · exact h j
    · exact Sym.zero
theorem vand_col {ps : List Int} {want : Vec} {c : Nat} (hc : c < ps.length) : (fun j => vand ps want j c) = V ps c := funext fun j => by unfold vand; rw [if_pos hc]
theorem vand_last {ps : List Int} {want : Vec} : (fun j => vand ps want j ps.length) = want := funext fun j => by unfold vand; rw [if_neg (by omega), if_pos rfl]

/-- The first row from k on that is not 0. -/
def pivV (u : Vec) (k : Nat) : Nat := ((List.range 4).find? fun p => decide (k ≤ p) && decide (u p ≠ 0)).getD 4
theorem piv_eq (M : Mat) (k : Nat) : piv M k = pivV (fun j => M j k) k := rfl
theorem pivV_spec {u : Vec} {k : Nat} (h : ∃ p, p < 4 ∧ k ≤ p ∧ u p ≠ 0) : k ≤ pivV u k ∧ pivV u k < 4 ∧ u (pivV u k) ≠ 0 ∧ ∀ p, k ≤ p → p < pivV u k → u p = 0 := by
  obtain ⟨p, hp4, hkp, hu⟩ := h
  unfold pivV
  cases hf : (List.range 4).find? fun p => decide (k ≤ p) && decide (u p ≠ 0) with
  | none =>
    rw [List.find?_eq_none] at hf
    have := hf p (List.mem_range.2 hp4)
    simp [hkp, hu] at this
  | some q =>
    have h1 := List.find?_some hf
    have h2 := List.mem_of_find?_eq_some hf
    simp only [Bool.and_eq_true, decide_eq_true_eq] at h1
    refine ⟨h1.1, List.mem_range.1 h2, h1.2, fun r hkr hr => ?_⟩
    rw [List.find?_eq_some_iff_append] at hf
    obtain ⟨_, la, lb, e, hno⟩ := hf
    have hlen : la.length = q := by
      have : (List.range 4)[la.length]? = some q := by rw [e]; simp
      rw [List.getElem?_range] at this
      · simpa using this
      · have : la.length < (List.range 4).length := by rw [e]; simp
        simpa using this
    have hmem : r ∈ la := by
      have hr' : r < la.length := by rw [hlen]; exact hr
      have e3 : (List.range 4)[r]? = la[r]? := by rw [e, List.getElem?_append_left hr']
      rw [List.getElem?_range (by have := List.mem_range.1 h2; omega)] at e3
      exact List.mem_of_getElem? e3.symm
    have := hno r hmem
    simp only [Bool.not_eq_true', Bool.and_eq_false_iff, decide_eq_false_iff_not, Decidable.not_not] at this
    rcases this with h | h
    · omega
    · exact h

theorem psum_append (l : List (Int × Int)) (q : Int × Int) (hl : ∀ r ∈ l, Sym r.1 ∧ Sym r.2) (hq : Sym q.1 ∧ Sym q.2) (j : Nat) : psum (l ++ [q]) j = xr (psum l j) (mulI q.1 (npw q.2 j)) := by
  induction l with
  | nil =>
    have hs := hq.1.mul (hq.2.npw j)
    show xr (mulI q.1 (npw q.2 j)) 0 = xr 0 _
    rw [xr_zero hs, zero_xr hs]
  | cons r l ih =>
    have hr := hl r (by simp)
    have hl' : ∀ r ∈ l, Sym r.1 ∧ Sym r.2 := fun r h => hl r (by simp [h])
    show xr (mulI r.1 (npw r.2 j)) (psum (l ++ [q]) j) = xr (xr (mulI r.1 (npw r.2 j)) (psum l j)) _
    rw [ih hl', xr_assoc (hr.1.mul (hr.2.npw j)) (psum_sym hl' j) (hq.1.mul (hq.2.npw j))]

/-- The base of a place. -/
def al (ps : List Int) (i : Nat) : Int := powI (ps[i]?.getD 0)
theorem place_nat {ps : List Int} (h : Pl ps) {i : Nat} (hi : i < ps.length) : ∃ p : Nat, p < 15 ∧ ps[i]?.getD 0 = (p : Int) := by
  rw [List.getElem?_eq_getElem hi]
  have := h.rng ps[i] (List.getElem_mem hi)
  exact ⟨ps[i].toNat, by omega, by simp; omega⟩
theorem V_npw {ps : List Int} (h : Pl ps) {i : Nat} (hi : i < ps.length) (j : Nat) : V ps i j = mulI (al ps i) (npw (al ps i) j) := by
  obtain ⟨p, hp, e⟩ := place_nat h hi
  unfold V al
  rw [e]
  have := powI_mul p (j + 1)
  rw [show ((j : Int) + 1) = ((j + 1 : Nat) : Int) from by omega, this]
  rfl
theorem psum_sumv {ps : List Int} (h : Pl ps) {m : Nat} (hm : m ≤ ps.length) {x : Nat → Int} (hx : ∀ i, Sym (x i)) (j : Nat) :
    psum ((List.range m).map fun i => (mulI (x i) (al ps i), al ps i)) j = sumv m (fun i => vmul (x i) (V ps i)) j := by
  induction m with
  | zero => rfl
  | succ m ih =>
    have hs : ∀ r ∈ (List.range m).map fun i => (mulI (x i) (al ps i), al ps i), Sym r.1 ∧ Sym r.2 := fun r hr => by
      obtain ⟨i, _, rfl⟩ := List.mem_map.1 hr
      exact ⟨(hx i).mul (Sym.pow _), Sym.pow _⟩
    rw [List.range_succ, List.map_append, List.map_singleton, psum_append _ _ hs ⟨(hx m).mul (Sym.pow _), Sym.pow _⟩, ih (by omega)]
    show xr _ (mulI (mulI (x m) (al ps m)) (npw (al ps m) j)) = xr _ (mulI (x m) (V ps m j))
    rw [V_npw h (by omega), mulI_assoc (hx m) (show Sym (al ps m) from Sym.pow _) ((show Sym (al ps m) from Sym.pow _).npw j)]
/-- Columns of different places are independent. -/
theorem V_indep {ps : List Int} (h : Pl ps) {m : Nat} (hm : m ≤ ps.length) {x : Nat → Int} (hx : ∀ i, Sym (x i)) (hz : ∀ j, j < 4 → sumv m (fun i => vmul (x i) (V ps i)) j = 0) : ∀ i, i < m → x i = 0 := by
  intro i hi
  have key := psum_indep ((List.range m).map fun i => (mulI (x i) (al ps i), al ps i))
    (fun q hq => by
      obtain ⟨i, hi, rfl⟩ := List.mem_map.1 hq
      have hi := List.mem_range.1 hi
      obtain ⟨p, hp, e⟩ := place_nat h (show i < ps.length by omega)
      refine ⟨(hx i).mul (Sym.pow _), Sym.pow _, ?_⟩
      unfold al; rw [e]; exact powI_ne p)
    (by
      rw [List.map_map]
      rw [List.nodup_iff_pairwise_ne, List.pairwise_map]
      refine List.Pairwise.imp_of_mem ?_ (List.nodup_iff_pairwise_ne.1 List.nodup_range)
      intro a b ha hb hab e
      have ha := List.mem_range.1 ha
      have hb := List.mem_range.1 hb
      obtain ⟨p, hp, e1⟩ := place_nat h (show a < ps.length by omega)
      obtain ⟨q, hq, e2⟩ := place_nat h (show b < ps.length by omega)
      have e3 : powI p = powI q := by
        have : al ps a = al ps b := e
        unfold al at this; rwa [e1, e2] at this
      have e4 := powI_inj hp hq e3
      apply hab
      have ea : ps[a]? = ps[b]? := by
        rw [List.getElem?_eq_getElem (by omega), List.getElem?_eq_getElem (by omega)] at *
        simp at e1 e2
        rw [e1, e2, e4]
      exact (List.getElem?_inj (by omega) h.nodup).1 ea)
    (fun j hj => by
      have hj : j < m := by simpa using hj
      rw [psum_sumv h hm hx]; exact hz j (by have := h.len; omega))
    (mulI (x i) (al ps i), al ps i) (List.mem_map.2 ⟨i, List.mem_range.2 hi, rfl⟩)
  obtain ⟨p, hp, e⟩ := place_nat h (show i < ps.length by omega)
  rcases mulI_eq_zero (hx i) (Sym.pow _) key with e0 | e0
  · exact e0
  · rw [e] at e0; exact absurd e0 (powI_ne p)

/-- The pivot of step k stands, and the matrix is as a linear map of the columns says. -/
structure Elim (ps : List Int) (k : Nat) (T : Vec → Vec) : Prop where
  lin : Lin T
  sym : ∀ want, SymV want → SymM (elims ps.length (vand ps want) k)
  col : ∀ want, SymV want → ∀ j c, c ≤ ps.length → elims ps.length (vand ps want) k j c = T (fun j => vand ps want j c) j
  unit : ∀ i, i < k → Eq4 (T (V ps i)) (Proofs.Ytlemielobmbadaa.unit i)

theorem elim_sym {n : Nat} {M : Mat} {k : Nat} (h : SymM M) (hp : M (piv M k) k ≠ 0) : SymM (elim n M k) := by
  have h1 : SymM (swp M k (piv M k)) := fun j c => by unfold swp; split; exact h _ _; split <;> exact h _ _
  have h2 : SymM (scl (swp M k (piv M k)) n k) := fun j c => by
    unfold scl; split
    · refine (h1 _ _).mul ((h1 _ _).inv ?_)
      unfold swp; rw [if_pos rfl]; exact hp
    · exact h1 _ _
  intro j c
  unfold elim clr; split
  · exact (h2 _ _).xr ((h2 _ _).mul (h2 _ _))
  · exact h2 _ _

theorem elim_pivot {ps : List Int} (h : Pl ps) {k : Nat} (hk : k < ps.length) {T : Vec → Vec} (e : Elim ps k T) : ∃ p, p < 4 ∧ k ≤ p ∧ T (V ps k) p ≠ 0 := by
  apply Classical.byContradiction
  intro hno
  have hw : ∀ p, p < 4 → k ≤ p → T (V ps k) p = 0 := fun p h1 h2 => Classical.byContradiction fun h3 => hno ⟨p, h1, h2, h3⟩
  have hws : SymV (T (V ps k)) := e.lin.sym _ (V_sym ps k)
  let x : Nat → Int := fun i => if i = k then 1 else T (V ps k) i
  have hx : ∀ i, Sym (x i) := fun i => by show Sym (if i = k then 1 else _); split; exact Sym.one; exact hws i
  let y : Vec := sumv k (fun i => vmul (T (V ps k) i) (V ps i))
  have hy : SymV y := sumv_sym fun i _ => (V_sym ps i).smul (hws i)
  have hTy : ∀ j, j < 4 → T y j = T (V ps k) j := fun j hj => by
    have e1 := e.lin.sumv (m := k) (f := fun i => vmul (T (V ps k) i) (V ps i)) (fun i _ => (V_sym ps i).smul (hws i)) j
    have e2 : sumv k (fun i => T (vmul (T (V ps k) i) (V ps i))) j = sumv k (fun i => vmul (T (V ps k) i) (Proofs.Ytlemielobmbadaa.unit i)) j :=
      sumv_congr fun i hi => by rw [e.lin.smul _ _ (hws i) (V_sym ps i)]; show mulI _ _ = mulI _ _; rw [e.unit i hi j hj]
    show T (sumv k _) j = _
    rw [e1, e2, sumv_units hws]
    split
    · rfl
    · exact (hw j hj (by omega)).symm
  have hzero : ∀ j, j < 4 → vadd y (V ps k) j = 0 := e.lin.ker _ (hy.add (V_sym ps k)) fun j hj => by
    rw [e.lin.add _ _ hy (V_sym ps k), hTy j hj, xr_self (hws j)]
  have hz : ∀ j, j < 4 → sumv (k + 1) (fun i => vmul (x i) (V ps i)) j = 0 := fun j hj => by
    have e3 : sumv k (fun i => vmul (x i) (V ps i)) j = y j := sumv_congr fun i hi => by
      show mulI (if i = k then 1 else _) _ = mulI _ _; rw [if_neg (by omega)]
    show xr (sumv k _ j) (mulI (if k = k then 1 else _) (V ps k j)) = 0
    rw [e3, if_pos rfl, mulI_comm' Sym.one (V_sym ps k j), mulI_one (V_sym ps k j)]
    exact hzero j hj
  have := V_indep h (show k + 1 ≤ ps.length by omega) hx hz k (by omega)
  have hxk : x k = 1 := if_pos rfl
  omega

theorem elim_next {ps : List Int} (h : Pl ps) {k : Nat} (hk : k < ps.length) {T : Vec → Vec} (e : Elim ps k T) :
    Elim ps (k + 1) (fun v => colT (T (V ps k)) (T v) k (pivV (T (V ps k)) k)) := by
  obtain ⟨p1, p2, p3, _⟩ := pivV_spec (elim_pivot h hk e)
  have hws : SymV (T (V ps k)) := e.lin.sym _ (V_sym ps k)
  have hcol : ∀ want, SymV want → (fun j => elims ps.length (vand ps want) k j k) = T (V ps k) := fun want hw => funext fun j => by
    rw [e.col want hw j k (by omega), vand_col hk]
  have hpiv : ∀ want, SymV want → piv (elims ps.length (vand ps want) k) k = pivV (T (V ps k)) k := fun want hw => by rw [piv_eq, hcol want hw]
  have hne : ∀ want, SymV want → elims ps.length (vand ps want) k (piv (elims ps.length (vand ps want) k) k) k ≠ 0 := fun want hw => by
    rw [hpiv want hw]
    have := congrFun (hcol want hw) (pivV (T (V ps k)) k)
    rw [this]; exact p3
  refine ⟨e.lin.col (by have := h.len; omega) p2 hws p3, fun want hw => elim_sym (e.sym want hw) (hne want hw), fun want hw j c hc => ?_, fun i hi j hj => ?_⟩
  · show elim ps.length (elims ps.length (vand ps want) k) k j c = _
    rw [elim_col (by omega) hc (e.sym want hw) (hne want hw), hpiv want hw, hcol want hw]
    have e2 : (fun j => elims ps.length (vand ps want) k j c) = T (fun j => vand ps want j c) := funext fun j => e.col want hw j c hc
    rw [e2]
  · by_cases hik : i = k
    · subst hik; exact colT_self hws p3 j
    · have e1 := colT_congr (u := T (V ps k)) (u' := T (V ps k)) (k := k) (p := pivV (T (V ps k)) k) (by have := h.len; omega) p2 (fun _ _ => rfl) (e.unit i (by omega)) j hj
      rw [e1]
      exact colT_unit hws p3 (by omega) p1 j

theorem elim_all {ps : List Int} (h : Pl ps) : ∀ k, k ≤ ps.length → ∃ T, Elim ps k T
  | 0, _ => ⟨fun v => v, Lin.id, fun _ hw => vand_sym hw, fun _ _ _ _ _ => rfl, fun i hi => absurd hi (by omega)⟩
  | k + 1, hk => let ⟨_, e⟩ := elim_all h k (by omega); ⟨_, elim_next h (by omega) e⟩

/-- At every step there is a pivot. -/
theorem elims_pivot {ps : List Int} (h : Pl ps) {want : Vec} (hw : SymV want) {k : Nat} (hk : k < ps.length) :
    let M := elims ps.length (vand ps want) k
    SymM M ∧ k ≤ piv M k ∧ piv M k < 4 ∧ M (piv M k) k ≠ 0 ∧ ∀ p, k ≤ p → p < piv M k → M p k = 0 := by
  intro M
  obtain ⟨T, e⟩ := elim_all h k (by omega)
  have hcol : (fun j => M j k) = T (V ps k) := funext fun j => by
    show elims ps.length (vand ps want) k j k = _
    rw [e.col want hw j k (by omega), vand_col hk]
  have := pivV_spec (elim_pivot h hk e)
  rw [← hcol] at this
  exact ⟨e.sym want hw, this⟩

/-- The last column, behind all steps. -/
def fin (ps : List Int) (want : Vec) : Vec := fun j => elims ps.length (vand ps want) ps.length j ps.length
def solOk (ps : List Int) (want : Vec) : Bool := (List.range 4).all fun j => decide (j < ps.length) || decide (fin ps want j = 0)
def sol (ps : List Int) (want : Vec) : List Int := (List.range ps.length).map (fin ps want)
theorem solOk_iff {ps : List Int} {want : Vec} : solOk ps want = true ↔ ∀ j, j < 4 → ps.length ≤ j → fin ps want j = 0 := by
  simp only [solOk, List.all_eq_true, List.mem_range, Bool.or_eq_true, decide_eq_true_eq]
  exact ⟨fun h j hj hl => (h j hj).resolve_left (by omega), fun h j hj => (Nat.lt_or_ge j ps.length).imp_right (h j hj)⟩

theorem fin_lin {ps : List Int} (h : Pl ps) : ∃ T, Lin T ∧ (∀ want, SymV want → fin ps want = T want) ∧ ∀ i, i < ps.length → Eq4 (T (V ps i)) (unit i) := by
  obtain ⟨T, e⟩ := elim_all h ps.length (Nat.le_refl _)
  exact ⟨T, e.lin, fun want hw => funext fun j => by
    show elims ps.length (vand ps want) ps.length j ps.length = _
    rw [e.col want hw j _ (Nat.le_refl _), vand_last], e.unit⟩
theorem fin_sym {ps : List Int} (h : Pl ps) {want : Vec} (hw : SymV want) : SymV (fin ps want) := by
  obtain ⟨T, hT, e, _⟩ := fin_lin h
  rw [e want hw]; exact hT.sym want hw
/-- The combination of the places' columns. -/
def comb (ps : List Int) (x : Nat → Int) : Vec := sumv ps.length fun i => vmul (x i) (V ps i)
theorem comb_sym {ps : List Int} {x : Nat → Int} (hx : ∀ i, Sym (x i)) : SymV (comb ps x) := sumv_sym fun i _ => (V_sym ps i).smul (hx i)
/-- What is a combination is solved, with the combination's coefficients. -/
theorem sol_of {ps : List Int} (h : Pl ps) {want : Vec} (hw : SymV want) {x : Nat → Int} (hx : ∀ i, Sym (x i)) (e : Eq4 want (comb ps x)) :
    solOk ps want = true ∧ ∀ i, i < ps.length → fin ps want i = x i := by
  obtain ⟨T, hT, hf, hu⟩ := fin_lin h
  have key : ∀ j, j < 4 → fin ps want j = if j < ps.length then x j else 0 := fun j hj => by
    rw [hf want hw, hT.congr _ _ e j hj]
    show T (sumv _ _) j = _
    rw [hT.sumv (fun i _ => (V_sym ps i).smul (hx i))]
    have e2 : sumv ps.length (fun i => T (vmul (x i) (V ps i))) j = sumv ps.length (fun i => vmul (x i) (unit i)) j :=
      sumv_congr fun i hi => by rw [hT.smul _ _ (hx i) (V_sym ps i)]; show mulI _ _ = mulI _ _; rw [hu i hi j hj]
    rw [e2, sumv_units hx]
  refine ⟨solOk_iff.2 fun j hj hl => ?_, fun i hi => ?_⟩
  · rw [key j hj, if_neg (by omega)]
  · rw [key i (by have := h.len; omega), if_pos hi]
/-- What is solved is the combination. -/
theorem sol_spec {ps : List Int} (h : Pl ps) {want : Vec} (hw : SymV want) (hok : solOk ps want = true) : Eq4 want (comb ps (fin ps want)) := by
  obtain ⟨T, hT, hf, hu⟩ := fin_lin h
  have hs := fin_sym h hw
  have hc : SymV (comb ps (fin ps want)) := comb_sym hs
  have key := sol_of h hc hs (fun _ _ => rfl)
  have hz : ∀ j, j < 4 → T (vadd want (comb ps (fin ps want))) j = 0 := fun j hj => by
    rw [hT.add _ _ hw hc, ← hf want hw, ← hf _ hc]
    have : fin ps (comb ps (fin ps want)) j = fin ps want j := by
      rcases Nat.lt_or_ge j ps.length with hl | hl
      · exact key.2 j hl
      · rw [solOk_iff.1 key.1 j hj hl, solOk_iff.1 hok j hj hl]
    rw [this, xr_self (hs j)]
  intro j hj
  exact xr_eq_zero (hw j) (hc j) (hT.ker _ (hw.add hc) hz j hj)

end Go.Proofs.Ytlemielobmbadaa
