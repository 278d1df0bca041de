/- Plain Lean: clearing columns as a linear map; the solution of the equations. No program in sight. -/
import Derived.Test.YtlemielobmbadaaBa05
namespace Go.Proofs.Ytlemielobmbadaa
open Go.RowKit

abbrev Vec := Nat → Int
def SymV (v : Vec) : Prop := ∀ j, Sym (v j)
def vadd (v w : Vec) : Vec := fun j => xr (v j) (w j)
def vmul (s : Int) (v : Vec) : Vec := fun j => mulI s (v j)
def unit (i : Nat) : Vec := fun j => if j = i then 1 else 0
theorem SymV.add {v w : Vec} (hv : SymV v) (hw : SymV w) : SymV (vadd v w) := fun j => (hv j).xr (hw j)
theorem SymV.smul {s : Int} {v : Vec} (hs : Sym s) (hv : SymV v) : SymV (vmul s v) := fun j => hs.mul (hv j)
theorem SymV.unit (i : Nat) : SymV (unit i) := fun j => by unfold Proofs.Ytlemielobmbadaa.unit; split; exact Sym.one; exact Sym.zero
/-- Equal in the four rows. -/
def Eq4 (v w : Vec) : Prop := ∀ j, j < 4 → v j = w j

theorem colT_sym {u v : Vec} {k p : Nat} (hu : SymV u) (hv : SymV v) (hp : u p ≠ 0) : SymV (colT u v k p) := by
  intro j
  have hi := (hu p).inv hp
  unfold colT
  split
  · exact (hv p).mul hi
  · refine Sym.xr ?_ (Sym.mul ?_ ((hv p).mul hi)) <;> split <;> first | exact hv _ | exact hu _
theorem colT_congr {u u' v v' : Vec} {k p : Nat} (hk : k < 4) (hp : p < 4) (hu : Eq4 u u') (hv : Eq4 v v') : Eq4 (colT u v k p) (colT u' v' k p) := by
  intro j hj
  unfold colT
  rw [hu p hp, hv p hp, hv k hk, hu k hk, hu j hj, hv j hj]
theorem colT_add {u v w : Vec} {k p : Nat} (hu : SymV u) (hv : SymV v) (hw : SymV w) (hp : u p ≠ 0) (j : Nat) : colT u (vadd v w) k p j = xr (colT u v k p j) (colT u w k p j) := by
  have hi := (hu p).inv hp
  unfold colT vadd
  by_cases hj : j = k
  · simp only [hj, if_true]; rw [xr_mulI hi (hv p) (hw p)]
  · simp only [hj, if_false]
    have ha : Sym (if j = p then u k else u j) := by split <;> exact hu _
    have hb : Sym (if j = p then v k else v j) := by split <;> exact hv _
    have hc : Sym (if j = p then w k else w j) := by split <;> exact hw _
    have e : (if j = p then xr (v k) (w k) else xr (v j) (w j)) = xr (if j = p then v k else v j) (if j = p then w k else w j) := by split <;> rfl
    rw [e, xr_mulI hi (hv p) (hw p), mulI_xr' ha ((hv p).mul hi) ((hw p).mul hi), xr_four hb hc (ha.mul ((hv p).mul hi)) (ha.mul ((hw p).mul hi))]
theorem colT_smul {u v : Vec} {s : Int} {k p : Nat} (hs : Sym s) (hu : SymV u) (hv : SymV v) (hp : u p ≠ 0) (j : Nat) : colT u (vmul s v) k p j = mulI s (colT u v k p j) := by
  have hi := (hu p).inv hp
  unfold colT vmul
  by_cases hj : j = k
  · simp only [hj, if_true]; rw [mulI_assoc hs (hv p) hi]
  · simp only [hj, if_false]
    have ha : Sym (if j = p then u k else u j) := by split <;> exact hu _
    have hb : Sym (if j = p then v k else v j) := by split <;> exact hv _
    have hm := (hv p).mul hi
    have e : (if j = p then mulI s (v k) else mulI s (v j)) = mulI s (if j = p then v k else v j) := by split <;> rfl
    rw [e, mulI_xr' hs hb (ha.mul hm)]
    congr 1
    rw [mulI_assoc hs (hv p) hi, ← mulI_assoc ha hs hm, mulI_comm' ha hs, mulI_assoc hs ha hm]
theorem colT_self {u : Vec} {k p : Nat} (hu : SymV u) (hp : u p ≠ 0) (j : Nat) : colT u u k p j = unit k j := by
  unfold colT unit
  by_cases hj : j = k
  · simp only [hj, if_true]; exact mulI_inv (hu p) hp
  · simp only [hj, if_false]
    have ha : Sym (if j = p then u k else u j) := by split <;> exact hu _
    rw [mulI_inv (hu p) hp, mulI_one ha, xr_self ha]
theorem colT_unit {u : Vec} {k p i : Nat} (hu : SymV u) (hp : u p ≠ 0) (hi : i < k) (hkp : k ≤ p) (j : Nat) : colT u (unit i) k p j = unit i j := by
  have hinv := (hu p).inv hp
  have e0 : mulI (unit i p) (invI (u p)) = 0 := by unfold unit; rw [if_neg (by omega), zero_mulI hinv]
  unfold colT
  rw [e0]
  by_cases hj : j = k
  · simp only [hj, if_true]; unfold unit; rw [if_neg (by omega)]
  · simp only [hj, if_false]
    have ha : Sym (if j = p then u k else u j) := by split <;> exact hu _
    rw [mulI_zero ha]
    have e1 : (if j = p then unit i k else unit i j) = unit i j := by
      split
      · rename_i h; subst h; unfold unit; rw [if_neg (by omega), if_neg (by omega)]
      · rfl
    rw [e1, xr_zero (SymV.unit i j)]
theorem colT_ker {u v : Vec} {k p : Nat} (hk : k < 4) (hp4 : p < 4) (hu : SymV u) (hv : SymV v) (hp : u p ≠ 0) (h : ∀ j, j < 4 → colT u v k p j = 0) : ∀ j, j < 4 → v j = 0 := by
  have hi := (hu p).inv hp
  have hvp : v p = 0 := by
    have e := h k hk
    unfold colT at e
    simp only [if_true] at e
    rcases mulI_eq_zero (hv p) hi e with e | e
    · exact e
    · have h1 := mulI_inv (hu p) hp
      rw [e, mulI_zero (hu p)] at h1
      omega
  have rest : ∀ j, j < 4 → j ≠ k → (if j = p then v k else v j) = 0 := fun j hj hjk => by
    have e := h j hj
    unfold colT at e
    simp only [hjk, if_false] at e
    have ha : Sym (if j = p then u k else u j) := by split <;> exact hu _
    have hb : Sym (if j = p then v k else v j) := by split <;> exact hv _
    rw [hvp, zero_mulI hi, mulI_zero ha, xr_zero hb] at e
    exact e
  intro j hj
  by_cases hjk : j = k
  · subst hjk
    by_cases hpk : p = j
    · rw [← hpk]; exact hvp
    · have := rest p hp4 hpk; rwa [if_pos rfl] at this
  · by_cases hjp : j = p
    · rw [hjp]; exact hvp
    · have := rest j hj hjk; rwa [if_neg hjp] at this

/-- Sums of so many vectors. -/
def sumv : Nat → (Nat → Vec) → Vec
  | 0, _ => fun _ => 0
  | m + 1, f => vadd (sumv m f) (f m)
theorem sumv_sym {m : Nat} {f : Nat → Vec} (h : ∀ i, i < m → SymV (f i)) : SymV (sumv m f) := by
  induction m with
  | zero => exact fun _ => Sym.zero
  | succ m ih => exact (ih fun i hi => h i (by omega)).add (h m (by omega))
theorem sumv_congr {m : Nat} {f g : Nat → Vec} {j : Nat} (h : ∀ i, i < m → f i j = g i j) : sumv m f j = sumv m g j := by
  induction m with
  | zero => rfl
  | succ m ih => show xr _ _ = xr _ _; rw [ih fun i hi => h i (by omega), h m (by omega)]

/-- A linear map of columns. -/
structure Lin (T : Vec → Vec) : Prop where
  sym : ∀ v, SymV v → SymV (T v)
  add : ∀ v w, SymV v → SymV w → ∀ j, T (vadd v w) j = xr (T v j) (T w j)
  smul : ∀ s v, Sym s → SymV v → ∀ j, T (vmul s v) j = mulI s (T v j)
  ker : ∀ v, SymV v → (∀ j, j < 4 → T v j = 0) → ∀ j, j < 4 → v j = 0
  congr : ∀ v w, Eq4 v w → Eq4 (T v) (T w)
theorem Lin.id : Lin fun v => v := ⟨fun _ h => h, fun _ _ _ _ _ => rfl, fun _ _ _ _ _ => rfl, fun _ _ h => h, fun _ _ h => h⟩
theorem Lin.col {T : Vec → Vec} (h : Lin T) {u : Vec} {k p : Nat} (hk : k < 4) (hp4 : p < 4) (hu : SymV u) (hp : u p ≠ 0) : Lin fun v => colT u (T v) k p where
  sym v hv := colT_sym hu (h.sym v hv) hp
  add v w hv hw j := by
    have e : T (vadd v w) = vadd (T v) (T w) := funext fun j => h.add v w hv hw j
    rw [e, colT_add hu (h.sym v hv) (h.sym w hw) hp]
  smul s v hs hv j := by
    have e : T (vmul s v) = vmul s (T v) := funext fun j => h.smul s v hs hv j
    rw [e, colT_smul hs hu (h.sym v hv) hp]
  ker v hv hz := h.ker v hv (colT_ker hk hp4 hu (h.sym v hv) hp hz)
  congr v w hvw := colT_congr hk hp4 (fun _ _ => rfl) (h.congr v w hvw)
theorem Lin.zero {T : Vec → Vec} (h : Lin T) : ∀ j, T (fun _ => 0) j = 0 := fun j => by
  have e := h.smul 0 (fun _ => 0) Sym.zero (fun _ => Sym.zero) j
  have e2 : vmul 0 (fun _ => (0 : Int)) = fun _ => 0 := funext fun _ => zero_mulI Sym.zero
  rw [e2, zero_mulI (h.sym _ (fun _ => Sym.zero) j)] at e
  exact e
theorem Lin.sumv {T : Vec → Vec} (h : Lin T) {m : Nat} {f : Nat → Vec} (hf : ∀ i, i < m → SymV (f i)) (j : Nat) : T (sumv m f) j = Proofs.Ytlemielobmbadaa.sumv m (fun i => T (f i)) j := by
  induction m with
  | zero => exact h.zero j
  | succ m ih =>
    show T (vadd _ _) j = xr _ _
    rw [h.add _ _ (sumv_sym fun i hi => hf i (by omega)) (hf m (by omega)), ih fun i hi => hf i (by omega)]
theorem sumv_units {w : Vec} (hw : SymV w) {k : Nat} (j : Nat) : sumv k (fun i => vmul (w i) (unit i)) j = if j < k then w j else 0 := by
  induction k with
  | zero => rfl
  | succ k ih =>
    show xr _ (mulI (w k) (unit k j)) = _
    rw [ih]
    unfold unit
    by_cases h1 : j < k
    · rw [if_pos h1, if_neg (by omega), if_pos (by omega), mulI_zero (hw k), xr_zero (hw j)]
    · rw [if_neg h1]
      by_cases h2 : j = k
      · subst h2; rw [if_pos rfl, if_pos (by omega), mulI_one (hw j), zero_xr (hw j)]
      · rw [if_neg h2, if_neg (by omega), mulI_zero (hw k), xr_zero Sym.zero]

end Go.Proofs.Ytlemielobmbadaa
