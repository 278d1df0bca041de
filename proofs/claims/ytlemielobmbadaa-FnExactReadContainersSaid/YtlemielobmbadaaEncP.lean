/- Plain Lean: the code block of a data block. -/
import Derived.Test.YtlemielobmbadaaFillW
namespace Go.Proofs.Ytlemielobmbadaa
open Go.RowKit

def ps0 : List Int := [0, 1, 2, 3]
theorem pl0 : Pl ps0 := ⟨by decide, by decide, by decide⟩
def blk0 (data : List Int) : List Int := [0, 0, 0, 0] ++ data
def datOk (data : List Int) : Bool := decide (data.length = 11) && symL data
def encL (data : List Int) : List Int := fillR (blk0 data) ps0
def encR (data : List Int) : List Int := if datOk data then encL data else []
theorem datOk_parts {data : List Int} (h : datOk data = true) : data.length = 11 ∧ symL data = true := by simpa [datOk] using h
theorem blk0_sym {data : List Int} (h : symL data = true) : symL (blk0 data) = true := by
  simp only [symL, blk0, List.all_append, Bool.and_eq_true] at *
  exact ⟨by decide, h⟩
theorem fin_congr {ps : List Int} (h : Pl ps) {u v : Vec} (hu : SymV u) (hv : SymV v) (e : Eq4 u v) : Eq4 (fin ps u) (fin ps v) := by
  obtain ⟨T, hT, hf, _⟩ := fin_lin h
  rw [hf u hu, hf v hv]
  exact hT.congr u v e
theorem solOk_congr {ps : List Int} (h : Pl ps) {u v : Vec} (hu : SymV u) (hv : SymV v) (e : Eq4 u v) : solOk ps u = solOk ps v := by
  have hc := fin_congr h hu hv e
  have key : solOk ps u = true ↔ solOk ps v = true := by
    rw [solOk_iff, solOk_iff]
    exact ⟨fun H j hj hl => by rw [← hc j hj]; exact H j hj hl, fun H j hj hl => by rw [hc j hj]; exact H j hj hl⟩
  cases e1 : solOk ps u <;> cases e2 : solOk ps v <;> simp_all
theorem sol_congr {ps : List Int} (h : Pl ps) {u v : Vec} (hu : SymV u) (hv : SymV v) (e : Eq4 u v) : sol ps u = sol ps v := by
  unfold sol
  apply List.map_congr_left
  intro i hi
  exact fin_congr h hu hv e i (by have := List.mem_range.1 hi; have := h.len; omega)
theorem solR_congr {ps : List Int} (h : Pl ps) {u v : Vec} (hu : SymV u) (hv : SymV v) (e : Eq4 u v) : solR ps u = solR ps v := by
  unfold solR; rw [solOk_congr h hu hv e, sol_congr h hu hv e]
/-- The syndromes, as solved is handed them. -/
theorem synV_wv (xs : List Int) : Eq4 (wv (synTo xs 0 xs.length) (synTo xs 1 xs.length) (synTo xs 2 xs.length) (synTo xs 3 xs.length)) (synV xs) := by
  intro j hj
  rcases j with _ | _ | _ | _ | j <;> first | rfl | omega
theorem synV_wv_sym {xs : List Int} (h : symL xs = true) : SymV (wv (synTo xs 0 xs.length) (synTo xs 1 xs.length) (synTo xs 2 xs.length) (synTo xs 3 xs.length)) :=
  wv_sym (synTo_bd h _ _) (synTo_bd h _ _) (synTo_bd h _ _) (synTo_bd h _ _)
theorem solR_syn {ps xs : List Int} (h : Pl ps) (hs : symL xs = true) :
    solR ps (wv (synTo xs 0 xs.length) (synTo xs 1 xs.length) (synTo xs 2 xs.length) (synTo xs 3 xs.length)) = solR ps (synV xs) ∧
    solOk ps (wv (synTo xs 0 xs.length) (synTo xs 1 xs.length) (synTo xs 2 xs.length) (synTo xs 3 xs.length)) = solOk ps (synV xs) :=
  ⟨solR_congr h (synV_wv_sym hs) (synV_sym hs) (synV_wv xs), solOk_congr h (synV_wv_sym hs) (synV_sym hs) (synV_wv xs)⟩

theorem solOk0 (want : Vec) : solOk ps0 want = true := solOk_iff.2 fun j hj hl => by simp [ps0] at hl; omega
theorem zto0 (data : List Int) : zto (blk0 data) ps0 4 = blk0 data := by simp [zto, blk0, ps0, pl]
theorem encL_eq (data : List Int) : encL data = solR ps0 (synV (blk0 data)) ++ data := by
  have hl : ps0.length = 4 := rfl
  unfold encL fillR fillOk solR
  rw [solOk0, if_pos rfl, solOk0, if_pos rfl, hl, zto0]
  simp [fto, blk0, ps0, pl, sol, List.range_succ]
theorem encL_len {data : List Int} (h : data.length = 11) : (encL data).length = 15 := by
  rw [encL_eq]; unfold solR; rw [solOk0, if_pos rfl]; simp [sol, ps0, h]
theorem encR_len (data : List Int) : (encR data).length ≤ 15 := by
  unfold encR; split
  · rename_i h; rw [encL_len (datOk_parts h).1]; omega
  · simp

end Go.Proofs.Ytlemielobmbadaa
