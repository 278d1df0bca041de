/- The block of 20 numbers in which the equations are solved. -/
import Derived.Test.YtlemielobmbadaaSolR
import Derived.Test.YtlemielobmbadaaBa12
import Derived.Deep.WholeRow
import Derived.Deep.MidRow
namespace Go.Proofs.Ytlemielobmbadaa
open Go.RowKit

def flat (M : Mat) : List Int := (List.range 20).map fun t => M (t / 5) (t % 5)
theorem flat_len (M : Mat) : (flat M).length = 20 := by simp [flat]
theorem at_lt {j c : Nat} (hj : j < 4) (hc : c < 5) : j * 5 + c < 20 := by omega
theorem flat_get (M : Mat) {j c : Nat} (hj : j < 4) (hc : c < 5) : (flat M)[j * 5 + c]?.getD 0 = M j c := by
  have h := at_lt hj hc
  simp only [flat, List.getElem?_map, List.getElem?_range h, Option.map_some, Option.getD_some]
  rw [show (j * 5 + c) / 5 = j from by omega, show (j * 5 + c) % 5 = c from by omega]
def upd (M : Mat) (j c : Nat) (v : Int) : Mat := fun j' c' => if j' = j ∧ c' = c then v else M j' c'
theorem flat_set (M : Mat) {j c : Nat} (hj : j < 4) (hc : c < 5) (v : Int) : (flat M).set (j * 5 + c) v = flat (upd M j c v) := by
  apply List.ext_getElem
  · simp [flat]
  · intro t h1 h2
    have ht : t < 20 := by simpa [flat] using h2
    rw [List.getElem_set]
    simp only [flat, List.getElem_map, List.getElem_range, upd]
    by_cases e : j * 5 + c = t
    · rw [if_pos e, if_pos (by omega)]
    · rw [if_neg e, if_neg (by omega)]
theorem flat_congr {M M' : Mat} (h : ∀ j, j < 4 → ∀ c, c < 5 → M j c = M' j c) : flat M = flat M' := by
  unfold flat
  apply List.map_congr_left
  intro t ht
  have := List.mem_range.1 ht
  exact h _ (by omega) _ (by omega)

/-- Block B holds the matrix. -/
def MatB (w : World) (base B : Nat) (M : Mat) : Prop := Own w base (.slice (some ⟨B, 0, none⟩) 20 20) (flat M)
theorem MatB.cell {w : World} {base B : Nat} {M : Mat} (h : MatB w base B M) {j c : Nat} (hj : j < 4) (hc : c < 5) : w.cell? ⟨B, j * 5 + c, none⟩ = some (.int .i64 (M j c)) := by
  have := (Own.cellAt h rfl).2 (j * 5 + c) (by rw [flat_len]; omega)
  rw [flat_get M hj hc, Nat.zero_add] at this
  exact this
theorem MatB.frozen {w : World} {base B : Nat} {M : Mat} (h : MatB w base B M) (o : Nat) : w.frozen? ⟨B, o, none⟩ = false := Own.frozenAt h rfl o
theorem MatB.set {w : World} {base B : Nat} {M : Mat} (h : MatB w base B M) {j c : Nat} (hj : j < 4) (hc : c < 5) (v : Int) :
    MatB (w.setCell ⟨B, j * 5 + c, none⟩ (.int .i64 v)) base B (upd M j c v) ∧ w.grownBy (w.setCell ⟨B, j * 5 + c, none⟩ (.int .i64 v)) (some B) := by
  have := Own.stored h rfl (j * 5 + c) (by rw [flat_len]; omega) v
  rw [flat_set M hj hc, Nat.zero_add] at this
  exact this
theorem MatB.congr {w : World} {base B : Nat} {M M' : Mat} (h : MatB w base B M) (e : ∀ j, j < 4 → ∀ c, c < 5 → M j c = M' j c) : MatB w base B M' := by
  unfold MatB at *; rw [← flat_congr e]; exact h
theorem MatB.lt {w : World} {base B : Nat} {M : Mat} (h : MatB w base B M) : base ≤ B ∧ B < w.heap.size := Own.lt h B rfl
theorem MatB.drew {w : World} {base B : Nat} {M : Mat} (h : MatB w base B M) : MatB w.drew base B M := h
theorem MatB.drewN {w : World} {base B : Nat} {M : Mat} (h : MatB w base B M) (n : Nat) : MatB (w.drewN n) base B M := h
theorem MatB.kept {w w' : World} {base B : Nat} {M : Mat} (h : MatB w base B M) (hk : w'.heap[B]? = w.heap[B]?) : MatB w' base B M := Own.kept h fun k hk' => by simp [Value.ownBlock] at hk'; subst hk'; exact hk

/-- The right side, of its four numbers. -/
def wv (s0 s1 s2 s3 : Int) : Vec := fun j => if j = 0 then s0 else if j = 1 then s1 else if j = 2 then s2 else s3
theorem wv_sym {s0 s1 s2 s3 : Int} (h0 : Sym s0) (h1 : Sym s1) (h2 : Sym s2) (h3 : Sym s3) : SymV (wv s0 s1 s2 s3) := fun j => by
  unfold wv; split; exact h0; split; exact h1; split; exact h2; exact h3

/-- Filled so far: whole rows, and so many columns of the next. -/
def fillTo (ps : List Int) (want : Vec) (j c : Nat) : Mat := fun j' c' => if j' < j then vand ps want j' c' else if j' = j ∧ c' < c then V ps c' j else 0
theorem fill_zero (ps : List Int) (want : Vec) : flat (fillTo ps want 0 0) = List.replicate 20 0 := by
  have : flat (fillTo ps want 0 0) = flat fun _ _ => 0 := flat_congr fun j _ c _ => by simp [fillTo]
  rw [this]; rfl
theorem fill_step {ps : List Int} {want : Vec} {j c : Nat} : upd (fillTo ps want j c) j c (V ps c j) = fillTo ps want j (c + 1) := by
  funext j' c'
  unfold upd fillTo
  by_cases e : j' = j ∧ c' = c
  · obtain ⟨rfl, rfl⟩ := e
    rw [if_pos ⟨rfl, rfl⟩, if_neg (by omega), if_pos (by omega)]
  · rw [if_neg e]
    by_cases h1 : j' < j
    · rw [if_pos h1, if_pos h1]
    · rw [if_neg h1, if_neg h1]
      by_cases h2 : j' = j ∧ c' < c
      · rw [if_pos h2, if_pos (by omega)]
      · rw [if_neg h2, if_neg (by omega)]
theorem fill_next {ps : List Int} {want : Vec} {j : Nat} : upd (fillTo ps want j ps.length) j ps.length (want j) = fillTo ps want (j + 1) 0 := by
  funext j' c'
  unfold upd fillTo vand
  by_cases e : j' = j ∧ c' = ps.length
  · obtain ⟨rfl, rfl⟩ := e
    rw [if_pos ⟨rfl, rfl⟩, if_pos (by omega), if_neg (by omega), if_pos rfl]
  · rw [if_neg e]
    by_cases h1 : j' < j
    · rw [if_pos h1, if_pos (show j' < j + 1 by omega)]
    · rw [if_neg h1]
      by_cases h2 : j' = j
      · subst h2
        rw [if_pos (show j' < j' + 1 by omega)]
        by_cases h3 : c' < ps.length
        · rw [if_pos ⟨rfl, h3⟩, if_pos h3]
        · rw [if_neg (by omega), if_neg h3, if_neg (by omega)]
      · rw [if_neg (by omega), if_neg (by omega), if_neg (by omega)]
theorem fill_all {ps : List Int} {want : Vec} : ∀ j, j < 4 → ∀ c, c < 5 → fillTo ps want 4 0 j c = vand ps want j c := fun j hj c _ => by
  unfold fillTo; rw [if_pos hj]

/-- Scaled so far: so many columns of row k. -/
def sclTo (M : Mat) (k : Nat) (s : Int) (c : Nat) : Mat := fun j' c' => if j' = k ∧ c' < c then mulI (M k c') s else M j' c'
theorem scl_zero (M : Mat) (k : Nat) (s : Int) : sclTo M k s 0 = M := by funext j' c'; unfold sclTo; rw [if_neg (by omega)]
theorem scl_step {M : Mat} {k : Nat} {s : Int} {c : Nat} : upd (sclTo M k s c) k c (mulI (M k c) s) = sclTo M k s (c + 1) := by
  funext j' c'
  unfold upd sclTo
  by_cases e : j' = k ∧ c' = c
  · obtain ⟨rfl, rfl⟩ := e; rw [if_pos ⟨rfl, rfl⟩, if_pos (by omega)]
  · rw [if_neg e]
    by_cases h2 : j' = k ∧ c' < c
    · rw [if_pos h2, if_pos (by omega)]
    · rw [if_neg h2, if_neg (by omega)]
theorem scl_at {M : Mat} {k : Nat} {s : Int} {c : Nat} : sclTo M k s c k c = M k c := by unfold sclTo; rw [if_neg (by omega)]
theorem scl_all {M : Mat} {n k : Nat} : sclTo M k (invI (M k k)) (n + 1) = scl M n k := by
  funext j' c'
  unfold sclTo scl
  by_cases h : j' = k ∧ c' ≤ n
  · rw [if_pos h, if_pos (by omega)]
  · rw [if_neg h, if_neg (by omega)]

/-- Cleared so far: whole rows, and so many columns of row j. -/
def clrTo (M : Mat) (n k j c : Nat) : Mat := fun j' c' => if (j' < j ∧ j' ≠ k ∧ c' ≤ n) ∨ (j' = j ∧ j ≠ k ∧ c' < c) then xr (M j' c') (mulI (M j' k) (M k c')) else M j' c'
theorem clr_zero (M : Mat) (n k : Nat) : clrTo M n k 0 0 = M := by funext j' c'; unfold clrTo; rw [if_neg (by omega)]
theorem clr_step {M : Mat} {n k j c : Nat} (hj : j ≠ k) (hc : c ≤ n) : upd (clrTo M n k j c) j c (xr (M j c) (mulI (M j k) (M k c))) = clrTo M n k j (c + 1) := by
  funext j' c'
  unfold upd clrTo
  by_cases e : j' = j ∧ c' = c
  · obtain ⟨rfl, rfl⟩ := e; rw [if_pos ⟨rfl, rfl⟩, if_pos (by omega)]
  · rw [if_neg e]
    by_cases h2 : (j' < j ∧ j' ≠ k ∧ c' ≤ n) ∨ (j' = j ∧ j ≠ k ∧ c' < c)
    · rw [if_pos h2, if_pos (by omega)]
    · rw [if_neg h2, if_neg (by omega)]
theorem clr_at {M : Mat} {n k j c : Nat} : clrTo M n k j c j c = M j c := by unfold clrTo; rw [if_neg (by omega)]
theorem clr_row {M : Mat} {n k j c c' : Nat} : clrTo M n k j c k c' = M k c' := by unfold clrTo; rw [if_neg (by omega)]
theorem clr_first {M : Mat} {n k j c : Nat} : clrTo M n k j 0 j c = M j c := by unfold clrTo; rw [if_neg (by omega)]
theorem clr_next {M : Mat} {n k j : Nat} (hj : j ≠ k) : clrTo M n k j (n + 1) = clrTo M n k (j + 1) 0 := by
  funext j' c'
  unfold clrTo
  by_cases h : (j' < j ∧ j' ≠ k ∧ c' ≤ n) ∨ (j' = j ∧ j ≠ k ∧ c' < n + 1)
  · rw [if_pos h, if_pos (by omega)]
  · rw [if_neg h, if_neg (by omega)]
theorem clr_skip {M : Mat} {n k : Nat} : clrTo M n k k 0 = clrTo M n k (k + 1) 0 := by
  funext j' c'
  unfold clrTo
  by_cases h : (j' < k ∧ j' ≠ k ∧ c' ≤ n) ∨ (j' = k ∧ k ≠ k ∧ c' < 0)
  · rw [if_pos h, if_pos (by omega)]
  · rw [if_neg h, if_neg (by omega)]
theorem clr_all {M : Mat} {n k : Nat} : ∀ j, j < 4 → ∀ c, c < 5 → clrTo M n k 4 0 j c = clr M n k j c := fun j hj c _ => by
  unfold clrTo clr
  by_cases h : j ≠ k ∧ c ≤ n
  · rw [if_pos h, if_pos (by omega)]
  · rw [if_neg h, if_neg (by omega)]

section
variable {P : Program}
/-- A new array of 20 zeros: 'build', 'alloc', 'store', without unrolling. -/
theorem mat_new {ops : Array Oper} {rest : List Oper} {o1 o2 o3 : Oper} {a : Act} {w : World} {Q : Exit → Act → World → Prop} (T : TypeId) (d1 d2 : Tmp)
    (h1 : o1.op = .build T #[]) (g1 : o1.guard = none) (e1 : o1.dst = some d1) (h2 : o2.op = .alloc T) (g2 : o2.guard = none) (e2 : o2.dst = some d2)
    (h3 : o3.op = .store T (.tmp d2) (.tmp d1)) (g3 : o3.guard = none) (e3 : o3.dst = none) (hd : d1 ≠ d2) (hb1 : d1 < a.tmps.size) (hb2 : d2 < a.tmps.size)
    (hbuilt : P.built T [] = some (zer 20)) (hinfo : (P.info? T).map (fun i => (i.zero, i.size)) = some (some (.agg (zer 20)), 20))
    (h : wpList P ops Q rest ((a.put (some d1) (.agg (zer 20))).put (some d2) (.pointer (some ⟨w.heap.size, 0, none⟩))) (w.alloc (.cells (zer 20) T))) :
    wpList P ops Q (o1 :: o2 :: o3 :: rest) a w := by
  obtain ⟨hz, hs⟩ := zero_of_info hinfo
  have hsz : (zer 20).size = 20 := by simp [zer]
  refine wpList_plain g1 fun K hK => ?_
  unfold Oper.wp execOp
  simp only [h1, List.map_toArray, List.map_nil, Sem.run_bind, Sem.run_pure, run_build w T #[] (zer 20) hbuilt, Result.andThen_ok, Array.map_empty, Oper.upon, e1]
  refine hK _ _ ?_
  refine wpList_plain g2 fun K hK => ?_
  unfold Oper.wp execOp
  simp only [h2, Instr.alloc, Sem.run_bind, Sem.run_pure, hz, Result.andThen_ok, newVar, newRow, Value.cells, Oper.upon, e2]
  refine hK _ _ ?_
  refine wpList_plain g3 fun K hK => ?_
  have x1 : Act.eval ((a.put (some d1) (.agg (zer 20))).put (some d2) (.pointer (some ⟨w.heap.size, 0, none⟩))) (.tmp d2) = .pointer (some ⟨w.heap.size, 0, none⟩) := by
    simp [Act.eval, Act.put, hb2]
  have x2 : Act.eval ((a.put (some d1) (.agg (zer 20))).put (some d2) (.pointer (some ⟨w.heap.size, 0, none⟩))) (.tmp d1) = .agg (zer 20) := by
    simp [Act.eval, Act.put, hb1, Ne.symm hd]
  have hst := run_storeAt_new (P := P) w T (zer 20) (zer 20) (by rw [hsz]; exact hs) rfl (Array.all_eq_true_iff_forall_mem.2 fun v hv => by simp [zer] at hv; rw [hv]; rfl)
  unfold Oper.wp execOp
  have hw : ((w.alloc (.cells (zer 20) T)) : World) = { w with heap := w.heap.push (.cells (zer 20) T) } := rfl
  rw [hw] at hst
  simp only [h3, x1, x2, Sem.run_bind, Sem.run_pure, hst, Result.andThen_ok, Oper.upon, e3]
  exact hK _ _ h
end
end Go.Proofs.Ytlemielobmbadaa
