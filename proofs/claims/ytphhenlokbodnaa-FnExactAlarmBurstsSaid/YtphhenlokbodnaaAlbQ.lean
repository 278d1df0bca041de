/- Laws: an element of a row of integer rows turned; facts of the bursts' walks. -/
import Derived.Test.YtphhenlokbodnaaAlbP
import Derived.Test.YtphhenlokbodnaaPsh
import Derived.Test.YtphhenlokbodnaaNetP
import Derived.Test.YtphhenlokbodnaaSymW
namespace Go.Proofs.Ytphhenlokbodnaa
open Go.RowKit

theorem Grw.deepI {w W : World} {base n : Nat} {T : TypeId} {v : Value} {R : List (List Int)} (h : Grw w base T 1 v n (R.map inD)) {j : Nat} (hj : j < R.length) (hb : base ≤ w.heap.size) (hB : Below base W w) :
    ∃ g cap u, v = .slice (some ⟨g, 0, none⟩) n cap ∧ w.cell? ⟨g, j, none⟩ = some u ∧ g < w.heap.size ∧ Own w base u (R[j]?.getD []) ∧ (∀ k, u.ownBlock = some k → k ≠ g) ∧
      ∀ (w' : World) (u' : Value) (xs' : List Int), Own w' base u' xs' → (∀ k, u'.ownBlock = some k → u.ownBlock = some k ∨ w.heap.size ≤ k) → w.grownBy w' u.ownBlock →
        (∃ u0, w'.cell? ⟨g, j, none⟩ = some u0) ∧ w'.frozen? ⟨g, j, none⟩ = false ∧ Grw (w'.setCell ⟨g, j, none⟩ u') base T 1 v n ((R.set j xs').map inD) ∧ Below base W (w'.setCell ⟨g, j, none⟩ u') := by
  have hd : (R.map inD)[j]? = some (inD (R[j]?.getD [])) := by rw [List.getElem?_map, List.getElem?_eq_getElem hj]; rfl
  obtain ⟨g, cap, u, f, rfl, h1, h2, h3, h4, h5, h6, h7, h8⟩ := h.deep hd
  have hf := inD_fp h4
  have ho := (h4.toOwn (fun k hk => (h6 k hk).1)).1
  refine ⟨g, cap, u, rfl, h1, h3, ho, fun k hk e => h7 (by rw [hf, hk, ← e]; simp), fun w' u' xs' o hk hg => ?_⟩
  have hwr : Wr w w' f := Wr.of_grown hg (fun k hk => by rw [hf, hk]; simp)
  have hfn : u'.ownBlock.toList.Nodup := by cases u'.ownBlock <;> simp
  obtain ⟨q1, q2, q3⟩ := h8 w' (inD xs') u' u'.ownBlock.toList o.odt hfn (fun k hk' => by
    have : u'.ownBlock = some k := by simpa using hk'
    rcases hk k this with e | e
    · exact .inl (by rw [hf, e]; simp)
    · exact .inr e) hb hwr
  refine ⟨q1, q2, ?_, ?_⟩
  · rw [List.map_set]; exact q3
  · exact (hwr.below hB hb (fun k hk => (h6 k hk).1)).setCell h2 _
theorem albOk_sz {zs : List Alm} {gap : Int} (h : ¬ zs.length ≤ 40) : albOk zs gap = false := by unfold albOk; rw [decide_eq_false h]; rfl
theorem albOk_gap {zs : List Alm} {gap : Int} (h : inB gap 0 1000000 = false) : albOk zs gap = false := by unfold albOk; rw [h]; simp
theorem albOk_at {zs : List Alm} {gap : Int} {i : Nat} (hi : i < zs.length) (h : alOk zs i = false) : albOk zs gap = false := by unfold albOk; rw [rng_no hi h]; simp
theorem albOk_all {zs : List Alm} {gap : Int} (h1 : zs.length ≤ 40) (h2 : inB gap 0 1000000 = true) (h3 : ∀ i, i < zs.length → alOk zs i = true) : albOk zs gap = true := by unfold albOk; rw [rng_yes h3, decide_eq_true h1, h2]; rfl
theorem AlbP.no {zs : List Alm} {gap : Int} {w w' : World} {v : Value} (h : albOk zs gap = false) (ho : Ofr w' w.heap.size (ssD []) v) (hb : Below w.heap.size w w') : AlbP zs gap w (.returned (.tuple #[v, .bool false])) w' :=
  ⟨v, by rw [h], by unfold albR; rw [h]; exact ho, hb⟩
theorem AlbP.nil {zs : List Alm} {gap : Int} {w w' : World} (h : albOk zs gap = false) (hb : Below w.heap.size w w') : AlbP zs gap w (.returned (.tuple #[.slice none 0 0, .bool false])) w' :=
  AlbP.no h (Ofr.nil _ _ _) hb
theorem AlbP.yes {zs : List Alm} {gap : Int} {w w' : World} {v : Value} (h : albOk zs gap = true) (ho : Ofr w' w.heap.size (ssD (rwS zs gap zs.length)) v) (hb : Below w.heap.size w w') : AlbP zs gap w (.returned (.tuple #[v, .bool true])) w' :=
  ⟨v, by rw [h], by unfold albR; rw [h]; exact ho, hb⟩
theorem rwA_len (zs : List Alm) (gap : Int) (k : Nat) : (rwA zs gap k).length ≤ k := by
  induction k with
  | zero => simp [rwA]
  | succ k ih =>
    show (addL _ _).length ≤ k + 1
    rw [addL_len, rwB_len]; split <;> omega
theorem rwA_pos (zs : List Alm) (gap : Int) (k : Nat) (h : 0 < k) : 0 < (rwA zs gap k).length := by
  induction k with
  | zero => omega
  | succ k ih =>
    show 0 < (addL _ _).length
    rw [addL_len, rwB_len]
    split
    · omega
    · rename_i hn
      refine ih (Nat.pos_of_ne_zero fun e => ?_)
      subst e; simp [newB] at hn
theorem rwA_row (zs : List Alm) (gap : Int) (k j : Nat) : ((rwA zs gap k)[j]?.getD []).length ≤ k := by
  induction k generalizing j with
  | zero => simp [rwA]
  | succ k ih =>
    have hB : ∀ j, ((rwB zs gap k (rwA zs gap k))[j]?.getD []).length ≤ k := fun j => by
      unfold rwB; split
      · rw [List.getElem?_append]
        split
        · exact ih j
        · rcases Nat.eq_zero_or_pos (j - (rwA zs gap k).length) with e | e
          · rw [e]; simp
          · rw [List.getElem?_eq_none (by simp; omega)]; simp
      · exact ih j
    show ((addL (rwB zs gap k (rwA zs gap k)) (lastL (rwB zs gap k (rwA zs gap k)) ++ [(alA zs k).l]))[j]?.getD []).length ≤ k + 1
    unfold addL lastL
    rw [List.getElem?_set]
    split
    · split
      · rw [Option.getD_some, List.length_append]; have := hB ((rwB zs gap k (rwA zs gap k)).length - 1); simp; omega
      · simp
    · have := hB j; omega
theorem rwS_len (zs : List Alm) (gap : Int) (k : Nat) : (rwS zs gap k).length = (rwA zs gap k).length := by rw [← rw_map]; simp
theorem rwS_row (zs : List Alm) (gap : Int) (k j : Nat) : ((rwS zs gap k)[j]?.getD []).length ≤ k := by
  by_cases h : j < (rwS zs gap k).length
  · have := tot_mem h; have := rwS_tot zs gap k; omega
  · rw [List.getElem?_eq_none (by omega)]; simp

/-! ### A list's law as one step of a drawn region -/
theorem upon_mono {P : Program} {o : Oper} {a : Act} {K K' : Act → World → Prop} {Q Q' : Exit → Act → World → Prop} (hK : ∀ a w, K a w → K' a w) (hQ : ∀ e a w, e ≠ .normal → Q e a w → Q' e a w) {r} (h : o.upon P a K Q r) : o.upon P a K' Q' r := by
  unfold Oper.upon at h ⊢
  split at h
  all_goals first
    | exact hK _ _ h
    | exact hQ _ _ _ (by simp) h
    | exact h
    | (refine Calls.mono h ?_
       rintro e w' hh
       cases e
       · exact hK _ _ hh
       · exact hQ _ _ _ (by simp) hh
       · obtain ⟨a2, w2, q⟩ := hh; exact ⟨a2, w2, hQ _ _ _ (by simp) q⟩)
    | (refine Rows.mono h ?_
       intro v w' hh
       exact hK _ _ hh)
theorem step_of_list {P : Program} {ops : Array Oper} {o : Oper} {a : Act} {w : World} {K : Act → World → Prop} {Q : Exit → Act → World → Prop} {E : Prop} (hg : o.guard = none)
    (h : wpList P ops (fun e a' w' => e = .normal ∧ K a' w') [o] a w) : if Region.wanted o (yielded ops a.tmps) = true then Oper.wp P o a w K Q else E := by
  have hw : Region.wanted o (yielded ops a.tmps) = true := by simp [Region.wanted, hg]
  rw [if_pos hw]
  unfold wpList at h
  rw [if_pos hw] at h
  rcases h with h | ⟨-, a2, w2, h, -⟩
  · unfold Oper.wp at h ⊢
    refine upon_mono (fun a w hh => ?_) (fun e a w hne hh => ?_) h
    · unfold wpList at hh; exact hh.2
    · exact absurd hh.1 hne
  · cases h
theorem grown_drew {w w' : World} {r : Option Nat} (h : w.drew.grownBy w' r) : w.grownBy w' r := ⟨h.os, h.tape, h.output, h.size, fun k hk hn => h.block k hk hn⟩

/-! ### Rows made sets, one after the other -/
def updU (R : List (List Int)) (k : Nat) : List (List Int) := (R.take k).map ust ++ R.drop k
theorem updU_zero (R : List (List Int)) : updU R 0 = R := by simp [updU]
theorem updU_len (R : List (List Int)) (k : Nat) : (updU R k).length = R.length := by simp [updU]; omega
theorem updU_all {R : List (List Int)} {k : Nat} (h : R.length ≤ k) : updU R k = R.map ust := by simp [updU, List.take_of_length_le h, List.drop_of_length_le h]
theorem updU_at {R : List (List Int)} {k : Nat} (h : k < R.length) : (updU R k)[k]?.getD [] = R[k]?.getD [] := by
  unfold updU
  rw [List.getElem?_append_right (by simp; omega)]
  simp [Nat.min_eq_left (Nat.le_of_lt h)]
theorem updU_succ {R : List (List Int)} {k : Nat} (h : k < R.length) : (updU R k).set k (ust (R[k]?.getD [])) = updU R (k + 1) := by
  unfold updU
  have hl : ((R.take k).map ust).length = k := by simp; omega
  rw [List.set_append_right _ _ (by omega), hl, Nat.sub_self, List.drop_eq_getElem_cons h, List.set_cons_zero, List.take_add_one, List.getElem?_eq_getElem h, List.map_append, List.append_assoc]
  rfl
theorem Grw.startU {w : World} {base n : Nat} {T : TypeId} {v : Value} {R : List (List Int)} (h : Grw w base T 1 v n (R.map inD)) : Grw w base T 1 v n ((updU R 0).map inD) := by rw [updU_zero]; exact h
end Go.Proofs.Ytphhenlokbodnaa
