/- Joined: XCerP XCerW XCerS. -/
import Derived.Test.YtmkkdenhjfjmgaaGreatBz20
import Derived.Test.YtmkkdenhjfjmgaaGreatBz06
namespace Go.Proofs.YtmkkdenhjfjmgaaGreat
open Go.RowKit Go.Sort

def cerTo (L : List (List Int)) : Nat → List Int
  | 0 => []
  | k + 1 => ust (cmn (if k = 0 then L[0]?.getD [] else cerTo L k) (L[k]?.getD []))
def posTo (L : List (List Int)) (k : Nat) : List Int := (L.take k).flatten
def cerS (L : List (List Int)) (G : Nat) : List Int := ((List.range G).filter fun g : Nat => !L.isEmpty && L.all fun x => x.contains (g : Int)).map fun g : Nat => (g : Int)
def posS (L : List (List Int)) (G : Nat) : List Int := ((List.range G).filter fun g : Nat => L.any fun x => x.contains (g : Int)).map fun g : Nat => (g : Int)
theorem posTo_next {L : List (List Int)} {k : Nat} (hk : k < L.length) : posTo L (k + 1) = posTo L k ++ L[k]?.getD [] := by
  unfold posTo
  rw [List.take_add_one, List.flatten_append, List.getElem?_eq_getElem hk]; simp
theorem cerTo_first {L : List (List Int)} : cerTo L 1 = ust (cmn (L[0]?.getD []) (L[0]?.getD [])) := rfl
theorem cerTo_next {L : List (List Int)} {k : Nat} (hk : 0 < k) : cerTo L (k + 1) = ust (cmn (cerTo L k) (L[k]?.getD [])) := by
  show ust (cmn (if k = 0 then L[0]?.getD [] else cerTo L k) (L[k]?.getD [])) = _
  rw [if_neg (by omega)]
theorem cerTo_asc (L : List (List Int)) (k : Nat) : (cerTo L k).Pairwise (· < ·) := by
  cases k with
  | zero => exact List.Pairwise.nil
  | succ k => exact ust_asc _
theorem cmn_mem {xs ys : List Int} {x : Int} : x ∈ cmn xs ys ↔ x ∈ xs ∧ x ∈ ys := by unfold cmn; rw [List.mem_filter, List.contains_iff_mem]
theorem cerTo_mem {L : List (List Int)} {k : Nat} {x : Int} (hk : 0 < k) : x ∈ cerTo L k ↔ ∀ i, i < k → x ∈ L[i]?.getD [] := by
  induction k with
  | zero => omega
  | succ k ih =>
    by_cases h0 : k = 0
    · subst h0
      rw [cerTo_first, ust_mem, cmn_mem]
      exact ⟨fun h i hi => by obtain rfl : i = 0 := by omega
                              exact h.1, fun h => ⟨h 0 (by omega), h 0 (by omega)⟩⟩
    · rw [cerTo_next (by omega), ust_mem, cmn_mem, ih (by omega)]
      constructor
      · rintro ⟨h1, h2⟩ i hi
        by_cases e : i = k
        · subst e; exact h2
        · exact h1 i (by omega)
      · exact fun h => ⟨fun i hi => h i (by omega), h k (by omega)⟩
theorem cerTo_len {L : List (List Int)} (h : ∀ x ∈ L, x.length ≤ 23) (k : Nat) : (cerTo L k).length ≤ 23 := by
  have h0 : ∀ i : Nat, (L[i]?.getD []).length ≤ 23 := fun i => by
    by_cases hi : i < L.length
    · rw [List.getElem?_eq_getElem hi]; exact h _ (List.getElem_mem hi)
    · rw [List.getElem?_eq_none (by omega)]; simp
  induction k with
  | zero => simp [cerTo]
  | succ k ih =>
    refine Nat.le_trans (ust_len _) ?_
    unfold cmn
    refine Nat.le_trans (List.length_filter_le _ _) ?_
    split
    · exact h0 0
    · exact ih
theorem rng_asc (G : Nat) (f : Nat → Bool) : (((List.range G).filter f).map fun g : Nat => (g : Int)).Pairwise (· < ·) := by
  rw [List.pairwise_map]
  exact (List.Pairwise.filter _ List.pairwise_lt_range).imp fun h => by omega
theorem rng_mem {G : Nat} {f : Nat → Bool} {x : Int} : x ∈ ((List.range G).filter f).map (fun g : Nat => (g : Int)) ↔ ∃ g : Nat, g < G ∧ f g = true ∧ (g : Int) = x := by
  rw [List.mem_map]
  constructor
  · rintro ⟨g, hg, rfl⟩
    rw [List.mem_filter, List.mem_range] at hg
    exact ⟨g, hg.1, hg.2, rfl⟩
  · rintro ⟨g, h1, h2, rfl⟩
    exact ⟨g, List.mem_filter.2 ⟨List.mem_range.2 h1, h2⟩, rfl⟩
theorem cer_eq {L : List (List Int)} {G : Nat} (h : ∀ x ∈ L, ∀ y ∈ x, ∃ g : Nat, y = (g : Int) ∧ g < G) : cerTo L L.length = cerS L G := by
  cases L with
  | nil => simp [cerTo, cerS]
  | cons x0 L0 =>
    generalize hL : x0 :: L0 = L at *
    have hl : 0 < L.length := by rw [← hL]; simp
    refine asc_ext (cerTo_asc _ _) (rng_asc _ _) fun x => ?_
    rw [cerTo_mem hl]
    unfold cerS
    rw [rng_mem]
    have hne : L.isEmpty = false := by rw [← hL]; rfl
    constructor
    · intro hx
      have h0 := hx 0 hl
      rw [List.getElem?_eq_getElem hl] at h0
      obtain ⟨g, rfl, hg⟩ := h _ (List.getElem_mem hl) x h0
      refine ⟨g, hg, ?_, rfl⟩
      rw [hne]
      simp only [Bool.not_false, Bool.true_and, List.all_eq_true, List.contains_iff_mem]
      intro y hy
      obtain ⟨i, hi, rfl⟩ := List.mem_iff_getElem.1 hy
      have := hx i hi
      rwa [List.getElem?_eq_getElem hi] at this
    · rintro ⟨g, hg, hf, rfl⟩ i hi
      rw [hne] at hf
      simp only [Bool.not_false, Bool.true_and, List.all_eq_true, List.contains_iff_mem] at hf
      rw [List.getElem?_eq_getElem hi]
      exact hf _ (List.getElem_mem hi)
theorem pos_eq {L : List (List Int)} {G : Nat} (h : ∀ x ∈ L, ∀ y ∈ x, ∃ g : Nat, y = (g : Int) ∧ g < G) : ust (posTo L L.length) = posS L G := by
  refine ust_of (rng_asc _ _) fun x => ?_
  unfold posS posTo
  rw [rng_mem, List.take_length, List.mem_flatten]
  constructor
  · rintro ⟨g, hg, hf, rfl⟩
    rw [List.any_eq_true] at hf
    obtain ⟨y, hy, e⟩ := hf
    exact ⟨y, hy, by simpa using e⟩
  · rintro ⟨y, hy, hx⟩
    obtain ⟨g, rfl, hg⟩ := h y hy x hx
    exact ⟨g, hg, List.any_eq_true.2 ⟨y, hy, by simpa using hx⟩, rfl⟩
theorem minR_mem {p : Pln} {d : List Int} : ∀ x ∈ minR p d, ∀ y ∈ x, ∃ g : Nat, y = (g : Int) ∧ g < (grps p.n).length := by
  unfold minR
  split
  · rename_i h
    unfold minOk at h
    simp only [Bool.and_eq_true] at h
    intro x hx y hy
    obtain ⟨k, e, hk, -⟩ := sps_mem ((exA_mem h.1 (List.mem_filter.1 hx).1).2.1 y hy)
    exact ⟨k, e, hk⟩
  · intro x hx; cases hx
theorem minR_len {p : Pln} {d : List Int} : (minR p d).length ≤ 40 ∧ ∀ x ∈ minR p d, x.length ≤ 23 := by
  unfold minR
  split
  · rename_i h
    unfold minOk at h
    simp only [Bool.and_eq_true, decide_eq_true_eq] at h
    exact ⟨h.2, fun x hx => (exA_mem h.1 (List.mem_filter.1 hx).1).1⟩
  · exact ⟨by simp, fun x hx => by cases hx⟩
theorem minOk_sz {p : Pln} {d : List Int} (h : minOk p d = true) : plnOk p = true := by
  unfold minOk at h
  simp only [Bool.and_eq_true] at h
  exact (dwOk_parts h.1).1
def cgC (p : Pln) (d : List Int) : List Int := cerS (minR p d) (grps p.n).length
def cgP (p : Pln) (d : List Int) : List Int := posS (minR p d) (grps p.n).length
theorem cgC_no {p : Pln} {d : List Int} (h : minOk p d = false) : cgC p d = [] := by unfold cgC; rw [minR_no h]; simp [cerS]
theorem cgP_no {p : Pln} {d : List Int} (h : minOk p d = false) : cgP p d = [] := by unfold cgP; rw [minR_no h]; simp [posS]
theorem cgC_impl (p : Pln) (d : List Int) : cerTo (minR p d) (minR p d).length = cgC p d := cer_eq minR_mem
theorem cgP_impl (p : Pln) (d : List Int) : ust (posTo (minR p d) (minR p d).length) = cgP p d := pos_eq minR_mem
theorem rngF_len (G : Nat) (f : Nat → Bool) : (((List.range G).filter f).map fun g : Nat => (g : Int)).length ≤ G := by
  rw [List.length_map]; exact Nat.le_trans (List.length_filter_le _ _) (by simp)
theorem cgC_len {p : Pln} {d : List Int} : (cgC p d).length ≤ 23 := by
  cases h : minOk p d
  · rw [cgC_no h]; simp
  · exact Nat.le_trans (rngF_len _ _) (plnOk_sz (minOk_sz h)).2.2.2
theorem cgP_len {p : Pln} {d : List Int} : (cgP p d).length ≤ 23 := by
  cases h : minOk p d
  · rw [cgP_no h]; simp
  · exact Nat.le_trans (rngF_len _ _) (plnOk_sz (minOk_sz h)).2.2.2
theorem posTo_len {L : List (List Int)} (h : L.length ≤ 40 ∧ ∀ x ∈ L, x.length ≤ 23) (k : Nat) : (posTo L k).length ≤ 920 := by
  unfold posTo
  rw [List.length_flatten]
  have h1 := tot_le23 (L := L.take k) fun x hx => h.2 x (List.mem_of_mem_take hx)
  unfold tot at h1
  have h2 := List.length_take_le' k L
  omega
/-- Two rows of the call's own that lie apart. -/
def Apt (u v : Value) : Prop := ∀ q, u.ownBlock = some q → v.ownBlock ≠ some q
theorem Apt.nil (v : Value) : Apt (.slice none 0 0) v := fun q h => by simp [Value.ownBlock] at h
theorem Odt.inD_own {w : World} {xs : List Int} {v : Value} {fp : List Nat} (h : Odt w (inD xs) v fp) : ∀ k ∈ fp, v.ownBlock = some k := by
  unfold inD at h
  generalize hD : (xs.map fun x => Dt.leaf (.int .i64 x)) = ds at h
  cases h with
  | nil size => intro k hk; cases hk
  | @mk size n g off cap ds us fs cur T hl hus hf hn hc hg hcs ht hd =>
    intro k hk
    rcases List.mem_cons.1 hk with rfl | hk
    · rfl
    · exfalso
      obtain ⟨j, hj, hk⟩ := mem_flat_get hk
      have hjd : j < xs.length := by rw [← hD] at hf; simp at hf; omega
      have hju : j < us.length := by omega
      have h1 := hd j (.leaf (.int .i64 xs[j])) us[j] fs[j] (by rw [← hD]; simp [hjd]) (List.getElem?_eq_getElem hju) (List.getElem?_eq_getElem hj)
      rw [h1.leaf_inv.2] at hk
      cases hk
def CgP (p : Pln) (d : List Int) (w : World) (e : Ending) (w' : World) : Prop := ∃ v1 v2, e = .returned (.tuple #[v1, v2, .bool (minOk p d)]) ∧ Ofr w' w.heap.size (inD (cgC p d)) v1 ∧ Ofr w' w.heap.size (inD (cgP p d)) v2 ∧ Apt v1 v2 ∧ Below w.heap.size w w'

/-! ### Counting, as the reference does -/
def cntG (L : List (List Int)) (g : Nat) (i : Nat) : Nat := ((L.take i).filter fun x => x.contains (g : Int)).length
theorem cntG_yes {L : List (List Int)} {g i : Nat} (hi : i < L.length) (h : (L[i]?.getD []).contains (g : Int) = true) : cntG L g (i + 1) = cntG L g i + 1 := by
  unfold cntG
  rw [List.take_add_one, List.filter_append, List.length_append, List.getElem?_eq_getElem hi] at *
  simp at h ⊢; simp [h]
theorem cntG_no {L : List (List Int)} {g i : Nat} (hi : i < L.length) (h : (L[i]?.getD []).contains (g : Int) = false) : cntG L g (i + 1) = cntG L g i := by
  unfold cntG
  rw [List.take_add_one, List.filter_append, List.length_append, List.getElem?_eq_getElem hi] at *
  simp at h ⊢; simp [h]
theorem cntG_le (L : List (List Int)) (g i : Nat) : cntG L g i ≤ i := by
  unfold cntG
  exact Nat.le_trans (List.length_filter_le _ _) (List.length_take_le _ _)
theorem cntG_pos {L : List (List Int)} {g : Nat} : 0 < cntG L g L.length ↔ (L.any fun x => x.contains (g : Int)) = true := by
  unfold cntG
  rw [List.take_length, List.length_pos_iff_exists_mem, List.any_eq_true]
  constructor
  · rintro ⟨x, hx⟩; exact ⟨x, List.mem_filter.1 hx⟩
  · rintro ⟨x, hx⟩; exact ⟨x, List.mem_filter.2 hx⟩
theorem cntG_all {L : List (List Int)} {g : Nat} : cntG L g L.length = L.length ↔ (L.all fun x => x.contains (g : Int)) = true := by
  unfold cntG
  rw [List.take_length, List.length_filter_eq_length_iff, List.all_eq_true]
def cerU (L : List (List Int)) (k : Nat) : List Int := cerS L k
def posU (L : List (List Int)) (k : Nat) : List Int := posS L k
theorem rng_yes1 {G : Nat} {f : Nat → Bool} (h : f G = true) : ((List.range (G + 1)).filter f).map (fun g : Nat => (g : Int)) = ((List.range G).filter f).map (fun g : Nat => (g : Int)) ++ [(G : Int)] := by
  rw [List.range_succ, List.filter_append, List.map_append, List.filter_cons, if_pos h]; rfl
theorem rng_no1 {G : Nat} {f : Nat → Bool} (h : f G = false) : ((List.range (G + 1)).filter f).map (fun g : Nat => (g : Int)) = ((List.range G).filter f).map (fun g : Nat => (g : Int)) := by
  rw [List.range_succ, List.filter_append, List.map_append, List.filter_cons, if_neg (by rw [h]; simp)]; simp
theorem posU_yes {L : List (List Int)} {g : Nat} (h : 0 < cntG L g L.length) : posU L (g + 1) = posU L g ++ [(g : Int)] := rng_yes1 (f := fun g : Nat => L.any fun x => x.contains (g : Int)) (cntG_pos.1 h)
theorem posU_no {L : List (List Int)} {g : Nat} (h : ¬ 0 < cntG L g L.length) : posU L (g + 1) = posU L g := rng_no1 (f := fun g : Nat => L.any fun x => x.contains (g : Int)) (by
  cases e : L.any fun x => x.contains (g : Int)
  · rfl
  · exact absurd (cntG_pos.2 e) h)
theorem cerU_yes {L : List (List Int)} {g : Nat} (h0 : 0 < cntG L g L.length) (h : cntG L g L.length = L.length) : cerU L (g + 1) = cerU L g ++ [(g : Int)] :=
  rng_yes1 (f := fun g : Nat => !L.isEmpty && L.all fun x => x.contains (g : Int)) (by
    have h1 := cntG_all.1 h
    have h2 : L.isEmpty = false := by
      cases L with
      | nil => simp [cntG] at h0
      | cons x L => rfl
    show (!L.isEmpty && L.all fun x => x.contains (g : Int)) = true
    rw [h1, h2]; rfl)
theorem cerU_no {L : List (List Int)} {g : Nat} (h : ¬ (0 < cntG L g L.length ∧ cntG L g L.length = L.length)) : cerU L (g + 1) = cerU L g :=
  rng_no1 (f := fun g : Nat => !L.isEmpty && L.all fun x => x.contains (g : Int)) (by
    show (!L.isEmpty && L.all fun x => x.contains (g : Int)) = false
    cases e : (!L.isEmpty && L.all fun x => x.contains (g : Int))
    · rfl
    · simp only [Bool.and_eq_true, Bool.not_eq_true'] at e
      have hc := cntG_all.2 e.2
      have hl : 0 < L.length := by
        cases L with
        | nil => simp at e
        | cons x L => simp
      exact absurd ⟨by omega, hc⟩ h)
end Go.Proofs.YtmkkdenhjfjmgaaGreat
namespace Go.Proofs.YtmkkdenhjfjmgaaGreat
open Go.RowKit Go.Sort
set_option maxRecDepth 100000

/-- append of a row that may be empty to an own row; where the new row lies. -/
theorem wpList_catL {P : Program} {ops : Array Oper} {rest : List Oper} {o : Oper} {a : Act} {Q : Exit → Act → World → Prop} {w : World} (hgd : o.guard = none) (s x : Operand) (T : TypeId)
    (ho : o.op = .call { callee := .builtin .append, args := #[s, x], argTypes := #[T, T] }) (ht : P.underlying T = some (.slice 3))
    (hinfo : (P.info? 3).map (fun i => (i.zero, i.size, i.bytes)) = some (some (.int .i64 0), 1, 8))
    (base : Nat) (v : Value) (n : Nat) (xs : List Int) (hs : a.eval s = v) (hown : w.ownsRow base 3 1 v n (ints xs))
    (ao : Option Addr) (m c : Nat) (ys : List Int) (hx : a.eval x = .slice ao m c) (hm : ys.length = m) (hy : ao = none → m = 0 ∧ c = 0) (hc : 0 < m → ∃ b off, ao = some ⟨b, off, none⟩ ∧ ∀ j, j < m → w.cell? ⟨b, off + j, none⟩ = some (.int .i64 (ys[j]?.getD 0))) (hn : n + m ≤ 1000000) (hbase : base ≤ w.heap.size)
    (h : ∀ v' w', w'.ownsRow base 3 1 v' (n + m) (ints (xs ++ ys)) → w.grownBy w' v.ownBlock → (v'.ownBlock = v.ownBlock ∨ v'.ownBlock = some w.heap.size) → wpList P ops Q rest (a.put o.dst v') w') :
    wpList P ops Q (o :: rest) a w := by
  obtain ⟨i0, hi, hz0, hz1, hz2⟩ := info_parts hinfo
  rcases ao with _ | ad
  · obtain ⟨rfl, rfl⟩ := hy rfl
    have : ys = [] := List.eq_nil_of_length_eq_zero hm
    subst this
    refine wpList_append_own_none hgd s x T ho base 3 i0 1 ht hi v n (ints xs) hs hown hx ?_
    exact h v w (by simpa using hown) ⟨rfl, rfl, rfl, Nat.le_refl _, fun _ _ _ => rfl⟩ (.inl rfl)
  · refine wpList_append_own_at _ hgd s x T ho base 3 i0 (.int .i64 0) 1 8 ht hi hz0 hz1 hz2 rfl (by decide) v n (ints xs) hs hown ad m c (ints ys) hx (by simpa using hm) ?_ (ints_oneCell _ _) (by unfold maxLen; omega) (by omega) hbase ?_
    · intro j u hu
      have hj : j < ys.length := by have := (List.getElem?_eq_some_iff.1 hu).1; simpa using this
      obtain ⟨b, off, e1, e2⟩ := hc (by omega)
      simp only [Option.some.injEq] at e1
      subst e1
      have e : (⟨b, off, none⟩ : Addr).add j = ⟨b, off + j, none⟩ := by unfold Addr.add; split <;> simp_all
      rw [e, e2 j (by omega), ← hu]
      simp [hj]
    · intro v' w' g1 g2 _ g4
      exact h v' w' (by simpa [ints] using g1) g2 g4
theorem cloneA_own (v : Value) (xs : List Int) (w : World) (h : Rd w v xs) (hl : xs.length ≤ 1000000) :
    Calls Tryz.prog 95 #[v] w fun e w' => ∃ v', e = .returned v' ∧ Own w' w.heap.size v' xs ∧ Below w.heap.size w w' := by
  rcases h with ⟨rfl, rfl⟩ | ⟨b, off, cap, rfl, h1, h2, h3, h4⟩
  · refine (Tryz.slices_Clone_int_nil 0 0 w).mono ?_
    rintro e w' ⟨rfl, rfl⟩
    exact ⟨_, rfl, .inl ⟨rfl, rfl⟩, Below.refl _ _⟩
  · refine (Tryz.slices_Clone_int b off xs.length cap xs w (Nat.le_refl _) (by omega) (fun j hj => by rw [h4 j hj]; simp [hj])).mono ?_
    rintro e w' ⟨v', rfl, r, -, hb⟩
    rw [List.take_length] at r
    exact ⟨_, rfl, own_of_row r, hb⟩
theorem Own.grownA {w w' : World} {base : Nat} {u v : Value} {xs : List Int} (h : Own w base u xs) (hg : w.grownBy w' v.ownBlock) (ha : Apt u v) : Own w' base u xs :=
  h.kept fun q hq => hg.block q (h.lt q hq).2 fun e => ha q hq e.symm
theorem Apt.lies {w : World} {base : Nat} {u v v' : Value} {xs : List Int} (h : Own w base u xs) (ha : Apt u v) (hl : v'.ownBlock = v.ownBlock ∨ v'.ownBlock = some w.heap.size) : Apt u v' := fun q hq e => by
  rcases hl with hl | hl
  · exact ha q hq (hl.symm.trans e)
  · have h1 := (h.lt q hq).2
    rw [hl] at e
    have := Option.some.inj e
    omega
theorem Apt.fresh {w w' : World} {base : Nat} {u v : Value} {n : Nat} {xs : List Int} {us : List Value} {T : TypeId} (h : Own w' w.heap.size u xs) (hv : w.ownsRow base T 1 v n us) : Apt u v := fun q hq e => by
  have h1 := (h.lt q hq).1
  have h2 := (hv.lt q e).2
  omega
set_option maxHeartbeats 3200000 in
theorem implCer_any (v vd : Value) (p : Pln) (d : List Int) (w : World) (hp : PlnR w v p) (hd : Rd w vd d) (hfb : ∀ i : Nat, (lgA p i).fb.length ≤ 1100000) :
    Calls Tryz.prog 49 #[v, vd] w (CgP p d w) := by
  obtain ⟨a1, m1, c1, a2, m2, c2, a3, m3, c3, hv⟩ : ∃ a1 m1 c1 a2 m2 c2 a3 m3 c3, v = .agg #[.slice a1 m1 c1, .slice a2 m2 c2, .slice a3 m3 c3] := by
    obtain ⟨u1, u2, u3, e, r⟩ := id hp
    obtain ⟨a1, m1, c1, a2, m2, c2, a3, m3, c3, e1, e2, e3⟩ := PlB.slices (show PlnR w (.agg #[u1, u2, u3]) p from by rw [← e]; exact hp)
    exact ⟨a1, m1, c1, a2, m2, c2, a3, m3, c3, by rw [e, e1, e2, e3]⟩
  subst hv
  obtain ⟨ad, cd, nd, -, rfl, -, -, -⟩ := hd.opn
  have HMN := Lib.hid (fun w' (hb : Below w.heap.size w w') => implMin_any _ _ p d w' (hp.behind hb) (hd.belowAll hb) hfb)
  have HC0 := Lib.hid (@cgC_no p d)
  have HP0 := Lib.hid (@cgP_no p d)
  have HCE := Lib.hid (cgC_impl p d)
  have HPE := Lib.hid (cgP_impl p d)
  have HLN := Lib.hid (@minR_len p d)
  obtain ⟨bx, bc, blt, -⟩ := box_facts w #[.slice a1 m1 c1, .slice a2 m2 c2, .slice a3 m3 c3] 38
  have q0 := bc 0 _ rfl
  have q1 := bc 1 _ rfl
  have q2 := bc 2 _ rfl
  have HBX := Lib.hid bx
  unfold CgP
  unfold MnP at HMN
  generalize cgC p d = RC at *
  generalize cgP p d = RP at *
  generalize minR p d = L at *
  clear bx bc hp hd hfb
  go_enter Tryz.func49, Tryz.ntmps49
  go_wp2_with fail
  generalize w.alloc (.cells #[.slice a1 m1 c1, .slice a2 m2 c2, .slice a3 m3 c3] 38) = w1 at *
  refine (HMN.out w1 HBX.out).mono ?_
  rintro e w2 ⟨v2, rfl, o2, b2⟩
  have HB2 := Lib.hid (HBX.out.trans (b2.mono HBX.out.size))
  obtain ⟨a7, n7, c7, rfl, HN7, -, hn7, -⟩ := ssD_opn o2.rd
  have HR2 := Lib.hid (fun wx (hk : Below w2.heap.size w2 wx) i hi => ssD_row (i := i) (o2.rd.behind hk) rfl hi)
  clear b2 o2 q0 q1 q2
  cases hok : minOk p d
  · have HE1 := Lib.hid (HC0.out hok)
    have HE2 := Lib.hid (HP0.out hok)
    have HOK := Lib.hid hok
    clear hok
    go_wp2
    refine bodyPost_ret (results_tmp3 rfl _ _ _) rfl ?_
    exact ⟨_, _, by rw [HOK.out]; rfl, by rw [HE1.out]; exact Ofr.nil _ _ _, by rw [HE2.out]; exact Ofr.nil _ _ _, Apt.nil _, HB2.out⟩
  have HOK := Lib.hid hok
  have b3 := (Below.refl w2.heap.size w2).alloc (Nat.le_refl _) (.cells #[] 3)
  have b4 := b3.alloc b3.size (.cells #[] 3)
  have z3 : (w2.alloc (.cells #[] 3)).heap.size = w2.heap.size + 1 := by simp
  have HR0 := Lib.hid (show ((w2.alloc (.cells #[] 3)).alloc (.cells #[] 3)).ownsRow w2.heap.size 3 1 (.slice (some ⟨w2.heap.size + 1, 0, none⟩) 0 0) 0 (ints []) from by
    have h := World.ownsRow_lit (base := w2.heap.size) (e := 3) (size := 1) (w2.alloc (.cells #[] 3)) #[] 0 (by rw [z3]; omega) (by simp) rfl
    rw [z3] at h
    exact h)
  have HC1 := Lib.hid (((own_none w2 3).belowAll ((Below.refl _ _).alloc (Nat.le_refl _) (.cells #[] 3))).mono (Nat.le_refl _))
  have HA0 := Lib.hid (show Apt (.slice (some ⟨w2.heap.size, 0, none⟩) 0 0) (.slice (some ⟨w2.heap.size + 1, 0, none⟩) 0 0) from fun q hq e => by
    have h1 : w2.heap.size = q := by simpa [Value.ownBlock] using hq
    have h2 : w2.heap.size + 1 = q := by simpa [Value.ownBlock] using e
    omega)
  have HB4 := Lib.hid b4
  rw [HN7.out] at HCE HPE HLN
  have h40 : n7 ≤ 40 := HLN.out.1
  have HPL := Lib.hid (fun k => posTo_len (L := L) ⟨by rw [HN7.out]; exact HLN.out.1, HLN.out.2⟩ k)
  have HNX := Lib.hid (fun k (hk : k < n7) => @posTo_next L k (by rw [HN7.out]; exact hk))
  have HXL := Lib.hid (fun k (hk : k < n7) => show (L[k]?.getD []).length ≤ 23 from by
    have hk' : k < L.length := by rw [HN7.out]; exact hk
    rw [List.getElem?_eq_getElem hk']; exact HLN.out.2 _ (List.getElem_mem hk'))
  clear hok b3 b4 z3 HC0 HP0
  go_wp2
  generalize (w2.alloc (.cells #[] 3)).alloc (.cells #[] 3) = w4 at *
  go_loopw [9, 10, 11, 12, 25] (fun s9 s10 _ _ i wr => ∃ (k mp : Nat), k ≤ n7 ∧ i = .int .i64 k ∧ Hid (Own wr w2.heap.size s9 (cerTo L k)) ∧ Hid (wr.ownsRow w2.heap.size 3 1 s10 mp (ints (posTo L k))) ∧ Hid (Apt s9 s10) ∧ Hid (Below w2.heap.size w2 wr)) (fun _ _ _ _ i _ => n7 - (intOf i).toNat)
  case atStart => exact ⟨0, 0, Nat.zero_le _, rfl, HC1.out, HR0.out, HA0.out, HB4.out⟩
  case round =>
    obtain ⟨k, mp, hk, rfl, HC, HR, HA, HB⟩ := hrel
    obtain ⟨a9, c9, n9, HN9, rfl, _, _, -⟩ := HC.out.rd.opn
    have HRO := Lib.hid (own_of_row HR.out)
    obtain ⟨a10, c10, n10, HN10, rfl, _, _, -⟩ := HRO.out.rd.opn
    have hmp : mp ≤ 920 := by
      have h1 := HR.out.1
      have h2 := HPL.out k
      simp at h1
      omega
    by_cases hlt : k < n7
    · have hltI : (k : Int) < (n7 : Int) := by omega
      obtain ⟨b, off, u, rfl, hu, hru⟩ := HR2.out wr HB.out k hlt
      have HU := Lib.hid hru
      have HXK := Lib.hid (HXL.out k hlt)
      have HNK := Lib.hid (HNX.out k hlt)
      have HPK := Lib.hid (HPL.out k)
      have HFI := Lib.hid (show k = 0 → cerTo L (k + 1) = ust (cmn (L[k]?.getD []) (L[k]?.getD [])) from fun e => by subst e; exact cerTo_first)
      have HFN := Lib.hid (show 0 < k → cerTo L (k + 1) = ust (cmn (cerTo L k) (L[k]?.getD [])) from fun e => cerTo_next e)
      have HCB := Lib.hid (show (cerTo L k).length ≤ 1100000 from Nat.le_trans (cerTo_len HLN.out.2 k) (by omega))
      obtain ⟨au, cu, nu, HNU, rfl, hcu, hno⟩ := full_opn hru
      have HNO := Lib.hid hno
      have HUC := Lib.hid (fun (W : World) (hW : Below wr.heap.size wr W) (h0 : 0 < nu) => show ∃ b off, au = some ⟨b, off, none⟩ ∧ ∀ j, j < nu → W.cell? ⟨b, off + j, none⟩ = some (.int .i64 ((L[k]?.getD [])[j]?.getD 0)) from by
        obtain ⟨a', c', n', hn', e, _, _, hc⟩ := (hru.belowAll hW).opn
        simp only [Value.slice.injEq] at e
        obtain ⟨rfl, rfl, rfl⟩ := e
        obtain ⟨b, off, e1, e2, e3⟩ := hc h0
        exact ⟨b, off, e1, e3⟩)
      have HCM := Lib.hid (fun (xs : List Int) (hl : xs.length ≤ 1100000) w' (hb : Below wr.heap.size wr w') vx (hx : Rd w' vx xs) => common_any vx (.slice au nu cu) xs (L[k]?.getD []) w' hx (HU.out.belowAll hb) hl)
      have HCL := Lib.hid (cloneA_own (.slice au nu cu) (L[k]?.getD []) wr HU.out (by have := HXK.out; omega))
      have hnu : nu ≤ 23 := by have := HXK.out; have := HNU.out; omega
      clear hru hno
      generalize L[k]?.getD [] = ys at *
      have hbs := HB.out.size
      have HBS := Lib.hid hbs
      by_cases h0 : k = 0
      · have HE := Lib.hid (HFI.out h0)
        have hk0 : ((k : Int) == 0) = true := by rw [beq_iff_eq]; omega
        clear hbs HFI HFN h0
        go_wp2_with fail
        refine HCL.out.mono ?_
        rintro e w5 ⟨v5, rfl, o5, b5⟩
        have HC5 := Lib.hid (HCM.out ys (by have := HXK.out; omega) w5 b5 v5 o5.rd)
        have HR5 := Lib.hid (rowB HR.out b5)
        obtain ⟨a5, c5, n5, -, rfl, -, -, -⟩ := o5.rd.opn
        have HB5 := Lib.hid b5
        clear o5 b5
        go_wp2_with fail
        refine HC5.out.mono ?_
        rintro e w6 ⟨v6, rfl, o6, b6⟩
        have HA6 := Lib.hid (Apt.fresh o6 HR5.out)
        have HR6 := Lib.hid (rowB HR5.out b6)
        have HO6 := Lib.hid (o6.mono (Nat.le_trans HBS.out HB5.out.size))
        have HB6 := Lib.hid (HB5.out.trans (b6.mono HB5.out.size))
        obtain ⟨a6, c6, n6, -, rfl, -, -, -⟩ := o6.rd.opn
        have HUC6 := Lib.hid (HUC.out w6 HB6.out)
        have HZ6 := Lib.hid (Nat.le_trans HBS.out HB6.out.size)
        clear o6 b6
        go_wp2_with (at_builtin; go_loud (refine wpList_catL rfl (.tmp 37) (.tmp 38) 29 rfl Tryz.underlying29 Tryz.infoInt w2.heap.size (.slice a10 n10 c10) mp (posTo L k) rfl HR6.out au nu cu ys rfl HNU.out HNO.out HUC6.out (by omega) HZ6.out ?_); intro v8 w8 r8 g8 l8; have HR8 := Lib.hid r8; have HO8 := Lib.hid (HO6.out.grownA g8 HA6.out); have HA8 := Lib.hid (Apt.lies HO6.out HA6.out l8); have HB8 := Lib.hid ((HB.out.trans (HB6.out.mono HBS.out)).grown g8 HZ6.out (fun q hq => (HR6.out.lt q hq).1)); clear r8 g8 l8)
        rw [← HNK.out] at HR8
        go_roundw
        case rel => exact ⟨k + 1, mp + nu, hlt, by go_num, by rw [HE.out]; exact HO8.out, HR8.out, HA8.out, HB8.out⟩
        case measure => simp [intOf]; omega
      · have HE := Lib.hid (HFN.out (by omega))
        have hk0 : ((k : Int) == 0) = false := by rw [beq_eq_false_iff_ne]; omega
        have HC5 := Lib.hid (HCM.out (cerTo L k) HCB.out wr (Below.refl _ _) (.slice a9 n9 c9) HC.out.rd)
        clear hbs HFI HFN h0
        go_wp2_with fail
        refine HC5.out.mono ?_
        rintro e w6 ⟨v6, rfl, o6, b6⟩
        have HA6 := Lib.hid (Apt.fresh o6 HR.out)
        have HR6 := Lib.hid (rowB HR.out b6)
        have HO6 := Lib.hid (o6.mono HBS.out)
        have HB6 := Lib.hid b6
        obtain ⟨a6, c6, n6, -, rfl, -, -, -⟩ := o6.rd.opn
        have HUC6 := Lib.hid (HUC.out w6 HB6.out)
        have HZ6 := Lib.hid (Nat.le_trans HBS.out HB6.out.size)
        clear o6 b6
        go_wp2_with (at_builtin; go_loud (refine wpList_catL rfl (.tmp 37) (.tmp 38) 29 rfl Tryz.underlying29 Tryz.infoInt w2.heap.size (.slice a10 n10 c10) mp (posTo L k) rfl HR6.out au nu cu ys rfl HNU.out HNO.out HUC6.out (by omega) HZ6.out ?_); intro v8 w8 r8 g8 l8; have HR8 := Lib.hid r8; have HO8 := Lib.hid (HO6.out.grownA g8 HA6.out); have HA8 := Lib.hid (Apt.lies HO6.out HA6.out l8); have HB8 := Lib.hid ((HB.out.trans (HB6.out.mono HBS.out)).grown g8 HZ6.out (fun q hq => (HR6.out.lt q hq).1)); clear r8 g8 l8)
        rw [← HNK.out] at HR8
        go_roundw
        case rel => exact ⟨k + 1, mp + nu, hlt, by go_num, by rw [HE.out]; exact HO8.out, HR8.out, HA8.out, HB8.out⟩
        case measure => simp [intOf]; omega
    · obtain rfl : n7 = k := by omega
      have HS := Lib.hid (sortI_own (.slice a10 n10 c10) (posTo L n7) w2.heap.size wr HRO.out (by have := HPL.out n7; omega))
      have HSZ := Lib.hid HB.out.size
      go_wp2_with fail
      refine HS.out.mono ?_
      rintro e w5 ⟨rfl, o5, g5⟩
      have HC5 := Lib.hid (HC.out.grownA g5 HA.out)
      have HB5 := Lib.hid (HB.out.grown g5 HB.out.size (fun q hq => (HRO.out.lt q hq).1))
      have HK := Lib.hid (compactI_own (.slice a10 n10 c10) (srt (posTo L n7)) w2.heap.size w5 o5 (by rw [srt_len]; have := HPL.out n7; omega))
      have HO5 := Lib.hid o5
      clear o5 g5
      go_wp2_with fail
      refine HK.out.mono ?_
      rintro e w6 ⟨v6, rfl, q6, o6, g6⟩
      have HC6 := Lib.hid (HC5.out.grownA g6 HA.out)
      have HB6 := Lib.hid (HB5.out.grown g6 HB5.out.size (fun q hq => (HO5.out.lt q hq).1))
      have HO6 := Lib.hid (show Own w6 w2.heap.size v6 RP from by rw [← HPE.out]; exact o6)
      obtain ⟨a6, c6, n6, -, rfl, -, -, -⟩ := o6.rd.opn
      have HA6 := Lib.hid (show Apt (.slice a9 n9 c9) (.slice a6 n6 c6) from fun q h1 h2 => HA.out q h1 (q6.symm.trans h2))
      clear o6 g6 q6
      go_wp2
      refine bodyPost_ret (results_tmp3 rfl _ _ _) rfl ?_
      exact ⟨_, _, by rw [HOK.out]; rfl, by rw [← HCE.out]; exact (HC6.out.mono HB2.out.size).ofr, (HO6.out.mono HB2.out.size).ofr, HA6.out, HB2.out.trans (HB6.out.mono HB2.out.size)⟩
end Go.Proofs.YtmkkdenhjfjmgaaGreat
namespace Go.Proofs.YtmkkdenhjfjmgaaGreat
open Go.RowKit Go.Sort
set_option maxRecDepth 100000

/-- The blocks from n2 up to w3's end are as they were. -/
def Kp (n2 : Nat) (w3 wr : World) : Prop := w3.heap.size ≤ wr.heap.size ∧ ∀ q, n2 ≤ q → q < w3.heap.size → wr.heap[q]? = w3.heap[q]?
/-- The row lies outside of them. -/
def Out (n2 : Nat) (w3 : World) (v : Value) : Prop := ∀ q, v.ownBlock = some q → q < n2 ∨ w3.heap.size ≤ q
theorem Kp.refl (n2 : Nat) (w : World) : Kp n2 w w := ⟨Nat.le_refl _, fun _ _ _ => rfl⟩
theorem Kp.below {n2 : Nat} {w3 wr w5 : World} (h : Kp n2 w3 wr) (hb : Below wr.heap.size wr w5) : Kp n2 w3 w5 :=
  ⟨Nat.le_trans h.1 hb.size, fun q h1 h2 => by rw [hb.block q (Nat.lt_of_lt_of_le h2 h.1), h.2 q h1 h2]⟩
theorem Kp.grown {n2 : Nat} {w3 wr w5 : World} {v : Value} (h : Kp n2 w3 wr) (hg : wr.grownBy w5 v.ownBlock) (ho : Out n2 w3 v) : Kp n2 w3 w5 :=
  ⟨Nat.le_trans h.1 hg.size, fun q h1 h2 => by
    rw [hg.block q (Nat.lt_of_lt_of_le h2 h.1) (fun e => by rcases ho q e.symm with h | h <;> omega), h.2 q h1 h2]⟩
theorem Out.lies {n2 : Nat} {w3 wr : World} {v v' : Value} (h : Out n2 w3 v) (hk : w3.heap.size ≤ wr.heap.size) (hl : ∀ g, v'.ownBlock = some g → v.ownBlock = some g ∨ wr.heap.size ≤ g) : Out n2 w3 v' := fun q hq =>
  (hl q hq).elim (h q) fun e => .inr (Nat.le_trans hk e)
theorem Apt.symm {u v : Value} (h : Apt u v) : Apt v u := fun q h1 h2 => h q h2 h1
theorem Apt.lies2 {w : World} {base : Nat} {u v v' : Value} {xs : List Int} (h : Own w base u xs) (ha : Apt u v) (hl : ∀ g, v'.ownBlock = some g → v.ownBlock = some g ∨ w.heap.size ≤ g) : Apt u v' := fun q hq e => by
  rcases hl q e with h1 | h1
  · exact ha q hq h1
  · have := (h.lt q hq).2; omega
theorem Kp.rd {n2 : Nat} {w3 wr : World} {d : Dt} {v : Value} (h : Ofr w3 n2 d v) (hk : Kp n2 w3 wr) : Rdt wr d v := by
  obtain ⟨fp, h1, -, h3⟩ := h
  exact (h1.kept fun b hb => hk.2 b (h3 b hb) (h1.lt b hb)).rd
set_option maxHeartbeats 6400000 in
theorem specCer_any (v vd : Value) (p : Pln) (d : List Int) (w : World) (hp : PlnR w v p) (hd : Rd w vd d) (hfb : ∀ i : Nat, (lgA p i).fb.length ≤ 1100000) :
    Calls Tryz.prog 48 #[v, vd] w (CgP p d w) := by
  have HMN := Lib.hid (fun w' (hb : Below w.heap.size w w') => specMin_any v vd p d w' (hp.behind hb) (hd.belowAll hb) hfb)
  obtain ⟨u1, u2, u3, rfl, r1, r2, r3, hsm⟩ := hp
  have hnet : NetR w (.agg #[u1, u2]) p.n := ⟨u1, u2, rfl, r1, r2, hsm⟩
  have HGG := Lib.hid (fun w' (hb : Below w.heap.size w w') hl => l2Groups_any u1 u2 p.n w' (hnet.behind hb) hl)
  obtain ⟨⟨a1, m1, c1, rfl⟩, a2, m2, c2, rfl⟩ := slice_of_net hnet
  obtain ⟨a3, m3, c3, rfl, -, -, -, -⟩ := lgt_opn r3
  obtain ⟨ad, cd, nd, -, rfl, -, -, -⟩ := hd.opn
  have HC0 := Lib.hid (@cgC_no p d)
  have HP0 := Lib.hid (@cgP_no p d)
  have HLN := Lib.hid (@minR_len p d)
  have HOZ := Lib.hid (fun h => (plnOk_sz (@minOk_sz p d h)))
  have HCE := Lib.hid (show cerU (minR p d) (grps p.n).length = cgC p d from rfl)
  have HPE := Lib.hid (show posU (minR p d) (grps p.n).length = cgP p d from rfl)
  obtain ⟨bx, bc, blt, -⟩ := box_facts w #[.slice a1 m1 c1, .slice a2 m2 c2, .slice a3 m3 c3] 38
  have hs1 : (w.alloc (.cells #[.slice a1 m1 c1, .slice a2 m2 c2, .slice a3 m3 c3] 38)).heap.size = w.heap.size + 1 := by simp
  have x1 := (Below.refl _ (w.alloc (.cells #[.slice a1 m1 c1, .slice a2 m2 c2, .slice a3 m3 c3] 38))).alloc (Nat.le_refl _) (.cells #[] 3)
  have hs2 : ((w.alloc (.cells #[.slice a1 m1 c1, .slice a2 m2 c2, .slice a3 m3 c3] 38)).alloc (.cells #[] 3)).heap.size = w.heap.size + 1 + 1 := by simp
  have x2 := (Below.refl _ ((w.alloc (.cells #[.slice a1 m1 c1, .slice a2 m2 c2, .slice a3 m3 c3] 38)).alloc (.cells #[] 3))).alloc (Nat.le_refl _) (.cells #[] 3)
  have x12 := x1.trans (x2.mono x1.size)
  have hs3 : (((w.alloc (.cells #[.slice a1 m1 c1, .slice a2 m2 c2, .slice a3 m3 c3] 38)).alloc (.cells #[] 3)).alloc (.cells #[] 3)).heap.size = w.heap.size + 1 + 1 + 1 := by simp
  have o1 := own_none (w.alloc (.cells #[.slice a1 m1 c1, .slice a2 m2 c2, .slice a3 m3 c3] 38)) 3
  have o2 := own_none ((w.alloc (.cells #[.slice a1 m1 c1, .slice a2 m2 c2, .slice a3 m3 c3] 38)).alloc (.cells #[] 3)) 3
  rw [hs1] at o1
  rw [hs2] at o2
  have HO1 := Lib.hid (o1.belowAll x2)
  have HO2 := Lib.hid (o2.mono (show w.heap.size + 1 ≤ w.heap.size + 1 + 1 by omega))
  have HA0 := Lib.hid (show Apt (.slice (some ⟨w.heap.size + 1, 0, none⟩) 0 0) (.slice (some ⟨w.heap.size + 1 + 1, 0, none⟩) 0 0) from fun q hq e => by
    have h1 : w.heap.size + 1 = q := by simpa [Value.ownBlock] using hq
    have h2 : w.heap.size + 1 + 1 = q := by simpa [Value.ownBlock] using e
    omega)
  have e0 := (x12.cell (p := ⟨w.heap.size, 0, none⟩) blt).trans (bc 0 _ rfl)
  have e1 := (x12.cell (p := ⟨w.heap.size, 1, none⟩) blt).trans (bc 1 _ rfl)
  have e2 := (x12.cell (p := ⟨w.heap.size, 2, none⟩) blt).trans (bc 2 _ rfl)
  have HB3 := Lib.hid (bx.trans (x12.mono bx.size))
  have HZ3 := Lib.hid hs3
  unfold CgP
  unfold MnP at HMN
  generalize cgC p d = RC at *
  generalize cgP p d = RP at *
  generalize minR p d = L at *
  clear bx bc hd hfb r1 r2 r3 hsm hnet x1 x2 x12 o1 o2 hs1 hs2 hs3
  go_enter Tryz.func48, Tryz.ntmps48
  go_wp2_with fail
  generalize ((w.alloc (.cells #[.slice a1 m1 c1, .slice a2 m2 c2, .slice a3 m3 c3] 38)).alloc (.cells #[] 3)).alloc (.cells #[] 3) = w2 at *
  have hl2 := World.block_lt_of_cell? _ _ e0
  refine (HMN.out w2 HB3.out).mono ?_
  rintro e w3 ⟨v3, rfl, o3, b3⟩
  have HO1' := Lib.hid (HO1.out.belowAll b3)
  have HO2' := Lib.hid (HO2.out.belowAll b3)
  have f0 := (b3.cell (p := ⟨w.heap.size, 0, none⟩) hl2).trans e0
  have f1 := (b3.cell (p := ⟨w.heap.size, 1, none⟩) hl2).trans e1
  have f2 := (b3.cell (p := ⟨w.heap.size, 2, none⟩) hl2).trans e2
  have HB4 := Lib.hid (HB3.out.trans (b3.mono HB3.out.size))
  have HN2 := Lib.hid b3.size
  obtain ⟨a7, n7, c7, rfl, HN7, -, hn7, -⟩ := ssD_opn o3.rd
  have HR3 := Lib.hid (fun wx (hk : Kp w2.heap.size w3 wx) i hi => ssD_row (i := i) (Kp.rd o3 hk) rfl hi)
  clear b3 o3 e0 e1 e2 HO1 HO2
  cases hok : minOk p d
  · have HE1 := Lib.hid (HC0.out hok)
    have HE2 := Lib.hid (HP0.out hok)
    have HOK := Lib.hid hok
    clear hok
    go_wp2
    refine bodyPost_ret (results_tmp3 rfl _ _ _) rfl ?_
    exact ⟨_, _, by rw [HOK.out]; rfl, by rw [HE1.out]; exact (HO1'.out.mono (Nat.le_succ _)).ofr, by rw [HE2.out]; exact (HO2'.out.mono (Nat.le_succ _)).ofr, HA0.out, HB4.out⟩
  have HOK := Lib.hid hok
  have hsz := HOZ.out hok
  have HGG1 := Lib.hid (fun w' hb => HGG.out w' hb (by omega))
  obtain ⟨G, HGL⟩ : ∃ G, Hid ((grps p.n).length = G) := ⟨_, rfl⟩
  have hG23 : G ≤ 23 := by have := HGL.out; omega
  rw [HGL.out] at HCE HPE
  rw [HN7.out] at HLN
  have h40 : n7 ≤ 40 := HLN.out.1
  have HCY := Lib.hid (fun g => @cerU_yes L g)
  have HCN := Lib.hid (fun g => @cerU_no L g)
  have HPY := Lib.hid (fun g => @posU_yes L g)
  have HPN := Lib.hid (fun g => @posU_no L g)
  have HKY := Lib.hid (fun g i hi => @cntG_yes L g i hi)
  have HKN := Lib.hid (fun g i hi => @cntG_no L g i hi)
  have HKL := Lib.hid (fun g i => cntG_le L g i)
  have HCL := Lib.hid (fun g => show (cerU L g).length ≤ g from rngF_len _ _)
  have HPL := Lib.hid (fun g => show (posU L g).length ≤ g from rngF_len _ _)
  rw [HN7.out] at HCY HCN HPY HPN HKY HKN
  have HQ1 := Lib.hid (show Out w2.heap.size w3 (.slice (some ⟨w.heap.size + 1, 0, none⟩) 0 0) from fun q hq => .inl (by
    have h1 : w.heap.size + 1 = q := by simpa [Value.ownBlock] using hq
    have := HZ3.out; omega))
  have HQ2 := Lib.hid (show Out w2.heap.size w3 (.slice (some ⟨w.heap.size + 1 + 1, 0, none⟩) 0 0) from fun q hq => .inl (by
    have h1 : w.heap.size + 1 + 1 = q := by simpa [Value.ownBlock] using hq
    have := HZ3.out; omega))
  clear hok hsz HC0 HP0 HGG HOZ HMN
  go_wp2
  go_loopw [7, 8, 11, 12, 13] (fun s7 s8 i _ _ wr => ∃ (g : Nat), g ≤ G ∧ i = .int .i64 g ∧ Hid (Own wr (w.heap.size + 1) s7 (cerU L g) ∧ Out w2.heap.size w3 s7) ∧ Hid (Own wr (w.heap.size + 1) s8 (posU L g) ∧ Out w2.heap.size w3 s8) ∧ Hid (Apt s7 s8) ∧ Hid (Kp w2.heap.size w3 wr) ∧ Hid (Below w.heap.size w wr) ∧ wr.cell? ⟨w.heap.size, 0, none⟩ = some (.slice a1 m1 c1) ∧ wr.cell? ⟨w.heap.size, 1, none⟩ = some (.slice a2 m2 c2) ∧ wr.cell? ⟨w.heap.size, 2, none⟩ = some (.slice a3 m3 c3)) (fun _ _ i _ _ _ => G + 1 - (intOf i).toNat)
  case atStart => exact ⟨0, Nat.zero_le _, rfl, ⟨HO1'.out, HQ1.out⟩, ⟨HO2'.out, HQ2.out⟩, HA0.out, Kp.refl _ _, HB4.out, f0, f1, f2⟩
  case round =>
    clear f0 f1 f2
    obtain ⟨g, hg, rfl, HC, HP, HA, HK, HB, t0, t1, t2⟩ := hrel
    obtain ⟨a6, c6, m6, HN6, rfl, _, _, -⟩ := HC.out.1.rd.opn
    obtain ⟨a8, c8, m8, HN8, rfl, _, _, -⟩ := HP.out.1.rd.opn
    have hwl := World.block_lt_of_cell? _ _ t0
    go_wp2_with fail
    refine (HGG1.out wr HB.out).mono ?_
    rintro e w5 ⟨v5, rfl, o5, b5⟩
    obtain ⟨a9, n9, c9, rfl, HN9, -, hn9, -⟩ := ssD_opn o5.rd
    obtain rfl : G = n9 := by have := HGL.out; have := HN9.out; omega
    have j0 := (b5.cell (p := ⟨w.heap.size, 0, none⟩) hwl).trans t0
    have j1 := (b5.cell (p := ⟨w.heap.size, 1, none⟩) hwl).trans t1
    have j2 := (b5.cell (p := ⟨w.heap.size, 2, none⟩) hwl).trans t2
    have HC5 := Lib.hid (HC.out.1.belowAll b5)
    have HP5 := Lib.hid (HP.out.1.belowAll b5)
    have HK5 := Lib.hid (HK.out.below b5)
    have HB5 := Lib.hid (HB.out.trans (b5.mono HB.out.size))
    have HQ7 := Lib.hid HC.out.2
    have HQ8 := Lib.hid HP.out.2
    clear b5 o5 t0 t1 t2 HC HP HK HB hwl
    by_cases hlt : g < G
    · have hltI : (g : Int) < (G : Int) := by omega
      go_wp2
      go_loopw [12, 13] (fun s12 i wx => ∃ k : Nat, k ≤ n7 ∧ i = .int .i64 k ∧ s12 = .int .i64 (cntG L g k) ∧ wx = w5) (fun _ i _ => n7 - (intOf i).toNat)
      case atStart => exact ⟨0, Nat.zero_le _, rfl, rfl, rfl⟩
      case round =>
        obtain ⟨k, hk, rfl, rfl, rfl⟩ := hrel
        by_cases hlk : k < n7
        · have hlkI : (k : Int) < (n7 : Int) := by omega
          obtain ⟨b, off, u, rfl, hu, hru⟩ := HR3.out _ HK5.out k hlk
          have HH := Lib.hid (l1Has_any u (L[k]?.getD []) (g : Int) _ hru)
          have HY := Lib.hid (HKY.out g k hlk)
          have HN := Lib.hid (HKN.out g k hlk)
          have hcb := HKL.out g k
          obtain ⟨au, cu, nu, -, rfl, -⟩ := hru.opn
          clear hru
          generalize cntG L g k = ct at *
          cases hhas : (L[k]?.getD []).contains (g : Int)
          · have HE := Lib.hid (HN.out hhas)
            rw [hhas] at HH
            clear hhas HY HN
            go_wp2_with fail
            refine HH.out.mono ?_
            rintro e w6 ⟨rfl, rfl⟩
            go_wp2
            go_roundw
            case rel => exact ⟨k + 1, hlk, by go_num, by rw [HE.out], trivial⟩
            case measure => simp [intOf]; omega
          · have HE := Lib.hid (HY.out hhas)
            rw [hhas] at HH
            clear hhas HY HN
            go_wp2_with fail
            refine HH.out.mono ?_
            rintro e w6 ⟨rfl, rfl⟩
            go_wp2
            go_roundw
            case rel => exact ⟨k + 1, hlk, by go_num, by rw [HE.out]; go_num, trivial⟩
            case measure => simp [intOf]; omega
        · obtain rfl : n7 = k := by omega
          have HPY1 := Lib.hid (HPY.out g)
          have HPN1 := Lib.hid (HPN.out g)
          have HCY1 := Lib.hid (HCY.out g)
          have HCN1 := Lib.hid (HCN.out g)
          have hcb := HKL.out g n7
          generalize cntG L g n7 = ct at *
          by_cases h0 : 0 < ct
          · have h0I : (0 : Int) < (ct : Int) := by omega
            have HEP := Lib.hid (HPY1.out h0)
            have HLP := Lib.hid (show (posU L g).length ≤ 4000000 by have := HPL.out g; omega)
            have HLC := Lib.hid (show (cerU L g).length ≤ 4000000 by have := HCL.out g; omega)
            have hbase : w.heap.size + 1 ≤ wr.heap.size := World.block_lt_of_cell? _ _ j0
            have HBASE := Lib.hid hbase
            by_cases hall : ct = n7
            · have HEC := Lib.hid (HCY1.out h0 hall)
              have heq : ((ct : Int) == (n7 : Int)) = true := by rw [beq_iff_eq]; omega
              clear HPY1 HPN1 HCY1 HCN1 hall hbase
              go_wp2_with (first
                | (at_builtin; go_loud (refine wpList_pushI rfl (.tmp 50) (.tmp 52) 29 rfl Tryz.underlying29 Tryz.infoI (w.heap.size + 1) _ _ rfl HP5.out rfl HLP.out HBASE.out ?_); intro v9 w9 o9 g9 l9; have HP9 := Lib.hid o9; have HC9 := Lib.hid (HC5.out.grownA g9 HA.out); have HA9 := Lib.hid (Apt.lies2 HC5.out HA.out l9); have HQ9 := Lib.hid (HQ8.out.lies HK5.out.1 l9); have HK9 := Lib.hid (HK5.out.grown g9 HQ8.out); have HB9 := Lib.hid (HB5.out.grown g9 HB5.out.size (fun q hq => Nat.le_of_succ_le (HP5.out.lt q hq).1)); have k0 := (g9.cell_far ⟨w.heap.size, 0, none⟩ (World.block_lt_of_cell? _ _ j0) (fun e => Nat.lt_irrefl _ (HP5.out.lt _ e.symm).1)).trans j0; have k1 := (g9.cell_far ⟨w.heap.size, 1, none⟩ (World.block_lt_of_cell? _ _ j1) (fun e => Nat.lt_irrefl _ (HP5.out.lt _ e.symm).1)).trans j1; have k2 := (g9.cell_far ⟨w.heap.size, 2, none⟩ (World.block_lt_of_cell? _ _ j2) (fun e => Nat.lt_irrefl _ (HP5.out.lt _ e.symm).1)).trans j2; clear o9 g9 l9)
                | (at_builtin; go_loud (refine wpList_pushI rfl (.tmp 62) (.tmp 64) 29 rfl Tryz.underlying29 Tryz.infoI (w.heap.size + 1) _ _ rfl HC9.out rfl HLC.out (World.block_lt_of_cell? _ _ k0) ?_); intro v10 w10 o10 g10 l10; have HC10 := Lib.hid o10; have HP10 := Lib.hid (HP9.out.grownA g10 HA9.out.symm); have HA10 := Lib.hid (Apt.lies2 HP9.out HA9.out.symm l10).symm; have HQ10 := Lib.hid (HQ7.out.lies HK9.out.1 l10); have HK10 := Lib.hid (HK9.out.grown g10 HQ7.out); have HB10 := Lib.hid (HB9.out.grown g10 HB9.out.size (fun q hq => Nat.le_of_succ_le (HC9.out.lt q hq).1)); have i0 := (g10.cell_far ⟨w.heap.size, 0, none⟩ (World.block_lt_of_cell? _ _ k0) (fun e => Nat.lt_irrefl _ (HC9.out.lt _ e.symm).1)).trans k0; have i1 := (g10.cell_far ⟨w.heap.size, 1, none⟩ (World.block_lt_of_cell? _ _ k1) (fun e => Nat.lt_irrefl _ (HC9.out.lt _ e.symm).1)).trans k1; have i2 := (g10.cell_far ⟨w.heap.size, 2, none⟩ (World.block_lt_of_cell? _ _ k2) (fun e => Nat.lt_irrefl _ (HC9.out.lt _ e.symm).1)).trans k2; clear o10 g10 l10))
              go_roundw
              case rel => exact ⟨g + 1, hlt, by go_num, ⟨by rw [HEC.out]; exact HC10.out, HQ10.out⟩, ⟨by rw [HEP.out]; exact HP10.out, HQ9.out⟩, HA10.out, HK10.out, HB10.out, i0, i1, i2⟩
              case measure => simp [intOf]; omega
            · have HEC := Lib.hid (HCN1.out (fun h => hall h.2))
              have heq : ((ct : Int) == (n7 : Int)) = false := by rw [beq_eq_false_iff_ne]; omega
              clear HPY1 HPN1 HCY1 HCN1 hall hbase
              go_wp2_with (at_builtin; go_loud (refine wpList_pushI rfl (.tmp 50) (.tmp 52) 29 rfl Tryz.underlying29 Tryz.infoI (w.heap.size + 1) _ _ rfl HP5.out rfl HLP.out HBASE.out ?_); intro v9 w9 o9 g9 l9; have HP9 := Lib.hid o9; have HC9 := Lib.hid (HC5.out.grownA g9 HA.out); have HA9 := Lib.hid (Apt.lies2 HC5.out HA.out l9); have HQ9 := Lib.hid (HQ8.out.lies HK5.out.1 l9); have HK9 := Lib.hid (HK5.out.grown g9 HQ8.out); have HB9 := Lib.hid (HB5.out.grown g9 HB5.out.size (fun q hq => Nat.le_of_succ_le (HP5.out.lt q hq).1)); have k0 := (g9.cell_far ⟨w.heap.size, 0, none⟩ (World.block_lt_of_cell? _ _ j0) (fun e => Nat.lt_irrefl _ (HP5.out.lt _ e.symm).1)).trans j0; have k1 := (g9.cell_far ⟨w.heap.size, 1, none⟩ (World.block_lt_of_cell? _ _ j1) (fun e => Nat.lt_irrefl _ (HP5.out.lt _ e.symm).1)).trans j1; have k2 := (g9.cell_far ⟨w.heap.size, 2, none⟩ (World.block_lt_of_cell? _ _ j2) (fun e => Nat.lt_irrefl _ (HP5.out.lt _ e.symm).1)).trans j2; clear o9 g9 l9)
              go_roundw
              case rel => exact ⟨g + 1, hlt, by go_num, ⟨by rw [HEC.out]; exact HC9.out, HQ7.out⟩, ⟨by rw [HEP.out]; exact HP9.out, HQ9.out⟩, HA9.out, HK9.out, HB9.out, k0, k1, k2⟩
              case measure => simp [intOf]; omega
          · have h0I : ¬ (0 : Int) < (ct : Int) := by omega
            have h0b : decide ((0 : Int) < (ct : Int)) = false := decide_eq_false h0I
            have h0c : decide (0 < ct) = false := decide_eq_false h0
            have HEP := Lib.hid (HPN1.out h0)
            have HEC := Lib.hid (HCN1.out (fun h => h0 h.1))
            clear HPY1 HPN1 HCY1 HCN1 h0
            go_wp2
            go_roundw
            case rel => exact ⟨g + 1, hlt, by go_num, ⟨by rw [HEC.out]; exact HC5.out, HQ7.out⟩, ⟨by rw [HEP.out]; exact HP5.out, HQ8.out⟩, HA.out, HK5.out, HB5.out, j0, j1, j2⟩
            case measure => simp [intOf]; omega
    · obtain rfl : G = g := by omega
      have HE1 := Lib.hid HCE.out
      have HE2 := Lib.hid HPE.out
      go_wp2
      refine bodyPost_ret (results_tmp3 rfl _ _ _) rfl ?_
      exact ⟨_, _, by rw [HOK.out]; rfl, by rw [← HE1.out]; exact (HC5.out.mono (Nat.le_succ _)).ofr, by rw [← HE2.out]; exact (HP5.out.mono (Nat.le_succ _)).ofr, HA.out, HB5.out⟩
end Go.Proofs.YtmkkdenhjfjmgaaGreat
