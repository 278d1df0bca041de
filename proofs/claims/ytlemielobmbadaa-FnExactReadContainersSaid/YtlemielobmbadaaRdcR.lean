/- Plain Lean: containers that frames hold; an append that tells where the row lies. -/
import Derived.Test.YtlemielobmbadaaRdcP
import Derived.Test.YtlemielobmbadaaFillP
namespace Go.Proofs.Ytlemielobmbadaa
open Go.RowKit
set_option maxRecDepth 100000

def tot' (xss : List (List Int)) : Nat := (xss.map List.length).sum
def allR (fs : List Frm) : List Int := (fs.map fun f => f.l).flatten
theorem allR_step {fs : List Frm} {k : Nat} (h : k < fs.length) : allR (fs.take (k + 1)) = allR (fs.take k) ++ (fs[k]?.getD nilF).l := by
  rw [allR, allR, List.take_add_one, List.map_append, List.flatten_append, List.getElem?_eq_getElem h]; simp
theorem allR_len {fs : List Frm} (h : fs.all frmOk = true) : (allR fs).length = 12 * fs.length := by
  induction fs with
  | nil => rfl
  | cons f fs ih =>
    simp only [List.all_cons, Bool.and_eq_true] at h
    have := ih h.2
    have h12 := (frmOk_parts h.1).2.2.1
    simp only [allR, List.map_cons, List.flatten_cons, List.length_append, List.length_cons] at this ⊢
    omega
def ptr (fs : List Frm) (i : Nat) : Nat := (fs[i]?.getD nilF).p.toNat
theorem ptr_eq {fs : List Frm} (h : fs.all frmOk = true) {i : Nat} (hi : i < fs.length) : (fs[i]?.getD nilF).p = (ptr fs i : Int) ∧ ptr fs i ≤ 11 := by
  have := inB_true (frmOk_parts (frs_get h i hi)).2.1
  unfold ptr; omega
def fromI (fs : List Frm) (i : Nat) : Nat := 12 * i + ptr fs i
def toI (fs : List Frm) (i : Nat) : Nat := if i + 1 < fs.length then min (fromI fs i + 12) (fromI fs (i + 1)) else fromI fs i + 12
def rdTo (fs : List Frm) (k : Nat) : List (List Int) := (List.range k).flatMap fun i => if toI fs i ≤ 12 * fs.length then [sub (allR fs) (fromI fs i) (toI fs i - fromI fs i)] else []
theorem rdTo_step (fs : List Frm) (k : Nat) : rdTo fs (k + 1) = rdTo fs k ++ (if toI fs k ≤ 12 * fs.length then [sub (allR fs) (fromI fs k) (toI fs k - fromI fs k)] else []) := by
  rw [rdTo, rdTo, List.range_succ, List.flatMap_append]; simp
theorem toI_bd {fs : List Frm} (h : fs.all frmOk = true) {i : Nat} (hi : i < fs.length) : fromI fs i < toI fs i ∧ toI fs i ≤ fromI fs i + 12 := by
  have h1 := (ptr_eq h hi).2
  unfold toI
  split
  · have h2 := (ptr_eq h (show i + 1 < fs.length from by assumption)).2
    unfold fromI; omega
  · omega
theorem rdTo_len (fs : List Frm) (k : Nat) : (rdTo fs k).length ≤ k := by
  induction k with
  | zero => simp [rdTo]
  | succ k ih =>
    rw [rdTo_step, List.length_append]
    split <;> simp <;> omega
def rdR (fs : List Frm) : List (List Int) := if frsOk fs then rdTo fs fs.length else []
theorem frsOk_parts {fs : List Frm} (h : frsOk fs = true) : fs.length ≤ 12 ∧ fs.all frmOk = true := by
  simpa [frsOk] using h
theorem tot_append (a b : List (List Int)) : tot' (a ++ b) = tot' a + tot' b := by simp [tot']
theorem rdR_tot (fs : List Frm) : tot' (rdR fs) ≤ 1048576 := by
  unfold rdR
  split
  · rename_i h
    obtain ⟨h1, h2⟩ := frsOk_parts h
    have : ∀ k, k ≤ fs.length → tot' (rdTo fs k) ≤ 12 * k := by
      intro k
      induction k with
      | zero => intro _; simp [rdTo, tot']
      | succ k ih =>
        intro hk
        have := ih (by omega)
        rw [rdTo_step, tot_append]
        split
        · have hb := toI_bd h2 (show k < fs.length by omega)
          have : (sub (allR fs) (fromI fs k) (toI fs k - fromI fs k)).length ≤ 12 := by simp [sub]; omega
          have e1 : ∀ l : List Int, tot' [l] = l.length := fun l => by simp [tot']
          rw [e1]; omega
        · have e0 : tot' [] = 0 := rfl
          rw [e0]; omega
    have := this fs.length (Nat.le_refl _)
    omega
  · simp [tot']
def RdcP (w : World) (fs : List Frm) (e : Ending) (w' : World) : Prop := ∃ v, e = .returned (.tuple #[v, .bool (frsOk fs)]) ∧ Ofr w' w.heap.size (ssD (rdR fs)) v ∧ Below w.heap.size w w'
theorem RdcP.no {w w' : World} {fs : List Frm} {v : Value} (h : frsOk fs = false) (ho : Ofr w' w.heap.size (.rows 1 []) v) (hb : Below w.heap.size w w') : RdcP w fs (.returned (.tuple #[v, .bool false])) w' :=
  ⟨v, by rw [h], by rw [show rdR fs = [] by unfold rdR; rw [h]; rfl]; exact ho, hb⟩
theorem RdcP.yes {w w' : World} {fs : List Frm} {v : Value} {n : Nat} (h : frsOk fs = true) (hn : fs.length = n) (ho : Ofr w' w.heap.size (ssD (rdTo fs n)) v) (hb : Below w.heap.size w w') : RdcP w fs (.returned (.tuple #[v, .bool true])) w' :=
  ⟨v, by rw [h], by rw [show rdR fs = rdTo fs n by unfold rdR; rw [if_pos h, hn]]; exact ho, hb⟩
theorem Grw.lit {w : World} {base g size : Nat} {T : TypeId} (h : w.heap[g]? = some (.cells #[] T (0, 0))) (hb : base ≤ g) : Grw w base T size (.slice (some ⟨g, 0, none⟩) 0 0) 0 [] :=
  ⟨[], [], ⟨by simp, .inr ⟨g, 0, #[], rfl, hb, h, Nat.le_refl _, Nat.zero_le _, by simp, by simp⟩⟩, rfl, rfl, (fun j d u f h => by simp at h), List.nodup_nil, (fun k hk => by simp at hk), (fun g _ hk => by simp at hk)⟩
theorem wpList_catL {P : Program} {ops : Array Oper} {rest : List Oper} {o : Oper} {a : Act} {Q : Exit → Act → World → Prop} {w : World} (hgd : o.guard = none) (s x : Operand) (T : TypeId)
    (ho : o.op = .call { callee := .builtin .append, args := #[s, x], argTypes := #[T, T] }) (ht : P.underlying T = some (.slice 3))
    (hinfo : (P.info? 3).map (fun i => (i.zero, i.size, i.bytes)) = some (some (.int .i64 0), 1, 8))
    (base : Nat) (v : Value) (n : Nat) (xs : List Int) (hs : a.eval s = v) (hown : w.ownsRow base 3 1 v n (ints xs))
    (y : Value) (ys : List Int) (hx : a.eval x = y) (hy : Rd w y ys) (hy0 : 0 < ys.length) (hn : n + ys.length ≤ 1099511627776) (hbase : base ≤ w.heap.size)
    (h : ∀ v' w', w'.ownsRow base 3 1 v' (n + ys.length) (ints (xs ++ ys)) → w.grownBy w' v.ownBlock → (∀ g, v'.ownBlock = some g → v.ownBlock = some g ∨ w.heap.size ≤ g) → wpList P ops Q rest (a.put o.dst v') w') :
    wpList P ops Q (o :: rest) a w := by
  obtain ⟨i0, hi, hz0, hz1, hz2⟩ := info_parts hinfo
  rcases hy with ⟨_, rfl⟩ | ⟨b, off, cap, rfl, h1, h2, h3, h4⟩
  · simp at hy0
  · refine wpList_append_lies _ hgd s x T ho base 3 i0 (.int .i64 0) 1 8 ht hi hz0 hz1 hz2 rfl (by decide) v n (ints xs) hs hown ⟨b, off, none⟩ ys.length cap (ints ys) hx (by simp) ?_ (ints_oneCell _ _) hy0 (by unfold maxLen; omega) (by omega) hbase _ rfl ?_
    · intro j u hu
      have hj : j < ys.length := by have := (List.getElem?_eq_some_iff.1 hu).1; simpa using this
      have e : (⟨b, off, none⟩ : Addr).add j = ⟨b, off + j, none⟩ := by unfold Addr.add; split <;> simp_all
      rw [e, h4 j hj, ← hu]
      simp [hj]
    · intro g cap' w' g1 g2 g3 _
      refine h _ w' (by simpa [ints] using g1) g2 (fun g' hg' => ?_)
      have : g = g' := by simpa [Value.ownBlock] using hg'
      subst this
      rcases g3 with e | e
      · exact .inl e
      · exact .inr (by rw [e]; exact Nat.le_refl _)
end Go.Proofs.Ytlemielobmbadaa
