/- Plain Lean: stores of several cells into a block known whole. -/
import Derived.Test.YtphhenlokbodnaaFlu
import Derived.Deep.MidRow
namespace Go.Proofs.Ytphhenlokbodnaa
open Go.RowKit

def putA (cur : Array Value) (o : Nat) : List Value → Array Value
  | [] => cur
  | u :: us => putA (cur.setIfInBounds o u) (o + 1) us
theorem putA_size (us : List Value) : ∀ (cur : Array Value) (o : Nat), (putA cur o us).size = cur.size := by
  induction us with
  | nil => intro cur o; rfl
  | cons u us ih => intro cur o; rw [putA, ih]; simp
theorem blk_there {w : World} {b : Nat} {cur : Array Value} {T : TypeId} (h : w.heap[b]? = some (.cells cur T (0, 0))) {o n : Nat} (hn : o + n ≤ cur.size) : w.there b o n := fun j hj => by
  refine ⟨?_, frozen_of_row _ _ _ _ _ h⟩
  rw [cell_of_row _ _ _ _ _ _ h, Array.getElem?_eq_getElem (by omega)]; rfl
theorem blk_put {b : Nat} {T : TypeId} (us : List Value) : ∀ {w : World} {cur : Array Value} (o : Nat), w.heap[b]? = some (.cells cur T (0, 0)) → (w.setCells b o us).heap[b]? = some (.cells (putA cur o us) T (0, 0)) := by
  induction us with
  | nil => intro w cur o h; exact h
  | cons u us ih => intro w cur o h; exact ih (o + 1) (heap_setCell_same w b o cur T u h)
theorem blk_put_other {b k : Nat} (hk : k ≠ b) (us : List Value) : ∀ (w : World) (o : Nat), (w.setCells b o us).heap[k]? = w.heap[k]? := by
  induction us with
  | nil => intro w o; rfl
  | cons u us ih => intro w o; exact (ih _ (o + 1)).trans (heap_setCell_other w ⟨b, o, none⟩ k u hk)
theorem blk_put_size {b : Nat} (us : List Value) : ∀ (w : World) (o : Nat), (w.setCells b o us).heap.size = w.heap.size := by
  induction us with
  | nil => intro w o; rfl
  | cons u us ih => intro w o; exact (ih _ (o + 1)).trans (by simp)
theorem below_put {B b : Nat} {u : World} (hB : B ≤ b) (us : List Value) : ∀ {w : World} (o : Nat), Below B u w → Below B u (w.setCells b o us) := by
  induction us with
  | nil => intro w o h; exact h
  | cons x us ih => intro w o h; exact ih (o + 1) (h.setCell (p := ⟨b, o, none⟩) hB _)
/-- A block's facts for a walk. -/
theorem Ofr.put_other {w : World} {base b o : Nat} {d : Dt} {v : Value} (h : Ofr w base d v) (hb : b < base) (us : List Value) : Ofr (w.setCells b o us) base d v := by
  obtain ⟨fp, h1, h2, h3⟩ := h
  exact ⟨fp, h1.kept fun k hk => blk_put_other (by have := h3 k hk; omega) us w o, h2, h3⟩
/-- What a store into block b leaves. -/
structure Stx (w w' : World) (b : Nat) (new : Array Value) (T : TypeId) : Prop where
  blk : w'.heap[b]? = some (.cells new T (0, 0))
  other : ∀ k, k ≠ b → w'.heap[k]? = w.heap[k]?
  size : w'.heap.size = w.heap.size
  below : ∀ (B : Nat) (u : World), B ≤ b → Below B u w → Below B u w'
theorem Stx.keep {w w' : World} {b : Nat} {new : Array Value} {T : TypeId} (h : Stx w w' b new T) {k : Nat} {x : Obj} (hk : k ≠ b) (hx : w.heap[k]? = some x) : w'.heap[k]? = some x := (h.other k hk).trans hx
theorem Stx.ofr {w w' : World} {b base : Nat} {new : Array Value} {T : TypeId} {d : Dt} {v : Value} (h : Stx w w' b new T) (ho : Ofr w base d v) (hb : b < base) : Ofr w' base d v := by
  obtain ⟨fp, h1, h2, h3⟩ := ho
  exact ⟨fp, h1.kept fun k hk => h.other k (by have := h3 k hk; omega), h2, h3⟩
theorem Stx.kept {w w' : World} {b : Nat} {new : Array Value} {T : TypeId} (h : Stx w w' b new T) (p : Addr) (hp : p.block ≠ b) : w'.cell? p = w.cell? p := by
  unfold World.cell?
  rw [h.other _ hp]
theorem Stx.odt {w w' : World} {b : Nat} {new : Array Value} {T : TypeId} {d : Dt} {v : Value} {fp : List Nat} (h : Stx w w' b new T) (ho : Odt w d v fp) (hb : b ∉ fp) : Odt w' d v fp :=
  ho.kept fun k hk => h.other k (fun e => hb (by rw [← e]; exact hk))
theorem stx_cell {w : World} {b j : Nat} {cur : Array Value} {T : TypeId} (hg : w.heap[b]? = some (.cells cur T (0, 0))) (u : Value) : Stx w (w.setCell ⟨b, j, none⟩ u) b (cur.setIfInBounds j u) T :=
  ⟨heap_setCell_same w b j cur T u hg, fun k hk => heap_setCell_other w ⟨b, j, none⟩ k u hk, by simp, fun B u hB hb => hb.setCell (p := ⟨b, j, none⟩) hB _⟩
theorem wpList_stx {P : Program} {ops : Array Oper} {rest : List Oper} {op : Oper} {a : Act} {w : World} {Q : Exit → Act → World → Prop} (hgd : op.guard = none) (ty : TypeId) (x y : Operand) (ho : op.op = .store ty x y)
    (b o : Nat) (us : List Value) (hx : a.eval x = .pointer (some ⟨b, o, none⟩)) (hy : a.eval y = .agg us.toArray) {cur : Array Value} {T : TypeId} (hg : w.heap[b]? = some (.cells cur T (0, 0))) (hn : o + us.length ≤ cur.size)
    (hi : (P.info? ty).map (·.size) = some us.length) (h1 : ∀ v ∈ us, v.oneCell' = true)
    (h : ∀ w', Stx w w' b (putA cur o us) T → wpList P ops Q rest (a.put op.dst undef) w') : wpList P ops Q (op :: rest) a w := by
  refine wpList_store_mid hgd ty x y ho b o us.toArray hx hy (blk_there hg (by simpa using hn)) (by simpa using hi) (all_oneCell_toArray h1) ?_
  exact h _ ⟨blk_put us o hg, fun k hk => blk_put_other hk us w o, blk_put_size us w o, fun B u hB hb => below_put hB us o hb⟩
/-- A store of one cell into a block known whole. -/
theorem wpList_st1 {P : Program} {ops : Array Oper} {rest : List Oper} {op : Oper} {a : Act} {w : World} {Q : Exit → Act → World → Prop} (hgd : op.guard = none) (ty : TypeId) (x y : Operand) (ho : op.op = .store ty x y)
    (b o : Nat) (u : Value) (hx : a.eval x = .pointer (some ⟨b, o, none⟩)) (hy : a.eval y = u) {cur : Array Value} {T : TypeId} (hg : w.heap[b]? = some (.cells cur T (0, 0))) (hn : o < cur.size)
    (hi : (P.info? ty).map (·.size) = some 1) (h1 : u.cells = #[u] ∧ u.oneCell' = true)
    (h : ∀ w', Stx w w' b (cur.setIfInBounds o u) T → wpList P ops Q rest (a.put op.dst undef) w') : wpList P ops Q (op :: rest) a w := by
  refine wpList_plain hgd fun _ hK => ?_
  have hc := blk_there hg (o := o) (n := 1) (by omega)
  have hr := run_storeCells_cells (P := P) b o [u] 0 w (fun j hj => by simpa using (hc j (by simpa using hj)).1) (fun j hj => by simpa using (hc j (by simpa using hj)).2) (fun v hv => by simp at hv; rw [hv]; exact h1.2)
  unfold Oper.wp execOp
  cases hq : P.info? ty with
  | none => simp [hq] at hi
  | some i =>
    have hs : i.size = 1 := by simpa [hq] using hi
    have hst : (storeVar ty ⟨b, o, none⟩ u).run P w = .ok () (w.setCell ⟨b, o, none⟩ u) := by
      simp only [Nat.add_zero] at hr
      rw [show w.setCell ⟨b, o, none⟩ u = w.setCells b o [u] from rfl]
      simp [storeVar, sizeOf, typeInfo, hq, h1.1, hs]
      simpa using hr
    simp only [ho, hx, hy, Instr.storeAt, Instr.sureAddr, Sem.run_bind, Sem.run_pure, Result.andThen_ok, hst]
    exact hK _ _ (h _ (stx_cell hg u))
/-- A struct read out of a block known whole. -/
theorem wpList_ldx {P : Program} {ops : Array Oper} {rest : List Oper} {op : Oper} {a : Act} {w : World} {Q : Exit → Act → World → Prop} (hgd : op.guard = none) (ty : TypeId) (x : Operand) (ho : op.op = .load ty x)
    (b o : Nat) (hx : a.eval x = .pointer (some ⟨b, o, none⟩)) (cs : List Value) {cur : Array Value} {T : TypeId} (hg : w.heap[b]? = some (.cells cur T (0, 0))) (hc : ((cur.toList.drop o).take cs.length) = cs) (d : TypeDesc)
    (hu : P.underlying ty = some d) (hd : d.isRow = true) (hi : (P.info? ty).map (·.size) = some cs.length)
    (h : wpList P ops Q rest (a.put op.dst (.agg cs.toArray)) w) : wpList P ops Q (op :: rest) a w :=
  wpList_load_mid hgd ty x ho b o hx cs d (fun j v hj => row_cell hg hc hj rfl) hu hd hi h
end Go.Proofs.Ytphhenlokbodnaa
