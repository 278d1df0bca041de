/- Slices of integers: what it means that a slice reads as a list, and that it lies in memory of the call's own. -/
import Derived.Test.YtphhenlokbodnaaProg
import Derived.WalkKit
import Derived.Lib.Hide
import Derived.Deep.DeepFit
import Derived.Deep.QuietTactic
import Derived.BigQuiet
import Derived.Deep.LoopGhost
import Derived.Deep.DeepMust
import Derived.StillTailTactics
import Derived.Deep.RegionHeld3
import Derived.WalkSpells
import Derived.WalkLawsBesides
import Derived.Handy
import Derived.OpenShut
import Derived.Deep.AppendLies
namespace Go.Proofs.Ytphhenlokbodnaa
open Go.RowKit

theorem int_eq {k : IntKind} {a b : Int} (h : a = b) : Value.int k a = Value.int k b := by rw [h]
theorem ret_int {k : IntKind} {a b : Int} (h : a = b) : Ending.returned (.int k a) = .returned (.int k b) := by rw [h]

/-- The integers of a list, as cells. -/
abbrev ints (xs : List Int) : List Value := xs.map (Value.int .i64)

/-- The slice value 'v' reads as the list 'xs' in the world 'w'. -/
def Rd (w : World) (v : Value) (xs : List Int) : Prop :=
  (v = .slice none 0 0 ∧ xs = []) ∨
  ∃ b off cap, v = .slice (some ⟨b, off, none⟩) xs.length cap ∧ xs.length ≤ cap ∧ cap ≤ maxLen ∧ b < w.heap.size ∧ ∀ j, j < xs.length → w.cell? ⟨b, off + j, none⟩ = some (.int .i64 ((xs[j]?.getD 0)))

/-- The slice value 'v' reads as 'xs' and lies in block 'v.ownBlock', which is one of integers, from 'base' on, and not frozen. -/
def Own (w : World) (base : Nat) (v : Value) (xs : List Int) : Prop :=
  (v = .slice none 0 0 ∧ xs = []) ∨
  ∃ g off cap cur, v = .slice (some ⟨g, off, none⟩) xs.length cap ∧ base ≤ g ∧ (∃ T, w.heap[g]? = some (.cells cur T (0, 0))) ∧ xs.length ≤ cap ∧ cap ≤ maxLen ∧ off + cap ≤ cur.size ∧ (cur.toList.drop off).take xs.length = ints xs

theorem Own.rd {w : World} {base : Nat} {v : Value} {xs : List Int} (h : Own w base v xs) : Rd w v xs := by
  rcases h with h | ⟨g, off, cap, cur, hv, hb, ⟨T, hg⟩, hl, hm, hs, ht⟩
  · exact .inl h
  · refine .inr ⟨g, off, cap, hv, hl, hm, (Array.getElem?_eq_some_iff.1 hg).1, fun j hj => ?_⟩
    rw [cell_of_row w g (off + j) cur _ (0, 0) hg]
    have e : ((cur.toList.drop off).take xs.length)[j]? = (ints xs)[j]? := by rw [ht]
    rw [List.getElem?_take, if_pos hj, List.getElem?_drop] at e
    rw [← Array.getElem?_toList, e]
    simp [hj]

theorem Own.lt {w : World} {base : Nat} {v : Value} {xs : List Int} (h : Own w base v xs) : ∀ k, v.ownBlock = some k → base ≤ k ∧ k < w.heap.size := by
  intro k hk
  rcases h with ⟨rfl, _⟩ | ⟨g, off, cap, cur, rfl, hb, ⟨T, hg⟩, _⟩
  · simp [Value.ownBlock] at hk
  · simp [Value.ownBlock] at hk
    subst hk
    exact ⟨hb, (Array.getElem?_eq_some_iff.1 hg).1⟩

theorem Own.len {w : World} {base : Nat} {v : Value} {xs : List Int} (h : Own w base v xs) : xs.length ≤ maxLen := by
  rcases h with ⟨_, rfl⟩ | ⟨g, off, cap, cur, rfl, hb, hg, h1, h2, _⟩
  · simp
  · omega
theorem Rd.len {w : World} {v : Value} {xs : List Int} (h : Rd w v xs) : xs.length ≤ maxLen := by
  rcases h with ⟨_, rfl⟩ | ⟨g, off, cap, rfl, h1, h2, _⟩
  · simp
  · omega

theorem Own.mono {w : World} {base base' : Nat} {v : Value} {xs : List Int} (h : Own w base v xs) (hb : base' ≤ base) : Own w base' v xs := by
  rcases h with h | ⟨g, off, cap, cur, hv, hbg, rest⟩
  · exact .inl h
  · exact .inr ⟨g, off, cap, cur, hv, by omega, rest⟩

/-- What is owned stays owned where its block is as it was. -/
theorem Own.kept {w w' : World} {base : Nat} {v : Value} {xs : List Int} (h : Own w base v xs) (hk : ∀ k, v.ownBlock = some k → w'.heap[k]? = w.heap[k]?) : Own w' base v xs := by
  rcases h with h | ⟨g, off, cap, cur, hv, hbg, hg, rest⟩
  · exact .inl h
  · subst hv
    obtain ⟨T, hg⟩ := hg
    exact .inr ⟨g, off, cap, cur, rfl, hbg, ⟨T, by rw [hk g rfl]; exact hg⟩, rest⟩
theorem Own.below {B base : Nat} {w w' : World} {v : Value} {xs : List Int} (h : Own w base v xs) (hb : Below B w w') (hB : ∀ k, v.ownBlock = some k → k < B) : Own w' base v xs :=
  h.kept fun k hk => hb.block k (hB k hk)
theorem Own.belowAll {base : Nat} {w w' : World} {v : Value} {xs : List Int} (h : Own w base v xs) (hb : Below w.heap.size w w') : Own w' base v xs :=
  h.below hb fun k hk => (h.lt k hk).2
theorem Own.drewN {w : World} {base : Nat} {v : Value} {xs : List Int} (h : Own w base v xs) (n : Nat) : Own (w.drewN n) base v xs := h
theorem Rd.drewN {w : World} {v : Value} {xs : List Int} (h : Rd w v xs) (n : Nat) : Rd (w.drewN n) v xs := h
theorem Own.drew {w : World} {base : Nat} {v : Value} {xs : List Int} (h : Own w base v xs) : Own w.drew base v xs := h
theorem Rd.drew {w : World} {v : Value} {xs : List Int} (h : Rd w v xs) : Rd w.drew v xs := h

theorem Rd.below {B : Nat} {w w' : World} {v : Value} {xs : List Int} (h : Rd w v xs) (hb : Below B w w') (hB : ∀ k, v.ownBlock = some k → k < B) : Rd w' v xs := by
  rcases h with h | ⟨b, off, cap, hv, h1, h2, h3, h4⟩
  · exact .inl h
  · subst hv
    exact .inr ⟨b, off, cap, rfl, h1, h2, by have := hb.size; omega, fun j hj => by rw [hb.cell (p := ⟨b, off + j, none⟩) (hB b rfl)]; exact h4 j hj⟩
theorem Rd.belowAll {w w' : World} {v : Value} {xs : List Int} (h : Rd w v xs) (hb : Below w.heap.size w w') : Rd w' v xs := by
  refine h.below hb fun k hk => ?_
  rcases h with ⟨rfl, _⟩ | ⟨b, off, cap, rfl, h1, h2, h3, h4⟩
  · simp [Value.ownBlock] at hk
  · simp [Value.ownBlock] at hk; omega

theorem Rd.shape {w : World} {v : Value} {xs : List Int} (h : Rd w v xs) : ∃ a cap, v = .slice a xs.length cap ∧ xs.length ≤ cap ∧ cap ≤ maxLen ∧
    (0 < xs.length → ∃ b off, a = some ⟨b, off, none⟩ ∧ b < w.heap.size ∧ ∀ j, j < xs.length → w.cell? ⟨b, off + j, none⟩ = some (.int .i64 ((xs[j]?.getD 0)))) := by
  rcases h with ⟨rfl, rfl⟩ | ⟨b, off, cap, rfl, h1, h2, h3, h4⟩
  · exact ⟨none, 0, rfl, by simp, by simp, by simp⟩
  · exact ⟨_, _, rfl, h1, h2, fun _ => ⟨b, off, rfl, h3, h4⟩⟩

theorem _root_.Go.World.grownBy.trans' {a b c : World} {row : Option Nat} (h : a.grownBy b row) (h2 : b.grownBy c row) : a.grownBy c row :=
  ⟨h2.os.trans h.os, h2.tape.trans h.tape, h2.output.trans h.output, Nat.le_trans h.size h2.size, fun k hk hne => (h2.block k (by have := h.size; omega) hne).trans (h.block k hk hne)⟩
/-- Nothing but draws lies between two worlds. -/
def Dr (w w' : World) : Prop := ∃ n, w' = w.drewN n
theorem Dr.refl (w : World) : Dr w w := ⟨0, rfl⟩
theorem Dr.drewN {w w' : World} (h : Dr w w') (n : Nat) : Dr w (w'.drewN n) := by
  obtain ⟨m, rfl⟩ := h
  exact ⟨m + n, by simp⟩
theorem Dr.drew {w w' : World} (h : Dr w w') : Dr w w'.drew := h.drewN 1
theorem Dr.trans {a b c : World} (h : Dr a b) (h2 : Dr b c) : Dr a c := by
  obtain ⟨m, rfl⟩ := h2
  exact h.drewN m
theorem Dr.below {B : Nat} {a w w' : World} (h : Dr w w') (hb : Below B a w) : Below B a w' := by
  obtain ⟨m, rfl⟩ := h
  exact hb.trans ⟨rfl, rfl, rfl, Nat.le_refl _, fun _ _ => rfl⟩

/-- For a walk: the value's own form, its length under a name. -/
theorem Rd.opn {w : World} {v : Value} {xs : List Int} (h : Rd w v xs) : ∃ a cap n, Hid (xs.length = n) ∧ v = .slice a n cap ∧ n ≤ cap ∧ n ≤ 9223372036854775807 ∧
    (0 < n → ∃ b off, a = some ⟨b, off, none⟩ ∧ b < w.heap.size ∧ ∀ j, j < n → w.cell? ⟨b, off + j, none⟩ = some (.int .i64 ((xs[j]?.getD 0)))) := by
  obtain ⟨a, cap, hv, h1, h2, h3⟩ := h.shape
  unfold maxLen at h2
  exact ⟨a, cap, xs.length, rfl, hv, h1, by omega, h3⟩

/-- From the library's own word: a row at its block's head. -/
theorem own_of_row {w : World} {base : Nat} {v : Value} {n : Nat} {xs : List Int} (h : w.ownsRow base 3 1 v n (ints xs)) : Own w base v xs := by
  obtain ⟨hl, h⟩ := h
  have hn : n = xs.length := by simpa using hl.symm
  subst hn
  rcases h with ⟨rfl, h0⟩ | ⟨g, cap, cur, rfl, hb, hg, h1, h2, h3, h4⟩
  · exact .inl ⟨rfl, List.eq_nil_of_length_eq_zero h0⟩
  · exact .inr ⟨g, 0, cap, cur, rfl, hb, ⟨_, hg⟩, h1, h2, by omega, by simpa using h4⟩

/-- A store into what is owned. -/
theorem Own.stored {w : World} {base : Nat} {v : Value} {xs : List Int} {g off n cap : Nat} (h : Own w base v xs) (hv : v = .slice (some ⟨g, off, none⟩) n cap) (j : Nat) (hj : j < xs.length) (u : Int) :
    Own (w.setCell ⟨g, off + j, none⟩ (.int .i64 u)) base v (xs.set j u) ∧ w.grownBy (w.setCell ⟨g, off + j, none⟩ (.int .i64 u)) (some g) := by
  rcases h with ⟨rfl, rfl⟩ | ⟨g', off', cap', cur, hv', hb, ⟨T, hg⟩, h1, h2, h3, h4⟩
  · simp at hj
  · rw [hv'] at hv
    simp only [Value.slice.injEq, Option.some.injEq, Addr.mk.injEq, and_true] at hv
    obtain ⟨⟨rfl, rfl⟩, rfl, rfl⟩ := hv
    refine ⟨.inr ⟨g', off', cap', cur.setIfInBounds (off' + j) (.int .i64 u), by simpa using hv', hb, ⟨T, heap_setCell_same w g' (off' + j) cur _ _ hg⟩, by simpa using h1, h2, by simpa using h3, ?_⟩,
      ⟨rfl, rfl, rfl, by simp, fun k _ hk => heap_setCell_other w ⟨g', off' + j, none⟩ k _ (fun e => hk (by simp [e]))⟩⟩
    rw [Array.toList_setIfInBounds, List.length_set]
    show List.take xs.length (List.drop off' (cur.toList.set (off' + j) (.int .i64 u))) = (xs.set j u).map (Value.int .i64)
    rw [List.map_set]
    show _ = (ints xs).set j (Value.int .i64 u)
    rw [← h4, List.drop_set, if_neg (by omega), List.take_set]
    congr 1; omega

theorem Own.frozenAt {w : World} {base : Nat} {v : Value} {xs : List Int} {g off n cap : Nat} (h : Own w base v xs) (hv : v = .slice (some ⟨g, off, none⟩) n cap) (j : Nat) : w.frozen? ⟨g, j, none⟩ = false := by
  rcases h with ⟨rfl, rfl⟩ | ⟨g', off', cap', cur, hv', hb, ⟨T, hg⟩, h1, h2, h3, h4⟩
  · simp at hv
  · rw [hv'] at hv
    simp only [Value.slice.injEq, Option.some.injEq, Addr.mk.injEq, and_true] at hv
    obtain ⟨⟨rfl, rfl⟩, rfl, rfl⟩ := hv
    exact frozen_of_row w g' j cur _ hg

/-- The cells of what is owned. -/
theorem Own.cellAt {w : World} {base : Nat} {v : Value} {xs : List Int} {g off n cap : Nat} (h : Own w base v xs) (hv : v = .slice (some ⟨g, off, none⟩) n cap) : n = xs.length ∧ ∀ j, j < xs.length → w.cell? ⟨g, off + j, none⟩ = some (.int .i64 ((xs[j]?.getD 0))) := by
  rcases h.rd with ⟨rfl, rfl⟩ | ⟨b, off', cap', hv', h1, h2, h3, h4⟩
  · simp at hv
  · rw [hv'] at hv
    simp only [Value.slice.injEq, Option.some.injEq, Addr.mk.injEq, and_true] at hv
    obtain ⟨⟨rfl, rfl⟩, rfl, rfl⟩ := hv
    exact ⟨rfl, h4⟩

theorem Try.infoInt : (Try.prog.info? 3).map (fun i => (i.zero, i.size, i.bytes)) = some (some (.int .i64 0), 1, 8) := by kernel_rfl

theorem take_succ' (zs : List Int) (k : Nat) (hk : k < zs.length) : zs.take (k + 1) = zs.take k ++ [zs[k]?.getD 0] := by
  rw [List.take_add_one, List.getElem?_eq_getElem hk]; rfl
theorem getD_wf {zs : List Int} (h : ∀ n ∈ zs, (Lit.int .i64 n).wf = true) (k : Nat) (hk : k < zs.length) : (Lit.int .i64 ((zs[k]?.getD 0))).wf = true := by
  have : (zs[k]?.getD 0) = zs[k] := by simp [hk]
  rw [this]; exact h _ (List.getElem_mem hk)
theorem take_eq_step {xs ys : List Int} {k : Nat} (hx : k < xs.length) (hy : k < ys.length) (h : xs.take k = ys.take k) (e : (xs[k]?.getD 0) = (ys[k]?.getD 0)) : xs.take (k + 1) = ys.take (k + 1) := by
  rw [take_succ' _ _ hx, take_succ' _ _ hy, h]
  congr 1
  simpa [List.getD] using e
/-- Whether two lists are equal. -/
def eqL (xs ys : List Int) : Bool := decide (xs = ys)
theorem eqL_refl (xs : List Int) : eqL xs xs = true := by simp [eqL]
theorem eqL_of {xs ys : List Int} (h : xs = ys) : eqL xs ys = true := by simp [eqL, h]
/-- The numbers from k on, as many as asked. -/
def cnt (k : Int) (n : Nat) : List Int := (List.range n).map fun (i : Nat) => k + (i : Int)
theorem cnt_len (k : Int) (n : Nat) : (cnt k n).length = n := by simp [cnt]
theorem cnt_getD (k : Int) (n j : Nat) (h : j < n) : ((cnt k n)[j]?.getD 0) = k + j := by simp [cnt, h]

section
variable {P : Program}
/-- append of one integer, to a slice of the call's own (the new element's block has just been laid). -/
theorem wpList_push {ops : Array Oper} {rest : List Oper} {o : Oper} {a : Act} {Q : Exit → Act → World → Prop} {wr : World} {y : Int} (hgd : o.guard = none) (s x : Operand) (T : TypeId)
    (ho : o.op = .call { callee := .builtin .append, args := #[s, x], argTypes := #[T, T] }) (ht : P.underlying T = some (.slice 3))
    (hinfo : (P.info? 3).map (fun i => (i.zero, i.size, i.bytes)) = some (some (.int .i64 0), 1, 8))
    (base : Nat) (v : Value) (n : Nat) (xs : List Int) (hs : a.eval s = v) (hown : wr.ownsRow base 3 1 v n (ints xs))
    (hx : a.eval x = .slice (some ⟨wr.heap.size, 0, none⟩) 1 1) (hn : n ≤ 1099511627776) (hbase : base ≤ wr.heap.size)
    (h : ∀ v' w', w'.ownsRow base 3 1 v' (n + 1) (ints (xs ++ [y])) → wr.grownBy w' v.ownBlock → wpList P ops Q rest (a.put o.dst v') w') :
    wpList P ops Q (o :: rest) a (wr.alloc (.cells #[.int .i64 y] 3)) := by
  obtain ⟨i0, hi, hz0, hz1, hz2⟩ := info_parts hinfo
  refine wpList_append_own _ hgd s x T ho base 3 i0 (.int .i64 0) 1 8 ht hi hz0 hz1 hz2 rfl (by decide) v n (ints xs) hs (hown.alloc _) ⟨wr.heap.size, 0, none⟩ 1 1 [.int .i64 y] hx rfl ?_ ?_ (by unfold maxLen; omega) (by omega) (by simp; omega) ?_
  · intro j u hu
    rcases j with _ | j
    · simp at hu; subst hu
      simp [Addr.add, World.cell?_alloc_at]
    · simp at hu
  · intro u hu; simp at hu; subst hu; rfl
  · intro v' w' h1 h2 _
    refine h v' w' ?_ ((World.grownBy_alloc _ _ _).trans' h2)
    simpa [ints] using h1
end

section
variable {P : Program}
/-- The same at a step of a region that draws its order; the new element's block is B. -/
theorem step_push {ops : Array Oper} {o : Oper} {a : Act} {K : Act → World → Prop} {Q : Exit → Act → World → Prop} {E : Prop} {w wr : World} {y : Int} (hgd : o.guard = none) (s x : Operand) (T : TypeId)
    (ho : o.op = .call { callee := .builtin .append, args := #[s, x], argTypes := #[T, T] }) (ht : P.underlying T = some (.slice 3))
    (hinfo : (P.info? 3).map (fun i => (i.zero, i.size, i.bytes)) = some (some (.int .i64 0), 1, 8))
    (base : Nat) (v : Value) (n : Nat) (xs : List Int) (hs : a.eval s = v) (hown : wr.ownsRow base 3 1 v n (ints xs)) (hw : w.heap = (wr.alloc (.cells #[.int .i64 y] 3)).heap)
    (hos : w.os = wr.os) (htape : w.tape = wr.tape) (hout : w.output = wr.output)
    (hx : a.eval x = .slice (some ⟨wr.heap.size, 0, none⟩) 1 1) (hn : n ≤ 1099511627776) (hbase : base ≤ wr.heap.size)
    (h : ∀ v' w', w'.ownsRow base 3 1 v' (n + 1) (ints (xs ++ [y])) → wr.grownBy w' v.ownBlock → K (a.put o.dst v') w') :
    if Region.wanted o (yielded ops a.tmps) = true then Oper.wp P o a w K Q else E := by
  have hwd : Region.wanted o (yielded ops a.tmps) = true := by simp [Region.wanted, hgd]
  rw [if_pos hwd]
  obtain ⟨i0, hi, hz0, hz1, hz2⟩ := info_parts hinfo
  have hown' : w.ownsRow base 3 1 v n (ints xs) := by
    have := hown.alloc (.cells #[.int .i64 y] 3)
    unfold World.ownsRow at this ⊢
    rw [hw]; exact this
  have hcell : ∀ p, w.cell? p = (wr.alloc (.cells #[.int .i64 y] 3)).cell? p := fun p => World.cell?_of_block (by rw [hw])
  refine wp_append_own w s x T ho base 3 i0 (.int .i64 0) 1 8 ht hi hz0 hz1 hz2 rfl (by decide) v n (ints xs) hs hown' ⟨wr.heap.size, 0, none⟩ 1 1 [.int .i64 y] hx rfl ?_ ?_ (by unfold maxLen; omega) (by omega) (by rw [hw]; simp; omega) ?_
  · intro j u hu
    rcases j with _ | j
    · simp at hu; subst hu
      rw [hcell]
      simp [Addr.add, World.cell?_alloc_at]
    · simp at hu
  · intro u hu; simp at hu; subst hu; rfl
  · intro v' w' h1 h2 _
    refine h v' w' (by simpa [ints] using h1) ?_
    exact ⟨h2.os.trans hos, h2.tape.trans htape, h2.output.trans hout, by have := h2.size; rw [hw] at this; simp at this; omega,
      fun k hk hne => (h2.block k (by rw [hw]; simp; omega) hne).trans (by rw [hw]; exact heap_alloc_old wr _ hk)⟩
end

/-- So many zeros, as cells. -/
def zer (n : Nat) : Array Value := (ints (List.replicate n 0)).toArray
/-- make([]int, n): an equation for the walk. -/
theorem run_mk {P : Program} {T : TypeId} (ht : P.underlying T = some (.slice 3))
    (hinfo : (P.info? 3).map (fun i => (i.zero, i.size, i.bytes)) = some (some (.int .i64 0), 1, 8)) (n : Nat) (hn : n ≤ 1099511627776) (w : World) :
    (Instr.makeSlice T (.int .i64 n) (.int .i64 n)).run P w = .ok (.slice (some ⟨w.heap.size, 0, none⟩) n n) (w.alloc (.cells (zer n) 3)) := by
  obtain ⟨i0, hi, hz0, hz1, hz2⟩ := info_parts hinfo
  have hr := run_make (P := P) w T 3 i0 (.int .i64 0) ht hi hz0 .i64 .i64 n n (by omega) (Int.le_refl _) (by rw [hz2]; omega) (by omega)
  simp only [Int.toNat_natCast, hz1, Nat.mul_one] at hr
  rw [hr]
  have e : madeCells (Value.int .i64 0).cells n = zer n := by
    apply Array.toList_inj.1
    have := toList_madeCells_one (.int .i64 0) n
    simpa [zer, ints, Value.cells] using this
  rw [e]
theorem own_zer {w : World} {n : Nat} (hn : n ≤ 1099511627776) : Own (w.alloc (.cells (zer n) 3)) w.heap.size (.slice (some ⟨w.heap.size, 0, none⟩) n n) (List.replicate n 0) :=
  .inr ⟨w.heap.size, 0, n, zer n, by simp, Nat.le_refl _, ⟨_, heap_alloc_new w _⟩, by simp, by unfold maxLen; omega, by simp [zer], by simp [zer]⟩

/-- Behind what 'grownBy' says: the rest of memory. -/
theorem below_push {B base : Nat} {u w w' : World} {v : Value} {n : Nat} {xs : List Value} {e : TypeId} (hb : Below B u w) (hown : w.ownsRow base e 1 v n xs) (hg : w.grownBy w' v.ownBlock) (hB : B ≤ base) (hB2 : B ≤ w.heap.size) : Below B u w' :=
  hb.grown hg hB2 fun k hk => by have := (hown.lt k hk).1; omega

end Go.Proofs.Ytphhenlokbodnaa
