/- Joined: XInt XCur XCs XSymP XNamP XIntW XSymW XNamW XNamS. -/
import Derived.Test.YtmkkdenhjfjmgaaGreatProg
import Derived.WalkKit
import Derived.Lib.Hide
import Derived.Deep.DeepFit
import Derived.Deep.QuietTactic
import Derived.BigQuiet
import Derived.Deep.LoopGhost
import Derived.Deep.DeepMust
import Derived.StillTailTactics
import Derived.Deep.RegionHeld3
import Derived.WalkSpells
import Derived.WalkLawsBesides
import Derived.Handy
import Derived.OpenShut
import Derived.Deep.AppendLies
namespace Go.Proofs.YtmkkdenhjfjmgaaGreat
open Go.RowKit

/-- The integers of a list, as cells. -/
abbrev ints (xs : List Int) : List Value := xs.map (Value.int .i64)

/-- The slice value 'v' reads as the list 'xs' in the world 'w'. -/
def Rd (w : World) (v : Value) (xs : List Int) : Prop :=
  (v = .slice none 0 0 ∧ xs = []) ∨
  ∃ b off cap, v = .slice (some ⟨b, off, none⟩) xs.length cap ∧ xs.length ≤ cap ∧ cap ≤ maxLen ∧ b < w.heap.size ∧ ∀ j, j < xs.length → w.cell? ⟨b, off + j, none⟩ = some (.int .i64 ((xs[j]?.getD 0)))

/-- The slice value 'v' reads as 'xs' and lies in block 'v.ownBlock', which is one of integers, from 'base' on, and not frozen. -/
def Own (w : World) (base : Nat) (v : Value) (xs : List Int) : Prop :=
  (v = .slice none 0 0 ∧ xs = []) ∨
  ∃ g off cap cur, v = .slice (some ⟨g, off, none⟩) xs.length cap ∧ base ≤ g ∧ (∃ T, w.heap[g]? = some (.cells cur T (0, 0))) ∧ xs.length ≤ cap ∧ cap ≤ maxLen ∧ off + cap ≤ cur.size ∧ (cur.toList.drop off).take xs.length = ints xs

theorem Own.rd {w : World} {base : Nat} {v : Value} {xs : List Int} (h : Own w base v xs) : Rd w v xs := by
  rcases h with h | ⟨g, off, cap, cur, hv, hb, ⟨T, hg⟩, hl, hm, hs, ht⟩
  · exact .inl h
  · refine .inr ⟨g, off, cap, hv, hl, hm, (Array.getElem?_eq_some_iff.1 hg).1, fun j hj => ?_⟩
    rw [cell_of_row w g (off + j) cur _ (0, 0) hg]
    have e : ((cur.toList.drop off).take xs.length)[j]? = (ints xs)[j]? := by rw [ht]
    rw [List.getElem?_take, if_pos hj, List.getElem?_drop] at e
    rw [← Array.getElem?_toList, e]
    simp [hj]

theorem Own.lt {w : World} {base : Nat} {v : Value} {xs : List Int} (h : Own w base v xs) : ∀ k, v.ownBlock = some k → base ≤ k ∧ k < w.heap.size := by
  intro k hk
  rcases h with ⟨rfl, _⟩ | ⟨g, off, cap, cur, rfl, hb, ⟨T, hg⟩, _⟩
  · simp [Value.ownBlock] at hk
  · simp [Value.ownBlock] at hk
    subst hk
    exact ⟨hb, (Array.getElem?_eq_some_iff.1 hg).1⟩

theorem Own.len {w : World} {base : Nat} {v : Value} {xs : List Int} (h : Own w base v xs) : xs.length ≤ maxLen := by
  rcases h with ⟨_, rfl⟩ | ⟨g, off, cap, cur, rfl, hb, hg, h1, h2, _⟩
  · simp
  · omega
theorem Rd.len {w : World} {v : Value} {xs : List Int} (h : Rd w v xs) : xs.length ≤ maxLen := by
  rcases h with ⟨_, rfl⟩ | ⟨g, off, cap, rfl, h1, h2, _⟩
  · simp
  · omega

theorem Own.mono {w : World} {base base' : Nat} {v : Value} {xs : List Int} (h : Own w base v xs) (hb : base' ≤ base) : Own w base' v xs := by
  rcases h with h | ⟨g, off, cap, cur, hv, hbg, rest⟩
  · exact .inl h
  · exact .inr ⟨g, off, cap, cur, hv, by omega, rest⟩

/-- What is owned stays owned where its block is as it was. -/
theorem Own.kept {w w' : World} {base : Nat} {v : Value} {xs : List Int} (h : Own w base v xs) (hk : ∀ k, v.ownBlock = some k → w'.heap[k]? = w.heap[k]?) : Own w' base v xs := by
  rcases h with h | ⟨g, off, cap, cur, hv, hbg, hg, rest⟩
  · exact .inl h
  · subst hv
    obtain ⟨T, hg⟩ := hg
    exact .inr ⟨g, off, cap, cur, rfl, hbg, ⟨T, by rw [hk g rfl]; exact hg⟩, rest⟩
theorem Own.below {B base : Nat} {w w' : World} {v : Value} {xs : List Int} (h : Own w base v xs) (hb : Below B w w') (hB : ∀ k, v.ownBlock = some k → k < B) : Own w' base v xs :=
  h.kept fun k hk => hb.block k (hB k hk)
theorem Own.belowAll {base : Nat} {w w' : World} {v : Value} {xs : List Int} (h : Own w base v xs) (hb : Below w.heap.size w w') : Own w' base v xs :=
  h.below hb fun k hk => (h.lt k hk).2
theorem Own.drewN {w : World} {base : Nat} {v : Value} {xs : List Int} (h : Own w base v xs) (n : Nat) : Own (w.drewN n) base v xs := h
theorem Rd.drewN {w : World} {v : Value} {xs : List Int} (h : Rd w v xs) (n : Nat) : Rd (w.drewN n) v xs := h
theorem Own.drew {w : World} {base : Nat} {v : Value} {xs : List Int} (h : Own w base v xs) : Own w.drew base v xs := h
theorem Rd.drew {w : World} {v : Value} {xs : List Int} (h : Rd w v xs) : Rd w.drew v xs := h

theorem Rd.below {B : Nat} {w w' : World} {v : Value} {xs : List Int} (h : Rd w v xs) (hb : Below B w w') (hB : ∀ k, v.ownBlock = some k → k < B) : Rd w' v xs := by
  rcases h with h | ⟨b, off, cap, hv, h1, h2, h3, h4⟩
  · exact .inl h
  · subst hv
    exact .inr ⟨b, off, cap, rfl, h1, h2, by have := hb.size; omega, fun j hj => by rw [hb.cell (p := ⟨b, off + j, none⟩) (hB b rfl)]; exact h4 j hj⟩
theorem Rd.belowAll {w w' : World} {v : Value} {xs : List Int} (h : Rd w v xs) (hb : Below w.heap.size w w') : Rd w' v xs := by
  refine h.below hb fun k hk => ?_
  rcases h with ⟨rfl, _⟩ | ⟨b, off, cap, rfl, h1, h2, h3, h4⟩
  · simp [Value.ownBlock] at hk
  · simp [Value.ownBlock] at hk; omega

theorem Rd.shape {w : World} {v : Value} {xs : List Int} (h : Rd w v xs) : ∃ a cap, v = .slice a xs.length cap ∧ xs.length ≤ cap ∧ cap ≤ maxLen ∧
    (0 < xs.length → ∃ b off, a = some ⟨b, off, none⟩ ∧ b < w.heap.size ∧ ∀ j, j < xs.length → w.cell? ⟨b, off + j, none⟩ = some (.int .i64 ((xs[j]?.getD 0)))) := by
  rcases h with ⟨rfl, rfl⟩ | ⟨b, off, cap, rfl, h1, h2, h3, h4⟩
  · exact ⟨none, 0, rfl, by simp, by simp, by simp⟩
  · exact ⟨_, _, rfl, h1, h2, fun _ => ⟨b, off, rfl, h3, h4⟩⟩

theorem _root_.Go.World.grownBy.trans' {a b c : World} {row : Option Nat} (h : a.grownBy b row) (h2 : b.grownBy c row) : a.grownBy c row :=
  ⟨h2.os.trans h.os, h2.tape.trans h.tape, h2.output.trans h.output, Nat.le_trans h.size h2.size, fun k hk hne => (h2.block k (by have := h.size; omega) hne).trans (h.block k hk hne)⟩
/-- Nothing but draws lies between two worlds. -/
def Dr (w w' : World) : Prop := ∃ n, w' = w.drewN n
theorem Dr.refl (w : World) : Dr w w := ⟨0, rfl⟩
theorem Dr.drewN {w w' : World} (h : Dr w w') (n : Nat) : Dr w (w'.drewN n) := by
  obtain ⟨m, rfl⟩ := h
  exact ⟨m + n, by simp⟩
theorem Dr.drew {w w' : World} (h : Dr w w') : Dr w w'.drew := h.drewN 1
theorem Dr.trans {a b c : World} (h : Dr a b) (h2 : Dr b c) : Dr a c := by
  obtain ⟨m, rfl⟩ := h2
  exact h.drewN m
theorem Dr.below {B : Nat} {a w w' : World} (h : Dr w w') (hb : Below B a w) : Below B a w' := by
  obtain ⟨m, rfl⟩ := h
  exact hb.trans ⟨rfl, rfl, rfl, Nat.le_refl _, fun _ _ => rfl⟩

/-- For a walk: the value's own form, its length under a name. -/
theorem Rd.opn {w : World} {v : Value} {xs : List Int} (h : Rd w v xs) : ∃ a cap n, Hid (xs.length = n) ∧ v = .slice a n cap ∧ n ≤ cap ∧ n ≤ 9223372036854775807 ∧
    (0 < n → ∃ b off, a = some ⟨b, off, none⟩ ∧ b < w.heap.size ∧ ∀ j, j < n → w.cell? ⟨b, off + j, none⟩ = some (.int .i64 ((xs[j]?.getD 0)))) := by
  obtain ⟨a, cap, hv, h1, h2, h3⟩ := h.shape
  unfold maxLen at h2
  exact ⟨a, cap, xs.length, rfl, hv, h1, by omega, h3⟩

/-- From the library's own word: a row at its block's head. -/
theorem own_of_row {w : World} {base : Nat} {v : Value} {n : Nat} {xs : List Int} (h : w.ownsRow base 3 1 v n (ints xs)) : Own w base v xs := by
  obtain ⟨hl, h⟩ := h
  have hn : n = xs.length := by simpa using hl.symm
  subst hn
  rcases h with ⟨rfl, h0⟩ | ⟨g, cap, cur, rfl, hb, hg, h1, h2, h3, h4⟩
  · exact .inl ⟨rfl, List.eq_nil_of_length_eq_zero h0⟩
  · exact .inr ⟨g, 0, cap, cur, rfl, hb, ⟨_, hg⟩, h1, h2, by omega, by simpa using h4⟩

/-- A store into what is owned. -/
theorem Own.stored {w : World} {base : Nat} {v : Value} {xs : List Int} {g off n cap : Nat} (h : Own w base v xs) (hv : v = .slice (some ⟨g, off, none⟩) n cap) (j : Nat) (hj : j < xs.length) (u : Int) :
    Own (w.setCell ⟨g, off + j, none⟩ (.int .i64 u)) base v (xs.set j u) ∧ w.grownBy (w.setCell ⟨g, off + j, none⟩ (.int .i64 u)) (some g) := by
  rcases h with ⟨rfl, rfl⟩ | ⟨g', off', cap', cur, hv', hb, ⟨T, hg⟩, h1, h2, h3, h4⟩
  · simp at hj
  · rw [hv'] at hv
    simp only [Value.slice.injEq, Option.some.injEq, Addr.mk.injEq, and_true] at hv
    obtain ⟨⟨rfl, rfl⟩, rfl, rfl⟩ := hv
    refine ⟨.inr ⟨g', off', cap', cur.setIfInBounds (off' + j) (.int .i64 u), by simpa using hv', hb, ⟨T, heap_setCell_same w g' (off' + j) cur _ _ hg⟩, by simpa using h1, h2, by simpa using h3, ?_⟩,
      ⟨rfl, rfl, rfl, by simp, fun k _ hk => heap_setCell_other w ⟨g', off' + j, none⟩ k _ (fun e => hk (by simp [e]))⟩⟩
    rw [Array.toList_setIfInBounds, List.length_set]
    show List.take xs.length (List.drop off' (cur.toList.set (off' + j) (.int .i64 u))) = (xs.set j u).map (Value.int .i64)
    rw [List.map_set]
    show _ = (ints xs).set j (Value.int .i64 u)
    rw [← h4, List.drop_set, if_neg (by omega), List.take_set]
    congr 1; omega

/-- The cells of what is owned. -/
theorem Own.cellAt {w : World} {base : Nat} {v : Value} {xs : List Int} {g off n cap : Nat} (h : Own w base v xs) (hv : v = .slice (some ⟨g, off, none⟩) n cap) : n = xs.length ∧ ∀ j, j < xs.length → w.cell? ⟨g, off + j, none⟩ = some (.int .i64 ((xs[j]?.getD 0))) := by
  rcases h.rd with ⟨rfl, rfl⟩ | ⟨b, off', cap', hv', h1, h2, h3, h4⟩
  · simp at hv
  · rw [hv'] at hv
    simp only [Value.slice.injEq, Option.some.injEq, Addr.mk.injEq, and_true] at hv
    obtain ⟨⟨rfl, rfl⟩, rfl, rfl⟩ := hv
    exact ⟨rfl, h4⟩

theorem Tryz.infoInt : (Tryz.prog.info? 3).map (fun i => (i.zero, i.size, i.bytes)) = some (some (.int .i64 0), 1, 8) := by kernel_rfl

theorem take_succ' (zs : List Int) (k : Nat) (hk : k < zs.length) : zs.take (k + 1) = zs.take k ++ [zs[k]?.getD 0] := by
  rw [List.take_add_one, List.getElem?_eq_getElem hk]; rfl
theorem take_eq_step {xs ys : List Int} {k : Nat} (hx : k < xs.length) (hy : k < ys.length) (h : xs.take k = ys.take k) (e : (xs[k]?.getD 0) = (ys[k]?.getD 0)) : xs.take (k + 1) = ys.take (k + 1) := by
  rw [take_succ' _ _ hx, take_succ' _ _ hy, h]
  congr 1
  simpa [List.getD] using e
section
variable {P : Program}
/-- append of one integer, to a slice of the call's own (the new element's block has just been laid). -/
theorem wpList_push {ops : Array Oper} {rest : List Oper} {o : Oper} {a : Act} {Q : Exit → Act → World → Prop} {wr : World} {y : Int} (hgd : o.guard = none) (s x : Operand) (T : TypeId)
    (ho : o.op = .call { callee := .builtin .append, args := #[s, x], argTypes := #[T, T] }) (ht : P.underlying T = some (.slice 3))
    (hinfo : (P.info? 3).map (fun i => (i.zero, i.size, i.bytes)) = some (some (.int .i64 0), 1, 8))
    (base : Nat) (v : Value) (n : Nat) (xs : List Int) (hs : a.eval s = v) (hown : wr.ownsRow base 3 1 v n (ints xs))
    (hx : a.eval x = .slice (some ⟨wr.heap.size, 0, none⟩) 1 1) (hn : n ≤ 1099511627776) (hbase : base ≤ wr.heap.size)
    (h : ∀ v' w', w'.ownsRow base 3 1 v' (n + 1) (ints (xs ++ [y])) → wr.grownBy w' v.ownBlock → wpList P ops Q rest (a.put o.dst v') w') :
    wpList P ops Q (o :: rest) a (wr.alloc (.cells #[.int .i64 y] 3)) := by
  obtain ⟨i0, hi, hz0, hz1, hz2⟩ := info_parts hinfo
  refine wpList_append_own _ hgd s x T ho base 3 i0 (.int .i64 0) 1 8 ht hi hz0 hz1 hz2 rfl (by decide) v n (ints xs) hs (hown.alloc _) ⟨wr.heap.size, 0, none⟩ 1 1 [.int .i64 y] hx rfl ?_ ?_ (by unfold maxLen; omega) (by omega) (by simp; omega) ?_
  · intro j u hu
    rcases j with _ | j
    · simp at hu; subst hu
      simp [Addr.add, World.cell?_alloc_at]
    · simp at hu
  · intro u hu; simp at hu; subst hu; rfl
  · intro v' w' h1 h2 _
    refine h v' w' ?_ ((World.grownBy_alloc _ _ _).trans' h2)
    simpa [ints] using h1
end

section
variable {P : Program}
end

end Go.Proofs.YtmkkdenhjfjmgaaGreat
namespace Go.Proofs.YtmkkdenhjfjmgaaGreat
open Go.RowKit

/-- A slice of bytes that can be read. -/
def RdB (w : World) (v : Value) : Prop :=
  ∃ a len cap, v = .slice a len cap ∧ len ≤ cap ∧ len ≤ 281474976710656 ∧ (0 < len → ∃ b off, a = some ⟨b, off, none⟩ ∧ b < w.heap.size ∧ ∀ j, j < len → ∃ x : Int, 0 ≤ x ∧ x ≤ 255 ∧ w.cell? ⟨b, off + j, none⟩ = some (.int .u8 x))
/-- The block in which a slice that is not empty lies. -/
def bb : Value → Option Nat
  | .slice (some a) (_ + 1) _ => some a.block
  | _ => none
theorem bb_some {b off len cap : Nat} (h : 0 < len) : bb (.slice (some ⟨b, off, none⟩) len cap) = some b := by
  obtain ⟨n, rfl⟩ : ∃ n, len = n + 1 := ⟨len - 1, by omega⟩
  rfl
theorem RdB.lt {w : World} {v : Value} (h : RdB w v) : ∀ j, bb v = some j → j < w.heap.size := by
  obtain ⟨a, len, cap, rfl, h1, h2, h3⟩ := h
  intro j hj
  rcases Nat.eq_zero_or_pos len with h0 | h0
  · subst h0; cases a <;> simp [bb] at hj
  · obtain ⟨b, off, rfl, hb, _⟩ := h3 h0
    rw [bb_some h0] at hj
    simp at hj; omega
theorem RdB.kept {w w' : World} {v : Value} (h : RdB w v) (hs : w.heap.size ≤ w'.heap.size) (hk : ∀ k, bb v = some k → w'.heap[k]? = w.heap[k]?) : RdB w' v := by
  obtain ⟨a, len, cap, rfl, h1, h2, h3⟩ := h
  refine ⟨a, len, cap, rfl, h1, h2, fun hl => ?_⟩
  obtain ⟨b, off, rfl, hb, hc⟩ := h3 hl
  refine ⟨b, off, rfl, by omega, fun j hj => ?_⟩
  obtain ⟨x, x1, x2, x3⟩ := hc j hj
  exact ⟨x, x1, x2, by rw [World.cell?_of_block (w := w) (hk b (bb_some hl))]; exact x3⟩

/-- Block B is a cursor over the bytes c, at place k. -/
def Cur (w : World) (B : Nat) (c : Value) (k : Nat) : Prop :=
  RdB w c ∧ (∀ j, bb c = some j → j ≠ B) ∧ ∃ s : Int, 0 ≤ s ∧ s < 18446744073709551616 ∧ w.heap[B]? = some (.cells #[c, .int .i64 k, .int .u64 s] 107 (0, 0))

/-- The answer lies in a range; the cursor has moved on; nothing else is changed. -/
def CurPost (w : World) (B : Nat) (c : Value) (k m : Nat) (lo hi : Int) (e : Ending) (w' : World) : Prop :=
  ∃ (x : Int) (k' : Nat), lo ≤ x ∧ x ≤ hi ∧ e = .returned (.int .i64 x) ∧ k' ≤ k + m ∧ Cur w' B c k' ∧ w.grownBy w' (some B) ∧ w'.heap.size = w.heap.size

theorem u64_bd (n : Int) : 0 ≤ IntKind.u64.wrap n ∧ IntKind.u64.wrap n < 18446744073709551616 := by
  have : IntKind.u64.wrap n = n % 18446744073709551616 := by simp [IntKind.wrap, IntKind.bits, IntKind.signed]
  rw [this]; omega
theorem and255_bd (y : Int) (h0 : 0 ≤ y) (h1 : y < 18446744073709551616) : 0 ≤ wrap64 (bits BinOp.and .u64 y 255) ∧ wrap64 (bits BinOp.and .u64 y 255) ≤ 255 := by
  rw [u64_and y 255 h0 h1 (by omega) (by omega)]
  have : y.toNat &&& (255 : Int).toNat ≤ 255 := Nat.and_le_right
  rw [IntWalk.wrap64_in _ (by omega)]; omega
theorem cur_after {w : World} {B k : Nat} {c : Value} {s s2 : Int} (hB : w.heap[B]? = some (.cells #[c, .int .i64 k, .int .u64 s] 107 (0, 0))) (hne : ∀ j, bb c = some j → j ≠ B)
    (hs2 : 0 ≤ s2 ∧ s2 < 18446744073709551616) (hc : RdB w c) (m n : Nat) :
    let w' := (((w.drewN m).setCell ⟨B, 1, none⟩ (.int .i64 ((k : Int) + 1))).setCell ⟨B, 2, none⟩ (.int .u64 s2)).drewN n
    Cur w' B c (k + 1) ∧ w.grownBy w' (some B) ∧ w'.heap.size = w.heap.size := by
  intro w'
  have h1 : ((w.drewN m).setCell ⟨B, 1, none⟩ (.int .i64 ((k : Int) + 1))).heap[B]? = some (.cells #[c, .int .i64 ((k : Int) + 1), .int .u64 s] 107 (0, 0)) := by
    rw [heap_setCell_same (w.drewN m) B 1 _ _ _ hB]; rfl
  have h2 : w'.heap[B]? = some (.cells #[c, .int .i64 ((k : Int) + 1), .int .u64 s2] 107 (0, 0)) := by
    show (((w.drewN m).setCell ⟨B, 1, none⟩ (.int .i64 ((k : Int) + 1))).setCell ⟨B, 2, none⟩ (.int .u64 s2)).heap[B]? = _
    rw [heap_setCell_same _ B 2 _ _ _ h1]; rfl
  have ho : ∀ j, j ≠ B → w'.heap[j]? = w.heap[j]? := fun j hj => by
    show (((w.drewN m).setCell ⟨B, 1, none⟩ (.int .i64 ((k : Int) + 1))).setCell ⟨B, 2, none⟩ (.int .u64 s2)).heap[j]? = _
    rw [heap_setCell_other _ _ _ _ hj, heap_setCell_other _ _ _ _ hj]; rfl
  have hsz : w'.heap.size = w.heap.size := by simp [w']
  refine ⟨⟨hc.kept (by omega) fun j hj => ho j (hne j hj), hne, s2, hs2.1, hs2.2, ?_⟩, ⟨rfl, rfl, rfl, by omega, fun j _ hj => ho j fun e => hj (by rw [e])⟩, hsz⟩
  rw [h2]; rfl

set_option maxHeartbeats 1600000 in
theorem next_any (B : Nat) (c : Value) (k : Nat) (w : World) (h : Cur w B c k) (hk : k ≤ 4611686018427387904) :
    Calls Tryz.prog 129 #[.pointer (some ⟨B, 0, none⟩)] w (CurPost w B c k 1 0 255) := by
  obtain ⟨hc, hne, s, hs0, hs1, hB⟩ := h
  obtain ⟨a, len, cap, rfl, hlc, hlen, ha⟩ := hc
  have c0 : w.cell? ⟨B, 0, none⟩ = some (.slice a len cap) := by rw [cell_of_row w _ _ _ _ _ hB]; rfl
  have c1 : w.cell? ⟨B, 1, none⟩ = some (.int .i64 k) := by rw [cell_of_row w _ _ _ _ _ hB]; rfl
  have c2 : w.cell? ⟨B, 2, none⟩ = some (.int .u64 s) := by rw [cell_of_row w _ _ _ _ _ hB]; rfl
  have fr : ∀ j, w.frozen? ⟨B, j, none⟩ = false := fun j => frozen_of_row w _ j _ _ hB
  have HB := Lib.hid hB
  clear hB
  by_cases hlt : k < len
  · obtain ⟨b, off, rfl, hbs, hcc⟩ := ha (by omega)
    obtain ⟨x, x0, x1, hx⟩ := hcc k hlt
    clear hcc
    have hltI : (k : Int) < (len : Int) := by omega
    have hd : decide ((k : Int) < (len : Int)) = true := by simpa using hlt
    go_enter Tryz.func129, Tryz.ntmps129
    go_wp2
    go_quiet (fail)
    go_wp2
    go_quiet (fail)
    go_wp2
    have hs2 := u64_bd (IntKind.u64.wrap (IntKind.u64.wrap (s * 6364136223846793005) + x) + 897897)
    generalize IntKind.u64.wrap (IntKind.u64.wrap (IntKind.u64.wrap (s * 6364136223846793005) + x) + 897897) = s2 at *
    have hle : ((k : Int) + 1 ≤ (len : Int)) := by omega
    go_quiet (fail)
    go_wp2
    go_ret
    exact ⟨x, k + 1, x0, x1, rfl, Nat.le_refl _, cur_after HB.out hne hs2 ⟨_, len, cap, rfl, hlc, hlen, ha⟩ _ _⟩
  · have hd : decide ((k : Int) < (len : Int)) = false := by simpa using hlt
    have hltI : ¬ ((k : Int) < (len : Int)) := by omega
    go_enter Tryz.func129, Tryz.ntmps129
    go_wp2
    go_quiet (fail)
    go_wp2
    have hs2 := u64_bd (IntKind.u64.wrap (IntKind.u64.wrap (s * 6364136223846793005)) + 897897)
    generalize IntKind.u64.wrap (IntKind.u64.wrap (IntKind.u64.wrap (s * 6364136223846793005)) + 897897) = s2 at *
    obtain ⟨hs20, hs21⟩ := hs2
    have hle : decide ((k : Int) + 1 ≤ (len : Int)) = false := by simp; omega
    have hleI : ¬ ((k : Int) + 1 ≤ (len : Int)) := by omega
    go_quiet (fail)
    go_wp2
    have hy : 0 ≤ s2 / 1099511627776 ∧ s2 / 1099511627776 < 18446744073709551616 := by omega
    have hx := and255_bd (s2 / 1099511627776) hy.1 hy.2
    go_ret
    exact ⟨_, k + 1, hx.1, hx.2, rfl, Nat.le_refl _, cur_after HB.out hne ⟨hs20, hs21⟩ ⟨_, len, cap, rfl, hlc, hlen, ha⟩ _ _⟩

set_option maxHeartbeats 1600000 in
theorem pick_any (B : Nat) (c : Value) (k : Nat) (n : Int) (w : World) (h : Cur w B c k) (hk : k ≤ 4611686018427387000) (hn : 1 ≤ n) (hn2 : n ≤ 1073741824) :
    Calls Tryz.prog 82 #[.pointer (some ⟨B, 0, none⟩), .int .i64 n] w (CurPost w B c k 2 0 (n - 1)) := by
  by_cases h1 : n = 1
  · subst h1
    go_enter Tryz.func82, Tryz.ntmps82
    go_wp2
    go_ret
    exact ⟨0, k, by omega, by omega, rfl, by omega, h, World.grownBy.refl _ _, rfl⟩
  · have h2 : ¬ n ≤ 1 := by omega
    by_cases h3 : 200 < n
    · go_enter Tryz.func82, Tryz.ntmps82
      go_wp2_with fail
      refine (next_any B c k _ h (by omega)).mono ?_
      rintro e w1 ⟨x, k1, x0, x1, rfl, hk1, hc1, hg1, hs1⟩
      go_wp2_with fail
      refine (next_any B c k1 _ hc1 (by omega)).mono ?_
      rintro e w2 ⟨y, k2, y0, y1, rfl, hk2, hc2, hg2, hs2⟩
      go_wp2
      go_ret
      have := Int.emod_nonneg (x * 256 + y) (show n ≠ 0 by omega)
      have := Int.emod_lt_of_pos (x * 256 + y) (show 0 < n by omega)
      exact ⟨_, k2, by omega, by omega, rfl, by omega, hc2, hg1.trans' hg2, hs2.trans hs1⟩
    · go_enter Tryz.func82, Tryz.ntmps82
      go_wp2_with fail
      refine (next_any B c k _ h (by omega)).mono ?_
      rintro e w1 ⟨x, k1, x0, x1, rfl, hk1, hc1, hg1, hs1⟩
      go_wp2
      go_ret
      have := Int.emod_nonneg x (show n ≠ 0 by omega)
      have := Int.emod_lt_of_pos x (show 0 < n by omega)
      exact ⟨_, k1, by omega, by omega, rfl, by omega, hc1, hg1, hs1⟩
end Go.Proofs.YtmkkdenhjfjmgaaGreat
namespace Go.Proofs.YtmkkdenhjfjmgaaGreat
open Go.RowKit
set_option maxRecDepth 100000

/-- Block B is a cursor over the bytes c, at a place up to K. -/
def Cs (w : World) (B : Nat) (c : Value) (K : Nat) : Prop := ∃ k, k ≤ K ∧ Cur w B c k
theorem Cs.lt {w : World} {B K : Nat} {c : Value} (h : Cs w B c K) : B < w.heap.size ∧ ∀ j, bb c = some j → j < w.heap.size := by
  obtain ⟨k, _, h1, h2, s, h3, h4, h5⟩ := h
  exact ⟨(Array.getElem?_eq_some_iff.1 h5).1, h1.lt⟩
theorem Cs.kept {w w' : World} {B K : Nat} {c : Value} (h : Cs w B c K) (hs : w.heap.size ≤ w'.heap.size) (hB : w'.heap[B]? = w.heap[B]?) (hc : ∀ j, bb c = some j → w'.heap[j]? = w.heap[j]?) : Cs w' B c K := by
  obtain ⟨k, hk, h1, h2, s, h3, h4, h5⟩ := h
  exact ⟨k, hk, h1.kept hs hc, h2, s, h3, h4, by rw [hB]; exact h5⟩
/-- Since the world w0 only the cursor has moved, and memory has been made. -/
def CS (w0 : World) (B : Nat) (c : Value) (K : Nat) (w' : World) : Prop := (B < w0.heap.size ∧ ∀ j, bb c = some j → j < w0.heap.size) ∧ Cs w' B c K ∧ w0.grownBy w' (some B)
section
variable {w0 w w' w'' : World} {B K K' : Nat} {c : Value}
theorem Cs.here (h : Cs w B c K) : CS w B c K w := ⟨h.lt, h, World.grownBy.refl _ _⟩
theorem Cs.mono (h : Cs w B c K) (hk : K ≤ K') : Cs w B c K' := by obtain ⟨k, h1, h2⟩ := h; exact ⟨k, by omega, h2⟩
theorem CS.mono (h : CS w0 B c K w) (hk : K ≤ K') : CS w0 B c K' w := ⟨h.1, h.2.1.mono hk, h.2.2⟩
theorem CS.size (h : CS w0 B c K w) : w0.heap.size ≤ w.heap.size := h.2.2.size
theorem CS.st (h : CS w0 B c K w) : Cs w B c K := h.2.1
theorem CS.call (h : CS w0 B c K w) (h2 : CS w B c K' w') : CS w0 B c K' w' := ⟨h.1, h2.2.1, h.2.2.trans' h2.2.2⟩
theorem CS.grown {row : Option Nat} (h : CS w0 B c K w) (hg : w.grownBy w' row) (hr : ∀ g, row = some g → w0.heap.size ≤ g) : CS w0 B c K w' := by
  have hs := h.size
  refine ⟨h.1, h.2.1.kept hg.size (hg.block _ h.2.1.lt.1 fun e => by have := hr _ e.symm; have := h.1.1; omega) (fun j hj => hg.block j (h.2.1.lt.2 j hj) fun e => by have := hr _ e.symm; have := h.1.2 j hj; omega), ?_⟩
  have g := h.2.2
  exact ⟨hg.os.trans g.os, hg.tape.trans g.tape, hg.output.trans g.output, Nat.le_trans g.size hg.size, fun k hk hne => by
    rw [hg.block k (by omega) (fun e => by have := hr k e.symm; omega), g.block k hk hne]⟩
theorem CS.below (h : CS w0 B c K w) (hb : Below w.heap.size w w') : CS w0 B c K w' :=
  h.grown (row := none) ⟨hb.os, hb.tape, hb.output, hb.size, fun k hk _ => hb.block k hk⟩ (fun g e => by cases e)
theorem CS.alloc (h : CS w0 B c K w) (o : Obj) : CS w0 B c K (w.alloc o) := h.below ((Below.refl _ _).alloc (Nat.le_refl _) o)
theorem CS.drew (h : CS w0 B c K w) : CS w0 B c K w.drew := h.below (Below.refl _ _).drew
theorem CS.set {b j : Nat} (h : CS w0 B c K w) (hb : w0.heap.size ≤ b) (u : Value) : CS w0 B c K (w.setCell ⟨b, j, none⟩ u) :=
  h.grown (row := some b) ⟨rfl, rfl, rfl, by simp, fun k _ hk => heap_setCell_other w ⟨b, j, none⟩ k u (fun e => hk (by simp [e]))⟩ (fun g e => by cases e; exact hb)
theorem CS.blk {b : Nat} {x : Obj} (h : CS w B c K w') (hx : w.heap[b]? = some x) (hne : b ≠ B) : w'.heap[b]? = some x := by
  rw [h.2.2.block b (Array.getElem?_eq_some_iff.1 hx).1 (fun e => hne (by simpa using e))]; exact hx
theorem CS.belowAll (h : CS w0 B c K w) {W : World} {Q : Nat} (hb : Below Q W w0) (hQ : Q ≤ B) : Below Q W w :=
  hb.grown h.2.2 (Nat.le_trans hQ (Nat.le_of_lt h.1.1)) (fun g e => by cases e; exact hQ)
end
theorem curN {w : World} {v : Value} (h : RdB w v) : Cs (w.alloc (.cells #[v, .int .i64 0, .int .u64 0] 107)) w.heap.size v 0 :=
  ⟨0, Nat.le_refl _, h.kept (by simp) (fun j hj => heap_alloc_old w _ (h.lt j hj)), fun j hj => by have := h.lt j hj; omega, 0, by omega, by omega, heap_alloc_new w _⟩

def PickP (w : World) (B : Nat) (c : Value) (K : Nat) (n : Int) (e : Ending) (w' : World) : Prop := ∃ x : Int, 0 ≤ x ∧ x ≤ n - 1 ∧ e = .returned (.int .i64 x) ∧ CS w B c (K + 2) w' ∧ w'.heap.size = w.heap.size
theorem pickC (B : Nat) (c : Value) (K : Nat) (n : Int) (w : World) (h : Cs w B c K) (hk : K ≤ 4000000000000000) (hn : 1 ≤ n) (hn2 : n ≤ 1073741824) :
    Calls Tryz.prog 82 #[.pointer (some ⟨B, 0, none⟩), .int .i64 n] w (PickP w B c K n) := by
  have hl := h.lt
  obtain ⟨k, hk2, hc⟩ := h
  refine (pick_any B c k n w hc (by omega) hn hn2).mono ?_
  rintro e w' ⟨x, k', h1, h2, h3, h4, h5, h6, h7⟩
  exact ⟨x, h1, h2, h3, ⟨hl, ⟨k', by omega, h5⟩, h6⟩, h7⟩
def OneP (w : World) (B : Nat) (c : Value) (K : Nat) (e : Ending) (w' : World) : Prop := ∃ b : Bool, e = .returned (.bool b) ∧ CS w B c (K + 2) w' ∧ w'.heap.size = w.heap.size
theorem oneC (B : Nat) (c : Value) (K : Nat) (n : Int) (w : World) (h : Cs w B c K) (hk : K ≤ 4000000000000000) (hn : 1 ≤ n) (hn2 : n ≤ 1073741824) :
    Calls Tryz.prog 126 #[.pointer (some ⟨B, 0, none⟩), .int .i64 n] w (OneP w B c K) := by
  go_enter Tryz.func126, Tryz.ntmps126
  go_wp2_with fail
  refine (pickC B c K n _ h hk hn hn2).mono ?_
  rintro e w1 ⟨x, x0, x1, rfl, hc1, hs1⟩
  go_wp2
  go_ret
  exact ⟨_, rfl, hc1, hs1⟩
def AmongP (w : World) (B : Nat) (c : Value) (K : Nat) (lo hi : Int) (e : Ending) (w' : World) : Prop := ∃ x : Int, lo ≤ x ∧ x ≤ hi ∧ e = .returned (.int .i64 x) ∧ CS w B c (K + 2) w' ∧ w'.heap.size = w.heap.size
/-- One of some numbers that lie in a range. -/
theorem amongC (B : Nat) (c : Value) (K g n cap : Nat) (lo hi : Int) (w : World) (h : Cs w B c K) (hk : K ≤ 4000000000000000) (h1 : 1 ≤ n) (h2 : n ≤ 1000) (hne : g ≠ B)
    (hr : ∀ j, j < n → ∃ x : Int, lo ≤ x ∧ x ≤ hi ∧ w.cell? ⟨g, j, none⟩ = some (.int .i64 x)) :
    Calls Tryz.prog 81 #[.pointer (some ⟨B, 0, none⟩), .slice (some ⟨g, 0, none⟩) n cap] w (AmongP w B c K lo hi) := by
  have HR := Lib.hid hr
  clear hr
  go_enter Tryz.func81, Tryz.ntmps81
  go_wp2_with fail
  refine (pickC B c K (n : Int) _ h hk (by omega) (by omega)).mono ?_
  rintro e w1 ⟨x, x0, x1, rfl, hc1, hs1⟩
  obtain ⟨j, rfl⟩ := Int.eq_ofNat_of_zero_le x0
  have hj : j < n := by omega
  have hjI : (j : Int) < (n : Int) := by omega
  obtain ⟨y, y0, y1, hcell⟩ := HR.out j hj
  have hc : w1.cell? ⟨g, j, none⟩ = some (.int .i64 y) := by
    rw [World.cell?_of_block (w := w) (hc1.2.2.block g (World.block_lt_of_cell? w _ hcell) (fun e => hne (by simpa using e)))]; exact hcell
  clear hcell
  go_wp2
  go_ret
  exact ⟨y, y0, y1, rfl, hc1, hs1⟩
end Go.Proofs.YtmkkdenhjfjmgaaGreat
namespace Go.Proofs.YtmkkdenhjfjmgaaGreat
open Go.RowKit

/-- A number lies in a range. -/
def inB (n lo hi : Int) : Bool := decide (lo ≤ n) && decide (n ≤ hi)
theorem inB_true {n lo hi : Int} (h : inB n lo hi = true) : lo ≤ n ∧ n ≤ hi := by simpa [inB] using h
theorem inB_mk {n lo hi : Int} (h : lo ≤ n) (h2 : n ≤ hi) : inB n lo hi = true := by simp [inB, h, h2]

def m1 (a b : Nat) : Nat → Nat
  | 0 => 0
  | k + 1 => if (b / 2 ^ k) % 2 = 1 then m1 a b k ^^^ (a * 2 ^ k) else m1 a b k
def r1 (x : Nat) : Nat → Nat
  | 0 => x
  | k + 1 => if (r1 x k / 2 ^ (6 - k)) % 2 = 1 then r1 x k ^^^ (19 * 2 ^ (2 - k)) else r1 x k
end Go.Proofs.YtmkkdenhjfjmgaaGreat
namespace Go.Proofs.YtmkkdenhjfjmgaaGreat
open Go.RowKit

def letB (c : UInt8) : Bool := decide (97 ≤ (c.toNat : Int)) && decide ((c.toNat : Int) ≤ 122)
def digB (c : UInt8) : Bool := decide (48 ≤ (c.toNat : Int)) && decide ((c.toNat : Int) ≤ 57)
def sgnB (c : UInt8) : Bool := letB c || digB c
def hd0 (s : ByteArray) : Bool := match s.data.toList with | [] => false | c :: _ => letB c
def nameOk (s : ByteArray) : Bool := decide (1 ≤ s.size) && decide (s.size ≤ 8) && hd0 s && s.data.toList.all sgnB
theorem nam_snoc (s : ByteArray) (k : Nat) (h : k < s.size) : s.data.toList.take (k + 1) = s.data.toList.take k ++ [s[k]] := by
  rw [List.take_succ_eq_append_getElem (by simpa using h)]; rfl
theorem nam_all (s : ByteArray) : s.data.toList.take s.size = s.data.toList := List.take_of_length_le (by simp)
theorem nam_step {s : ByteArray} {p : UInt8 → Bool} {k : Nat} (hk : k < s.size) (h : (s.data.toList.take k).all p = true) (e : p s[k] = true) : (s.data.toList.take (k + 1)).all p = true := by
  rw [nam_snoc s k hk, List.all_append, h]; simp [e]
theorem nam_no {s : ByteArray} {p : UInt8 → Bool} {k : Nat} (hk : k < s.size) (e : p s[k] = false) : s.data.toList.all p = false := by
  rw [List.all_eq_false]
  exact ⟨s[k], by rw [List.mem_iff_getElem]; exact ⟨k, by simpa using hk, rfl⟩, by simp [e]⟩
theorem hd0_of {s : ByteArray} (h : 0 < s.size) : hd0 s = letB s[0] := by
  have e : s[0] = s.data.toList[0]'(by simpa using h) := rfl
  rw [e]
  unfold hd0
  split
  · rename_i he
    have h3 : s.data.toList.length = s.size := by simp
    rw [he, List.length_nil] at h3
    omega
  · rename_i c l he
    simp [he]
theorem nameOk_sgn {s : ByteArray} (h : s.data.toList.all sgnB = false) : nameOk s = false := by unfold nameOk; rw [h]; simp
theorem nameOk_hd {s : ByteArray} (h : hd0 s = false) : nameOk s = false := by unfold nameOk; rw [h]; simp
theorem nameOk_len {s : ByteArray} (h : ¬ (1 ≤ s.size ∧ s.size ≤ 8)) : nameOk s = false := by
  unfold nameOk
  by_cases h1 : 1 ≤ s.size
  · rw [decide_eq_false (show ¬ s.size ≤ 8 by omega)]; simp
  · rw [decide_eq_false h1]; simp
theorem nameOk_yes {s : ByteArray} (h : 1 ≤ s.size ∧ s.size ≤ 8) (h2 : hd0 s = true) (h3 : s.data.toList.all sgnB = true) : nameOk s = true := by
  unfold nameOk; rw [h2, h3, decide_eq_true h.1, decide_eq_true h.2]; rfl
end Go.Proofs.YtmkkdenhjfjmgaaGreat
namespace Go.Proofs.YtmkkdenhjfjmgaaGreat
open Go.RowKit

/-- What came in: nil, or a row of cells, the first 'len' of which are the elements. -/
def Raw (w : World) (a : Option Addr) (len cap : Nat) (zs : List Int) : Prop :=
  (a = none ∧ len = 0 ∧ cap = 0 ∧ zs = []) ∨
  ∃ x, a = some x ∧ len ≤ cap ∧ cap ≤ maxLen ∧ zs.length = cap ∧ (∀ i, i < zs.length → w.cell? (x.add i) = some (.int .i64 (zs.getD i 0))) ∧ ∀ n ∈ zs, (Lit.int .i64 n).wf = true

theorem Raw.at {w : World} {a : Option Addr} {len cap : Nat} {zs : List Int} (h : Raw w a len cap zs) (hl : 0 < len) :
    ∃ b off, a = some ⟨b, off, none⟩ ∧ ∀ j, j < len → w.cell? ⟨b, off + j, none⟩ = some (.int .i64 ((zs[j]?.getD 0))) := by
  rcases h with ⟨rfl, rfl, rfl, rfl⟩ | ⟨x, rfl, h1, h2, h3, h4, h5⟩
  · omega
  · obtain ⟨b, off, spot⟩ := x
    have hc := h4 0 (by omega)
    have hspot : spot = none := by simpa [Addr.add] using World.cell?_spot hc
    subst hspot
    refine ⟨b, off, rfl, fun j hj => ?_⟩
    have := h4 j (by omega)
    rw [show (zs[j]?.getD 0) = zs.getD j 0 from by simp [List.getD], ← this]
    by_cases h0 : j = 0 <;> simp [Addr.add, h0]
theorem Raw.le {w : World} {a : Option Addr} {len cap : Nat} {zs : List Int} (h : Raw w a len cap zs) : len ≤ zs.length ∧ len ≤ maxLen := by
  rcases h with ⟨rfl, rfl, rfl, rfl⟩ | ⟨x, rfl, h1, h2, h3, h4, h5⟩
  · simp
  · omega

theorem Raw.below {B : Nat} {w w' : World} {a : Option Addr} {len cap : Nat} {zs : List Int} (h : Raw w a len cap zs) (hb : Below B w w') (hB : w.heap.size ≤ B) : Raw w' a len cap zs := by
  rcases h with h | ⟨x, rfl, h1, h2, h3, h4, h5⟩
  · exact .inl h
  · refine .inr ⟨x, rfl, h1, h2, h3, fun i hi => ?_, h5⟩
    have hc := h4 i hi
    have hlt := World.block_lt_of_cell? w _ hc
    rw [hb.cell (p := x.add i) (by omega)]
    exact hc
theorem Rd.dr {w w' : World} {v : Value} {xs : List Int} (h : Rd w v xs) (hd : Dr w w') : Rd w' v xs := by
  obtain ⟨n, rfl⟩ := hd; exact h
theorem Own.dr {w w' : World} {base : Nat} {v : Value} {xs : List Int} (h : Own w base v xs) (hd : Dr w w') : Own w' base v xs := by
  obtain ⟨n, rfl⟩ := hd; exact h
theorem Dr.size {w w' : World} (hd : Dr w w') : w'.heap.size = w.heap.size := by
  obtain ⟨n, rfl⟩ := hd; rfl
theorem Own.grown {w w' : World} {base : Nat} {v : Value} {xs : List Int} {row : Option Nat} (h : Own w base v xs) (hg : w.grownBy w' row) (hne : ∀ k, v.ownBlock = some k → row ≠ some k) : Own w' base v xs :=
  h.kept fun k hk => hg.block k (h.lt k hk).2 fun e => hne k hk e.symm
/-- Two slices of which one lies below, the other from there on, are apart. -/
theorem Own.apart {w w' : World} {B base base' : Nat} {v v' : Value} {xs xs' : List Int} (h : Own w base v xs) (h' : Own w' base' v' xs') (hB : w.heap.size ≤ B) (hB' : B ≤ base') : ∀ k, v.ownBlock = some k → v'.ownBlock ≠ some k := by
  intro k hk e
  have := (h.lt k hk).2
  have := (h'.lt k e).1
  omega
end Go.Proofs.YtmkkdenhjfjmgaaGreat
namespace Go.Proofs.YtmkkdenhjfjmgaaGreat
open Go.RowKit

theorem within_any (n lo hi : Int) (w : World) : Calls Tryz.prog 83 #[.int .i64 n, .int .i64 lo, .int .i64 hi] w fun e w' => e = .returned (.bool (inB n lo hi)) ∧ w = w' := by
  by_cases h1 : lo ≤ n
  · have hd : decide (lo ≤ n) = true := by simpa using h1
    go_enter Tryz.func83, Tryz.ntmps83
    go_wp2
    go_ret
    exact ⟨by simp [inB, h1], rfl⟩
  · have hd : decide (lo ≤ n) = false := by simpa using h1
    go_enter Tryz.func83, Tryz.ntmps83
    go_wp2
    go_ret
    exact ⟨by rw [inB, hd]; rfl, rfl⟩

theorem l1In_any (n lo hi : Int) (w : World) : Calls Tryz.prog 86 #[.int .i64 n, .int .i64 lo, .int .i64 hi] w fun e w' => e = .returned (.bool (inB n lo hi)) ∧ w = w' := by
  by_cases h1 : lo ≤ n
  · have hd : decide (lo ≤ n) = true := by simpa using h1
    go_enter Tryz.func86, Tryz.ntmps86
    go_wp2
    go_ret
    exact ⟨by simp [inB, h1], rfl⟩
  · have hd : decide (lo ≤ n) = false := by simpa using h1
    go_enter Tryz.func86, Tryz.ntmps86
    go_wp2
    go_ret
    exact ⟨by rw [inB, hd]; rfl, rfl⟩

end Go.Proofs.YtmkkdenhjfjmgaaGreat
namespace Go.Proofs.YtmkkdenhjfjmgaaGreat
open Go.RowKit
set_option maxRecDepth 100000

set_option maxHeartbeats 3200000 in
theorem isName_any (s : ByteArray) (w : World) (hs : s.size ≤ maxLen) :
    Calls Tryz.prog 175 #[.string s] w fun e w' => e = .returned (.bool (nameOk s)) ∧ Dr w w' := by
  unfold maxLen at hs
  have HN := Lib.hid (fun k (hk : k < s.size) h => nameOk_sgn (nam_no (s := s) (p := sgnB) (k := k) hk h))
  have HS := Lib.hid (fun k (hk : k < s.size) h e => nam_step (s := s) (p := sgnB) (k := k) hk h e)
  have HA := Lib.hid (nam_all s)
  have HH := Lib.hid (@nameOk_hd s)
  have HL := Lib.hid (@nameOk_len s)
  have HY := Lib.hid (@nameOk_yes s)
  have H0 := Lib.hid (@hd0_of s)
  generalize nameOk s = r at *
  go_enter Tryz.func175, Tryz.ntmps175
  go_wp2
  go_loopw [3, 4, 5, 8] (fun _ _ _ i wr => ∃ k : Nat, k ≤ s.size ∧ i = .int .i64 k ∧ Hid ((s.data.toList.take k).all sgnB = true) ∧ Hid (0 < k → hd0 s = true) ∧ Hid (Dr w wr)) (fun _ _ _ i _ => s.size - (intOf i).toNat)
  case atStart => exact ⟨0, Nat.zero_le _, rfl, by simp [Hid], fun h => by omega, Dr.refl _⟩
  case round =>
    obtain ⟨k, hk, rfl, HT, HK, HD⟩ := hrel
    by_cases hlt : k < s.size
    · have hltI : (k : Int) < (s.size : Int) := by omega
      have HN1 := Lib.hid (HN.out k hlt)
      have HS1 := Lib.hid (HS.out k hlt HT.out)
      have H01 := Lib.hid (fun h : k = 0 => show hd0 s = letB s[k] by subst h; exact H0.out hlt)
      have HSG := Lib.hid (show sgnB s[k] = ((decide (97 ≤ (s[k].toNat : Int)) && decide ((s[k].toNat : Int) ≤ 122)) || (decide (48 ≤ (s[k].toNat : Int)) && decide ((s[k].toNat : Int) ≤ 57))) from rfl)
      have HLE := Lib.hid (show letB s[k] = (decide (97 ≤ (s[k].toNat : Int)) && decide ((s[k].toNat : Int) ≤ 122)) from rfl)
      clear HN HS H0
      by_cases c1 : 97 ≤ (s[k].toNat : Int)
      · have c1d : decide (97 ≤ (s[k].toNat : Int)) = true := decide_eq_true c1
        have c3 : 48 ≤ (s[k].toNat : Int) := by omega
        have c3d : decide (48 ≤ (s[k].toNat : Int)) = true := decide_eq_true c3
        have c4 : ¬ (s[k].toNat : Int) ≤ 57 := by omega
        have c4d : decide ((s[k].toNat : Int) ≤ 57) = false := decide_eq_false c4
        by_cases c2 : (s[k].toNat : Int) ≤ 122
        · have c2d : decide ((s[k].toNat : Int) ≤ 122) = true := decide_eq_true c2
          have HT2 := Lib.hid (HS1.out (by rw [HSG.out, c1d, c2d]; rfl))
          have HK2 := Lib.hid (fun (_ : 0 < k + 1) => show hd0 s = true by
            by_cases h : k = 0
            · rw [H01.out h, HLE.out, c1d, c2d]; rfl
            · exact HK.out (by omega))
          go_wp2
          go_quiet (fail)
          go_wp2
          go_roundw
          case rel => exact ⟨k + 1, hlt, by go_num, HT2.out, HK2.out, HD.out.drewN _⟩
          case measure => simp [intOf]; omega
        · have c2d : decide ((s[k].toNat : Int) ≤ 122) = false := decide_eq_false c2
          have HF := Lib.hid (HN1.out (by rw [HSG.out, c1d, c2d, c3d, c4d]; rfl))
          go_wp2
          go_quiet (fail)
          go_wp2
          go_ret
          exact ⟨by rw [HF.out]; rfl, HD.out.drewN _⟩
      · have c1d : decide (97 ≤ (s[k].toNat : Int)) = false := decide_eq_false c1
        by_cases c3 : 48 ≤ (s[k].toNat : Int)
        · have c3d : decide (48 ≤ (s[k].toNat : Int)) = true := decide_eq_true c3
          by_cases c4 : (s[k].toNat : Int) ≤ 57
          · have c4d : decide ((s[k].toNat : Int) ≤ 57) = true := decide_eq_true c4
            by_cases h0 : k = 0
            · have HF := Lib.hid (HH.out (by rw [H01.out h0, HLE.out, c1d]; rfl))
              have h0I : (k : Int) = 0 := by omega
              have h0b : ((k : Int) == 0) = true := by simpa using h0I
              clear h0I h0 H01
              go_wp2
              go_quiet (fail)
              go_wp2
              go_ret
              exact ⟨by rw [HF.out]; rfl, HD.out.drewN _⟩
            · have h0b : ((k : Int) == 0) = false := by simp; omega
              have HT2 := Lib.hid (HS1.out (by rw [HSG.out, c1d, c3d, c4d]; rfl))
              have HK2 := Lib.hid (fun (_ : 0 < k + 1) => HK.out (by omega))
              go_wp2
              go_quiet (fail)
              go_wp2
              go_roundw
              case rel => exact ⟨k + 1, hlt, by go_num, HT2.out, HK2.out, HD.out.drewN _⟩
              case measure => simp [intOf]; omega
          · have c4d : decide ((s[k].toNat : Int) ≤ 57) = false := decide_eq_false c4
            have HF := Lib.hid (HN1.out (by rw [HSG.out, c1d, c3d, c4d]; rfl))
            go_wp2
            go_quiet (fail)
            go_wp2
            go_ret
            exact ⟨by rw [HF.out]; rfl, HD.out.drewN _⟩
        · have c3d : decide (48 ≤ (s[k].toNat : Int)) = false := decide_eq_false c3
          have HF := Lib.hid (HN1.out (by rw [HSG.out, c1d, c3d]; rfl))
          go_wp2
          go_quiet (fail)
          go_wp2
          go_ret
          exact ⟨by rw [HF.out]; rfl, HD.out.drewN _⟩
    · obtain rfl : k = s.size := by omega
      have hall := HT.out
      rw [HA.out] at hall
      have HR := Lib.hid (show inB (s.size : Int) 1 8 = r from by
        by_cases h : 1 ≤ s.size ∧ s.size ≤ 8
        · rw [HY.out h (HK.out (by omega)) hall]; simp [inB]; omega
        · rw [HL.out h]
          by_cases h1 : 1 ≤ s.size
          · simp [inB]; omega
          · simp [inB]; omega)
      clear HT HK HA HN HS HH HL HY H0 hall
      go_wp2_with (go_at_call 83; refine (within_any _ _ _ _).mono ?_; rintro e w' ⟨rfl, rfl⟩)
      go_ret
      exact ⟨by rw [← HR.out]; rfl, HD.out⟩
end Go.Proofs.YtmkkdenhjfjmgaaGreat
namespace Go.Proofs.YtmkkdenhjfjmgaaGreat
open Go.RowKit
set_option maxRecDepth 100000

theorem l2Sign_any (b : UInt8) (w : World) :
    Calls Tryz.prog 208 #[.int .u8 (b.toNat : Int)] w fun e w' => e = .returned (.bool (sgnB b)) ∧ w = w' := by
  have HSG := Lib.hid (show sgnB b = ((decide (97 ≤ (b.toNat : Int)) && decide ((b.toNat : Int) ≤ 122)) || (decide (48 ≤ (b.toNat : Int)) && decide ((b.toNat : Int) ≤ 57))) from rfl)
  generalize sgnB b = r at *
  generalize (b.toNat : Int) = x at *
  by_cases c1 : 97 ≤ x
  · have c1d : decide (97 ≤ x) = true := decide_eq_true c1
    by_cases c2 : x ≤ 122
    · have c2d : decide (x ≤ 122) = true := decide_eq_true c2
      go_enter Tryz.func208, Tryz.ntmps208
      go_wp2
      go_ret
      exact ⟨by rw [HSG.out, c1d, c2d]; rfl, rfl⟩
    · have c2d : decide (x ≤ 122) = false := decide_eq_false c2
      have c3 : 48 ≤ x := by omega
      have c3d : decide (48 ≤ x) = true := decide_eq_true c3
      have c4 : ¬ x ≤ 57 := by omega
      have c4d : decide (x ≤ 57) = false := decide_eq_false c4
      go_enter Tryz.func208, Tryz.ntmps208
      go_wp2
      go_ret
      exact ⟨by rw [HSG.out, c1d, c2d, c3d, c4d]; rfl, rfl⟩
  · have c1d : decide (97 ≤ x) = false := decide_eq_false c1
    by_cases c3 : 48 ≤ x
    · have c3d : decide (48 ≤ x) = true := decide_eq_true c3
      by_cases c4 : x ≤ 57
      · have c4d : decide (x ≤ 57) = true := decide_eq_true c4
        go_enter Tryz.func208, Tryz.ntmps208
        go_wp2
        go_ret
        exact ⟨by rw [HSG.out, c1d, c3d, c4d]; rfl, rfl⟩
      · have c4d : decide (x ≤ 57) = false := decide_eq_false c4
        go_enter Tryz.func208, Tryz.ntmps208
        go_wp2
        go_ret
        exact ⟨by rw [HSG.out, c1d, c3d, c4d]; rfl, rfl⟩
    · have c3d : decide (48 ≤ x) = false := decide_eq_false c3
      go_enter Tryz.func208, Tryz.ntmps208
      go_wp2
      go_ret
      exact ⟨by rw [HSG.out, c1d, c3d]; rfl, rfl⟩
set_option maxHeartbeats 3200000 in
theorem l2Name_any (s : ByteArray) (w : World) (hs : s.size ≤ maxLen) :
    Calls Tryz.prog 183 #[.string s] w fun e w' => e = .returned (.bool (nameOk s)) ∧ w = w' := by
  unfold maxLen at hs
  have HN := Lib.hid (fun k (hk : k < s.size) h => nameOk_sgn (nam_no (s := s) (p := sgnB) (k := k) hk h))
  have HS := Lib.hid (fun k (hk : k < s.size) h e => nam_step (s := s) (p := sgnB) (k := k) hk h e)
  have HA := Lib.hid (nam_all s)
  have HH := Lib.hid (@nameOk_hd s)
  have HL := Lib.hid (@nameOk_len s)
  have HY := Lib.hid (@nameOk_yes s)
  have H0 := Lib.hid (@hd0_of s)
  generalize nameOk s = r at *
  by_cases hl : 1 ≤ s.size ∧ s.size ≤ 8
  · have hb : inB (s.size : Int) 1 8 = true := by simp [inB]; omega
    have h0 : 0 < s.size := by omega
    have h0I : (0 : Int) < (s.size : Int) := by omega
    have HLE := Lib.hid (show hd0 s = (decide (97 ≤ (s[0].toNat : Int)) && decide ((s[0].toNat : Int) ≤ 122)) from (H0.out h0).trans rfl)
    by_cases c1 : (s[0].toNat : Int) < 97
    · have c1d : decide ((s[0].toNat : Int) < 97) = true := decide_eq_true c1
      have HF := Lib.hid (HH.out (by rw [HLE.out, decide_eq_false (show ¬ 97 ≤ (s[0].toNat : Int) by omega)]; rfl))
      go_enter Tryz.func183, Tryz.ntmps183
      go_wp2_with (go_at_call 86; refine (l1In_any _ _ _ _).mono ?_; rintro e w' ⟨rfl, rfl⟩; rw [hb])
      go_ret
      exact ⟨by rw [HF.out]; rfl, rfl⟩
    by_cases c2 : 122 < (s[0].toNat : Int)
    · have c1d : decide ((s[0].toNat : Int) < 97) = false := decide_eq_false c1
      have c2d : decide (122 < (s[0].toNat : Int)) = true := decide_eq_true c2
      have HF := Lib.hid (HH.out (by rw [HLE.out, decide_eq_false (show ¬ (s[0].toNat : Int) ≤ 122 by omega)]; simp))
      go_enter Tryz.func183, Tryz.ntmps183
      go_wp2_with (go_at_call 86; refine (l1In_any _ _ _ _).mono ?_; rintro e w' ⟨rfl, rfl⟩; rw [hb])
      go_ret
      exact ⟨by rw [HF.out]; rfl, rfl⟩
    have c1d : decide ((s[0].toNat : Int) < 97) = false := decide_eq_false c1
    have c2d : decide (122 < (s[0].toNat : Int)) = false := decide_eq_false c2
    have HHD := Lib.hid (show hd0 s = true by rw [HLE.out, decide_eq_true (show 97 ≤ (s[0].toNat : Int) by omega), decide_eq_true (show (s[0].toNat : Int) ≤ 122 by omega)]; rfl)
    go_enter Tryz.func183, Tryz.ntmps183
    go_wp2_with (go_at_call 86; refine (l1In_any _ _ _ _).mono ?_; rintro e w' ⟨rfl, rfl⟩; rw [hb])
    go_loop [3] (fun i => ∃ k : Nat, k ≤ s.size ∧ i = .int .i64 k ∧ Hid ((s.data.toList.take k).all sgnB = true)) (fun i => s.size - (intOf i).toNat)
    case atStart => exact ⟨0, Nat.zero_le _, rfl, by simp [Hid]⟩
    case round =>
      obtain ⟨k, hk, rfl, HT⟩ := hrel
      by_cases hlt : k < s.size
      · have hltI : (k : Int) < (s.size : Int) := by omega
        have HN1 := Lib.hid (HN.out k hlt)
        have HS1 := Lib.hid (HS.out k hlt HT.out)
        have HQ := Lib.hid (fun w => l2Sign_any s[k] w)
        generalize sgnB s[k] = ok at *
        cases ok
        · have HF := Lib.hid (HN1.out rfl)
          go_wp2_with (go_at_call 208; refine (HQ.out _).mono ?_; rintro e w' ⟨rfl, rfl⟩)
          go_ret
          exact ⟨by rw [HF.out]; rfl, rfl⟩
        · have HT2 := Lib.hid (HS1.out rfl)
          go_wp2_with (go_at_call 208; refine (HQ.out _).mono ?_; rintro e w' ⟨rfl, rfl⟩)
          go_round
          case rel => exact ⟨k + 1, hlt, by go_num, HT2.out⟩
          case measure => simp [intOf]; omega
      · obtain rfl : k = s.size := by omega
        have hall := HT.out
        rw [HA.out] at hall
        have HR := Lib.hid (HY.out hl HHD.out hall)
        go_wp2
        go_ret
        exact ⟨by rw [HR.out]; rfl, rfl⟩
  · have hb : inB (s.size : Int) 1 8 = false := by
      by_cases h1 : 1 ≤ s.size
      · simp [inB]; omega
      · simp [inB]; omega
    have HF := Lib.hid (HL.out hl)
    clear hl
    go_enter Tryz.func183, Tryz.ntmps183
    go_wp2_with (go_at_call 86; refine (l1In_any _ _ _ _).mono ?_; rintro e w' ⟨rfl, rfl⟩; rw [hb])
    go_ret
    exact ⟨by rw [HF.out]; rfl, rfl⟩
end Go.Proofs.YtmkkdenhjfjmgaaGreat
