/- The cursor, carried along: what a draw leaves as it was. -/
import Derived.Test.YtlemielobmbadaaCur
namespace Go.Proofs.Ytlemielobmbadaa
open Go.RowKit
set_option maxRecDepth 100000

/-- Block B is a cursor over the bytes c, at a place up to K. -/
def Cs (w : World) (B : Nat) (c : Value) (K : Nat) : Prop := ∃ k, k ≤ K ∧ Cur w B c k
theorem Cs.lt {w : World} {B K : Nat} {c : Value} (h : Cs w B c K) : B < w.heap.size ∧ ∀ j, bb c = some j → j < w.heap.size := by
  obtain ⟨k, _, h1, h2, s, h3, h4, h5⟩ := h
  exact ⟨(Array.getElem?_eq_some_iff.1 h5).1, h1.lt⟩
theorem Cs.kept {w w' : World} {B K : Nat} {c : Value} (h : Cs w B c K) (hs : w.heap.size ≤ w'.heap.size) (hB : w'.heap[B]? = w.heap[B]?) (hc : ∀ j, bb c = some j → w'.heap[j]? = w.heap[j]?) : Cs w' B c K := by
  obtain ⟨k, hk, h1, h2, s, h3, h4, h5⟩ := h
  exact ⟨k, hk, h1.kept hs hc, h2, s, h3, h4, by rw [hB]; exact h5⟩
/-- Since the world w0 only the cursor has moved, and memory has been made. -/
def CS (w0 : World) (B : Nat) (c : Value) (K : Nat) (w' : World) : Prop := (B < w0.heap.size ∧ ∀ j, bb c = some j → j < w0.heap.size) ∧ Cs w' B c K ∧ w0.grownBy w' (some B)
section
variable {w0 w w' w'' : World} {B K K' : Nat} {c : Value}
theorem Cs.here (h : Cs w B c K) : CS w B c K w := ⟨h.lt, h, World.grownBy.refl _ _⟩
theorem Cs.mono (h : Cs w B c K) (hk : K ≤ K') : Cs w B c K' := by obtain ⟨k, h1, h2⟩ := h; exact ⟨k, by omega, h2⟩
theorem CS.mono (h : CS w0 B c K w) (hk : K ≤ K') : CS w0 B c K' w := ⟨h.1, h.2.1.mono hk, h.2.2⟩
theorem CS.size (h : CS w0 B c K w) : w0.heap.size ≤ w.heap.size := h.2.2.size
theorem CS.st (h : CS w0 B c K w) : Cs w B c K := h.2.1
theorem CS.call (h : CS w0 B c K w) (h2 : CS w B c K' w') : CS w0 B c K' w' := ⟨h.1, h2.2.1, h.2.2.trans' h2.2.2⟩
theorem CS.grown {row : Option Nat} (h : CS w0 B c K w) (hg : w.grownBy w' row) (hr : ∀ g, row = some g → w0.heap.size ≤ g) : CS w0 B c K w' := by
  have hs := h.size
  refine ⟨h.1, h.2.1.kept hg.size (hg.block _ h.2.1.lt.1 fun e => by have := hr _ e.symm; have := h.1.1; omega) (fun j hj => hg.block j (h.2.1.lt.2 j hj) fun e => by have := hr _ e.symm; have := h.1.2 j hj; omega), ?_⟩
  have g := h.2.2
  exact ⟨hg.os.trans g.os, hg.tape.trans g.tape, hg.output.trans g.output, Nat.le_trans g.size hg.size, fun k hk hne => by
    rw [hg.block k (by omega) (fun e => by have := hr k e.symm; omega), g.block k hk hne]⟩
theorem CS.below (h : CS w0 B c K w) (hb : Below w.heap.size w w') : CS w0 B c K w' :=
  h.grown (row := none) ⟨hb.os, hb.tape, hb.output, hb.size, fun k hk _ => hb.block k hk⟩ (fun g e => by cases e)
theorem CS.alloc (h : CS w0 B c K w) (o : Obj) : CS w0 B c K (w.alloc o) := h.below ((Below.refl _ _).alloc (Nat.le_refl _) o)
theorem CS.drew (h : CS w0 B c K w) : CS w0 B c K w.drew := h.below (Below.refl _ _).drew
theorem CS.set {b j : Nat} (h : CS w0 B c K w) (hb : w0.heap.size ≤ b) (u : Value) : CS w0 B c K (w.setCell ⟨b, j, none⟩ u) :=
  h.grown (row := some b) ⟨rfl, rfl, rfl, by simp, fun k _ hk => heap_setCell_other w ⟨b, j, none⟩ k u (fun e => hk (by simp [e]))⟩ (fun g e => by cases e; exact hb)
theorem CS.blk {b : Nat} {x : Obj} (h : CS w B c K w') (hx : w.heap[b]? = some x) (hne : b ≠ B) : w'.heap[b]? = some x := by
  rw [h.2.2.block b (Array.getElem?_eq_some_iff.1 hx).1 (fun e => hne (by simpa using e))]; exact hx
theorem CS.blk2 {b : Nat} {x : Obj} (h : CS w0 B c K w) (h2 : CS w B c K' w') (hb : w0.heap.size ≤ b) (hx : w.heap[b]? = some x) : w'.heap[b]? = some x :=
  h2.blk hx (by have := h.1.1; omega)
theorem CS.belowAll (h : CS w0 B c K w) {W : World} {Q : Nat} (hb : Below Q W w0) (hQ : Q ≤ B) : Below Q W w :=
  hb.grown h.2.2 (Nat.le_trans hQ (Nat.le_of_lt h.1.1)) (fun g e => by cases e; exact hQ)
end
theorem curN {w : World} {v : Value} (h : RdB w v) : Cs (w.alloc (.cells #[v, .int .i64 0, .int .u64 0] 76)) w.heap.size v 0 :=
  ⟨0, Nat.le_refl _, h.kept (by simp) (fun j hj => heap_alloc_old w _ (h.lt j hj)), fun j hj => by have := h.lt j hj; omega, 0, by omega, by omega, heap_alloc_new w _⟩

def PickP (w : World) (B : Nat) (c : Value) (K : Nat) (n : Int) (e : Ending) (w' : World) : Prop := ∃ x : Int, 0 ≤ x ∧ x ≤ n - 1 ∧ e = .returned (.int .i64 x) ∧ CS w B c (K + 2) w' ∧ w'.heap.size = w.heap.size
theorem pickC (B : Nat) (c : Value) (K : Nat) (n : Int) (w : World) (h : Cs w B c K) (hk : K ≤ 4000000000000000) (hn : 1 ≤ n) (hn2 : n ≤ 1073741824) :
    Calls Try.prog 61 #[.pointer (some ⟨B, 0, none⟩), .int .i64 n] w (PickP w B c K n) := by
  have hl := h.lt
  obtain ⟨k, hk2, hc⟩ := h
  refine (pick_any B c k n w hc (by omega) hn hn2).mono ?_
  rintro e w' ⟨x, k', h1, h2, h3, h4, h5, h6, h7⟩
  exact ⟨x, h1, h2, h3, ⟨hl, ⟨k', by omega, h5⟩, h6⟩, h7⟩
def OneP (w : World) (B : Nat) (c : Value) (K : Nat) (e : Ending) (w' : World) : Prop := ∃ b : Bool, e = .returned (.bool b) ∧ CS w B c (K + 2) w' ∧ w'.heap.size = w.heap.size
theorem oneC (B : Nat) (c : Value) (K : Nat) (n : Int) (w : World) (h : Cs w B c K) (hk : K ≤ 4000000000000000) (hn : 1 ≤ n) (hn2 : n ≤ 1073741824) :
    Calls Try.prog 63 #[.pointer (some ⟨B, 0, none⟩), .int .i64 n] w (OneP w B c K) := by
  go_enter Try.func63, Try.ntmps63
  go_wp2_with fail
  refine (pickC B c K n _ h hk hn hn2).mono ?_
  rintro e w1 ⟨x, x0, x1, rfl, hc1, hs1⟩
  go_wp2
  go_ret
  exact ⟨_, rfl, hc1, hs1⟩
def AmongP (w : World) (B : Nat) (c : Value) (K : Nat) (lo hi : Int) (e : Ending) (w' : World) : Prop := ∃ x : Int, lo ≤ x ∧ x ≤ hi ∧ e = .returned (.int .i64 x) ∧ CS w B c (K + 2) w' ∧ w'.heap.size = w.heap.size
/-- One of some numbers that lie in a range. -/
theorem amongC (B : Nat) (c : Value) (K g n cap : Nat) (lo hi : Int) (w : World) (h : Cs w B c K) (hk : K ≤ 4000000000000000) (h1 : 1 ≤ n) (h2 : n ≤ 1000) (hne : g ≠ B)
    (hr : ∀ j, j < n → ∃ x : Int, lo ≤ x ∧ x ≤ hi ∧ w.cell? ⟨g, j, none⟩ = some (.int .i64 x)) :
    Calls Try.prog 60 #[.pointer (some ⟨B, 0, none⟩), .slice (some ⟨g, 0, none⟩) n cap] w (AmongP w B c K lo hi) := by
  have HR := Lib.hid hr
  clear hr
  go_enter Try.func60, Try.ntmps60
  go_wp2_with fail
  refine (pickC B c K (n : Int) _ h hk (by omega) (by omega)).mono ?_
  rintro e w1 ⟨x, x0, x1, rfl, hc1, hs1⟩
  obtain ⟨j, rfl⟩ := Int.eq_ofNat_of_zero_le x0
  have hj : j < n := by omega
  have hjI : (j : Int) < (n : Int) := by omega
  obtain ⟨y, y0, y1, hcell⟩ := HR.out j hj
  have hc : w1.cell? ⟨g, j, none⟩ = some (.int .i64 y) := by
    rw [World.cell?_of_block (w := w) (hc1.2.2.block g (World.block_lt_of_cell? w _ hcell) (fun e => hne (by simpa using e)))]; exact hcell
  clear hcell
  go_wp2
  go_ret
  exact ⟨y, y0, y1, rfl, hc1, hs1⟩
end Go.Proofs.Ytlemielobmbadaa
