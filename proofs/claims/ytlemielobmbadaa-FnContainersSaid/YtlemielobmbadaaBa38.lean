/- Joined: XDrw XCs. -/
import Derived.Test.YtlemielobmbadaaBa33
import Derived.Test.YtlemielobmbadaaDstW
namespace Go.Proofs.Ytlemielobmbadaa
open Go.RowKit
set_option maxRecDepth 100000

theorem Rd.kept {w w' : World} {v : Value} {xs : List Int} (h : Rd w v xs) (hs : w.heap.size ≤ w'.heap.size) (hk : ∀ k, v.ownBlock = some k → w'.heap[k]? = w.heap[k]?) : Rd w' v xs := by
  rcases h with h | ⟨b, off, cap, hv, h1, h2, h3, h4⟩
  · exact .inl h
  · subst hv
    exact .inr ⟨b, off, cap, rfl, h1, h2, by omega, fun j hj => by rw [World.cell?_of_block (w := w) (hk b rfl)]; exact h4 j hj⟩
theorem grownThen {w wr w' : World} {B : Nat} {row : Option Nat} (h : w.grownBy wr (some B)) (h2 : wr.grownBy w' row) (hr : ∀ g, row = some g → w.heap.size ≤ g ∨ g = B) : w.grownBy w' (some B) :=
  ⟨h2.os.trans h.os, h2.tape.trans h.tape, h2.output.trans h.output, Nat.le_trans h.size h2.size, fun k hk hne => by
    have hs := h.size
    rw [h2.block k (by omega) (fun e => by rcases hr k e.symm with h3 | h3; omega; exact hne (by rw [h3])), h.block k hk hne]⟩
theorem grownBelow {w wr w' : World} {B : Nat} (h : w.grownBy wr (some B)) (h2 : Below wr.heap.size wr w') : w.grownBy w' (some B) :=
  ⟨h2.os.trans h.os, h2.tape.trans h.tape, h2.output.trans h.output, Nat.le_trans h.size h2.size, fun k hk hne => by
    have hs := h.size
    rw [h2.block k (by omega), h.block k hk hne]⟩
theorem Cur.kept {w w' : World} {B k : Nat} {c : Value} (h : Cur w B c k) (hs : w.heap.size ≤ w'.heap.size) (hB : w'.heap[B]? = w.heap[B]?) (hc : ∀ j, bb c = some j → w'.heap[j]? = w.heap[j]?) : Cur w' B c k := by
  obtain ⟨h1, h2, s, h3, h4, h5⟩ := h
  exact ⟨h1.kept hs hc, h2, s, h3, h4, by rw [hB]; exact h5⟩
theorem Cur.lt {w : World} {B k : Nat} {c : Value} (h : Cur w B c k) : B < w.heap.size ∧ ∀ j, bb c = some j → j < w.heap.size := by
  obtain ⟨h1, h2, s, h3, h4, h5⟩ := h
  exact ⟨(Array.getElem?_eq_some_iff.1 h5).1, h1.lt⟩
theorem Cur.below {w w' : World} {B k : Nat} {c : Value} (h : Cur w B c k) (hb : Below w.heap.size w w') : Cur w' B c k :=
  h.kept hb.size (hb.block _ h.lt.1) fun j hj => hb.block j (h.lt.2 j hj)
theorem Cur.grown {w wr w' : World} {B k : Nat} {c : Value} {row : Option Nat} (h : Cur wr B c k) (hl : B < w.heap.size) (hl2 : ∀ j, bb c = some j → j < w.heap.size) (hs : w.heap.size ≤ wr.heap.size) (hg : wr.grownBy w' row) (hr : ∀ g, row = some g → w.heap.size ≤ g) : Cur w' B c k :=
  h.kept hg.size (hg.block _ (by omega) fun e => by have := hr _ e.symm; omega) fun j hj => hg.block j (by have := hl2 j hj; omega) fun e => by have := hr _ e.symm; have := hl2 j hj; omega

theorem ownsRow_kept {w w' : World} {base : Nat} {e : TypeId} {size : Nat} {v : Value} {n : Nat} {xs : List Value} (h : w.ownsRow base e size v n xs) (hk : ∀ k, v.ownBlock = some k → w'.heap[k]? = w.heap[k]?) : w'.ownsRow base e size v n xs := by
  refine ⟨h.1, ?_⟩
  rcases h.2 with h | ⟨g, cap, cur, rfl, h1, h2, h3⟩
  · exact .inl h
  · exact .inr ⟨g, cap, cur, rfl, h1, by rw [hk g rfl]; exact h2, h3⟩
theorem row_past {w w1 : World} {base B : Nat} {v : Value} {n : Nat} {xs : List Value} (h : w.ownsRow base 3 1 v n xs) (hB : B < base) (hg : w.grownBy w1 (some B)) : w1.ownsRow base 3 1 v n xs :=
  ownsRow_kept h fun q hq => hg.block q (h.lt q hq).2 fun e => by have h1 := (h.lt q hq).1; have : q = B := (by simpa using e); omega
/-- A draw of a number: one of some kind; the cursor moves on. -/
def AmPost (w : World) (B : Nat) (c : Value) (k : Nat) (xs : List Int) (e : Ending) (w' : World) : Prop :=
  ∃ (j k' : Nat), j < xs.length ∧ e = .returned (.int .i64 (xs[j]?.getD 0)) ∧ k' ≤ k + 2 ∧ Cur w' B c k' ∧ w.grownBy w' (some B) ∧ w'.heap.size = w.heap.size
set_option maxHeartbeats 1600000 in
theorem among_any (B : Nat) (c v : Value) (k : Nat) (xs : List Int) (w : World) (h : Cur w B c k) (hk : k ≤ 1000000000) (hr : Rd w v xs) (hne : ∀ q, v.ownBlock = some q → q ≠ B) (h1 : 1 ≤ xs.length) (h2 : xs.length ≤ 1000) :
    Calls Try.prog 60 #[.pointer (some ⟨B, 0, none⟩), v] w (AmPost w B c k xs) := by
  have HR := Lib.hid hr
  have HNE := Lib.hid hne
  obtain ⟨a, cap, n, HX, rfl, _, _, _⟩ := hr.opn
  rw [HX.out] at h1 h2
  clear hr hne
  go_enter Try.func60, Try.ntmps60
  go_wp2_with fail
  refine (pick_any B c k (n : Int) _ h (by omega) (by omega) (by omega)).mono ?_
  rintro e w1 ⟨x, k1, x0, x1, rfl, hk1, hc1, hg1, hs1⟩
  obtain ⟨j, rfl⟩ := Int.eq_ofNat_of_zero_le x0
  have hj : j < n := by omega
  have hjI : (j : Int) < (n : Int) := by omega
  have hr1 : Rd w1 (.slice a n cap) xs := HR.out.kept hg1.size fun q hq => by
    have hlt : q < w.heap.size := by
      rcases HR.out with ⟨e, _⟩ | ⟨b, off, cap', e, _, _, hb, _⟩
      · rw [e] at hq; simp [Value.ownBlock] at hq
      · rw [e] at hq; have : b = q := (by simpa [Value.ownBlock] using hq); omega
    exact hg1.block q hlt fun e => HNE.out q hq (by simpa using e)
  obtain ⟨a', cap', n', HX', hv, _, _, ha⟩ := hr1.opn
  simp only [Value.slice.injEq] at hv
  obtain ⟨rfl, rfl, rfl⟩ := hv
  obtain ⟨b, off, rfl, _, hcell⟩ := ha (by omega)
  have hc := hcell j hj
  clear hcell
  go_wp2
  go_ret
  exact ⟨j, k1, by rw [HX.out]; exact hj, rfl, hk1, hc1, hg1, hs1⟩

theorem one_any (B : Nat) (c : Value) (k : Nat) (n : Int) (w : World) (h : Cur w B c k) (hk : k ≤ 1000000000) (hn : 1 ≤ n) (hn2 : n ≤ 1073741824) :
    Calls Try.prog 63 #[.pointer (some ⟨B, 0, none⟩), .int .i64 n] w fun e w' => ∃ (b : Bool) (k' : Nat), e = .returned (.bool b) ∧ k' ≤ k + 2 ∧ Cur w' B c k' ∧ w.grownBy w' (some B) ∧ w'.heap.size = w.heap.size := by
  go_enter Try.func63, Try.ntmps63
  go_wp2_with fail
  refine (pick_any B c k n _ h (by omega) (by omega) (by omega)).mono ?_
  rintro e w1 ⟨x, k1, x0, x1, rfl, hk1, hc1, hg1, hs1⟩
  go_wp2
  go_ret
  exact ⟨_, k1, rfl, hk1, hc1, hg1, hs1⟩

def SymPost (w : World) (B : Nat) (c : Value) (k n : Nat) (e : Ending) (w' : World) : Prop :=
  ∃ (v' : Value) (xs : List Int) (k' : Nat), e = .returned v' ∧ xs.length = n ∧ Own w' w.heap.size v' xs ∧ k' ≤ k + 2 * n + 10 ∧ Cur w' B c k' ∧ w.grownBy w' (some B)
set_option maxHeartbeats 1600000 in
theorem symbols_any (B : Nat) (c : Value) (k n : Nat) (w : World) (h : Cur w B c k) (hk : k ≤ 100000000) (hn : n ≤ 1000) :
    Calls Try.prog 64 #[.pointer (some ⟨B, 0, none⟩), .int .i64 n] w (SymPost w B c k n) := by
  obtain ⟨hlB, hlc⟩ := h.lt
  have hba : Below w.heap.size w (w.alloc (.cells #[] 3)) := (Below.refl _ _).alloc (Nat.le_refl _) _
  have h0 : (w.alloc (.cells #[] 3)).ownsRow w.heap.size 3 1 (.slice (some ⟨w.heap.size, 0, none⟩) 0 0) 0 (ints []) :=
    World.ownsRow_lit (base := w.heap.size) (e := 3) (size := 1) w #[] 0 (Nat.le_refl _) (by simp) rfl
  have hcur0 := h.below hba
  have hg0 : w.grownBy (w.alloc (.cells #[] 3)) (some B) := grownBelow (World.grownBy.refl _ _) hba
  go_enter Try.func64, Try.ntmps64
  go_wp2
  go_loopw [5, 6] (fun o i wr => ∃ (m k' : Nat) (l : List Int), m ≤ n ∧ i = .int .i64 m ∧ l.length = m ∧ wr.ownsRow w.heap.size 3 1 o m (ints l) ∧ k' ≤ k + 2 * m ∧ Cur wr B c k' ∧ w.grownBy wr (some B)) (fun _ i _ => n - (intOf i).toNat)
  case atStart => exact ⟨0, k, [], by omega, rfl, rfl, h0, by omega, hcur0, hg0⟩
  case round =>
    obtain ⟨m, k1, l, hm, rfl, hll, hown, hk1, hcur, hg⟩ := hrel
    have hsz := hg.size
    by_cases hlt : m < n
    · have hmI : (m : Int) < (n : Int) := by omega
      have hmd : decide ((m : Int) < (n : Int)) = true := by simp; omega
      have HLL := Lib.hid hll
      clear hll
      go_wp2_with fail
      refine (pick_any B c k1 16 _ hcur (by omega) (by omega) (by omega)).mono ?_
      rintro e w1 ⟨x, k2, x0, x1, rfl, hk2, hc1, hg1, -⟩
      have hown1 := row_past hown hlB hg1
      have hg2 := hg.trans' hg1
      have hsz1 := hg2.size
      clear hown hcur hg hg1
      go_wp2_with (at_builtin; refine wpList_push rfl (.tmp 13) (.tmp 16) 24 rfl Try.underlying24 Try.infoInt w.heap.size _ m l rfl hown1 rfl (by omega) hsz1 ?_; intro v' w5 hown5 hgrow5; have hc5 := hc1.grown hlB hlc hsz1 hgrow5 (fun g hg => (hown1.lt g hg).1); have hg5 := grownThen hg2 hgrow5 (fun g hg => .inl (hown1.lt g hg).1))
      go_roundw
      case rel => exact ⟨m + 1, k2, _, by omega, by go_num, by rw [List.length_append, HLL.out]; rfl, hown5, by omega, hc5, hg5⟩
      case measure => simp [intOf]; omega
    · obtain rfl : n = m := by omega
      by_cases hn0 : 0 < n
      · have hn0I : (0 : Int) < (n : Int) := by omega
        obtain ⟨g, capg, rfl, hgb, hglt⟩ := hown.form hn0
        have HLL := Lib.hid hll
        clear hll
        go_wp2_with fail
        refine (one_any B c k1 40 _ hcur (by omega) (by omega) (by omega)).mono ?_
        rintro e w1 ⟨b, k2, rfl, hk2, hc1, hg1, -⟩
        have hown1 := row_past hown hlB hg1
        have hg2 := hg.trans' hg1
        clear hown hcur hg hg1
        cases b
        · go_wp2
          go_ret
          exact ⟨_, l, k2, rfl, HLL.out, own_of_row hown1, by omega, hc1, hg2⟩
        · go_wp2_with fail
          refine (pick_any B c k2 (n : Int) _ hc1 (by omega) (by omega) (by omega)).mono ?_
          rintro e w3 ⟨x, k3, x0, x1, rfl, hk3, hc3, hg3, -⟩
          obtain ⟨p, rfl⟩ := Int.eq_ofNat_of_zero_le x0
          have hp : p < n := by omega
          have hpI : (p : Int) < (n : Int) := by omega
          have hown3 := row_past hown1 hlB hg3
          have hg4 := hg2.trans' hg3
          have hsz4 := hg4.size
          have hal : Below w3.heap.size w3 (w3.alloc (.cells #[.int .i64 (-1), .int .i64 16] 3)) := (Below.refl _ _).alloc (Nat.le_refl _) _
          have hown5 := ownsRow_below hown3 hal (fun q hq => (hown3.lt q hq).2)
          have hc5 := hc3.below hal
          have hg5 := grownBelow hg4 hal
          clear hown1 hc1 hg2 hown3 hc3 hg3
          go_wp2_with fail
          refine (among_any B c _ k3 [-1, 16] _ hc5 (by omega) (own_lit2 (-1) 16 (Nat.le_refl _)).rd (fun q hq => by have : w3.heap.size = q := (by simpa [Value.ownBlock] using hq); omega) (by simp) (by simp)).mono ?_
          rintro e w6 ⟨j, k6, hj, rfl, hk6, hc6, hg6, -⟩
          have hown6 := row_past hown5 hlB hg6
          have hg7 := hg5.trans' hg6
          have hsz7 := hg7.size
          have ho := own_of_row hown6
          have hcell := (ho.cellAt rfl).2 p (by rw [HLL.out]; exact hp)
          have hfr := ho.frozenAt rfl p
          have hst := ho.stored rfl p (by rw [HLL.out]; exact hp) (([-1, 16] : List Int)[j]?.getD 0)
          rw [Nat.zero_add] at hcell hst
          generalize ([-1, 16] : List Int)[j]?.getD 0 = y at *
          have HC := Lib.hid (hc6.grown hlB hlc hsz7 hst.2 (fun q hq => by have : g = q := (by simpa using hq); omega))
          have HG := Lib.hid (grownThen hg7 hst.2 (fun q hq => by have : g = q := (by simpa using hq); exact .inl (by omega)))
          have HO := Lib.hid hst.1
          clear hst ho hown6 hown5 hc5 hc6 hg5 hg6 hg7 hal
          go_wp2
          go_ret
          exact ⟨_, _, k6, rfl, by rw [List.length_set, HLL.out], HO.out, by omega, HC.out, HG.out⟩
      · obtain rfl : n = 0 := by omega
        go_wp2
        go_ret
        exact ⟨_, l, k1, rfl, hll, own_of_row hown, by omega, hcur, hg⟩

theorem own_lit8 {w : World} (a b c d e f g h : Int) : Own (w.alloc (.cells #[.int .i64 a, .int .i64 b, .int .i64 c, .int .i64 d, .int .i64 e, .int .i64 f, .int .i64 g, .int .i64 h] 3)) w.heap.size (.slice (some ⟨w.heap.size, 0, none⟩) 8 8) [a, b, c, d, e, f, g, h] :=
  .inr ⟨w.heap.size, 0, 8, _, rfl, Nat.le_refl _, ⟨_, heap_alloc_new w _⟩, by simp, by unfold maxLen; simp, by simp, rfl⟩
theorem below_lit (w : World) (o : Obj) : Below w.heap.size w (w.alloc o) := (Below.refl _ _).alloc (Nat.le_refl _) _
theorem lit8_bd {a b c d e f g h lo hi : Int} (h1 : ∀ x ∈ [a, b, c, d, e, f, g, h], lo ≤ x ∧ x ≤ hi) (j : Nat) (hj : j < [a, b, c, d, e, f, g, h].length) : lo ≤ ([a, b, c, d, e, f, g, h][j]?.getD 0) ∧ ([a, b, c, d, e, f, g, h][j]?.getD 0) ≤ hi := by
  have := h1 ([a, b, c, d, e, f, g, h][j]) (List.getElem_mem hj)
  rw [List.getElem?_eq_getElem hj]; exact this

end Go.Proofs.Ytlemielobmbadaa
namespace Go.Proofs.Ytlemielobmbadaa
open Go.RowKit
set_option maxRecDepth 100000

/-- Block B is a cursor over the bytes c, at a place up to K. -/
def Cs (w : World) (B : Nat) (c : Value) (K : Nat) : Prop := ∃ k, k ≤ K ∧ Cur w B c k
theorem Cs.lt {w : World} {B K : Nat} {c : Value} (h : Cs w B c K) : B < w.heap.size ∧ ∀ j, bb c = some j → j < w.heap.size := by
  obtain ⟨k, _, h1, h2, s, h3, h4, h5⟩ := h
  exact ⟨(Array.getElem?_eq_some_iff.1 h5).1, h1.lt⟩
theorem Cs.kept {w w' : World} {B K : Nat} {c : Value} (h : Cs w B c K) (hs : w.heap.size ≤ w'.heap.size) (hB : w'.heap[B]? = w.heap[B]?) (hc : ∀ j, bb c = some j → w'.heap[j]? = w.heap[j]?) : Cs w' B c K := by
  obtain ⟨k, hk, h1, h2, s, h3, h4, h5⟩ := h
  exact ⟨k, hk, h1.kept hs hc, h2, s, h3, h4, by rw [hB]; exact h5⟩
/-- Since the world w0 only the cursor has moved, and memory has been made. -/
def CS (w0 : World) (B : Nat) (c : Value) (K : Nat) (w' : World) : Prop := (B < w0.heap.size ∧ ∀ j, bb c = some j → j < w0.heap.size) ∧ Cs w' B c K ∧ w0.grownBy w' (some B)
section
variable {w0 w w' w'' : World} {B K K' : Nat} {c : Value}
theorem Cs.here (h : Cs w B c K) : CS w B c K w := ⟨h.lt, h, World.grownBy.refl _ _⟩
theorem Cs.mono (h : Cs w B c K) (hk : K ≤ K') : Cs w B c K' := by obtain ⟨k, h1, h2⟩ := h; exact ⟨k, by omega, h2⟩
theorem CS.mono (h : CS w0 B c K w) (hk : K ≤ K') : CS w0 B c K' w := ⟨h.1, h.2.1.mono hk, h.2.2⟩
theorem CS.size (h : CS w0 B c K w) : w0.heap.size ≤ w.heap.size := h.2.2.size
theorem CS.st (h : CS w0 B c K w) : Cs w B c K := h.2.1
theorem CS.call (h : CS w0 B c K w) (h2 : CS w B c K' w') : CS w0 B c K' w' := ⟨h.1, h2.2.1, h.2.2.trans' h2.2.2⟩
theorem CS.grown {row : Option Nat} (h : CS w0 B c K w) (hg : w.grownBy w' row) (hr : ∀ g, row = some g → w0.heap.size ≤ g) : CS w0 B c K w' := by
  have hs := h.size
  refine ⟨h.1, h.2.1.kept hg.size (hg.block _ h.2.1.lt.1 fun e => by have := hr _ e.symm; have := h.1.1; omega) (fun j hj => hg.block j (h.2.1.lt.2 j hj) fun e => by have := hr _ e.symm; have := h.1.2 j hj; omega), ?_⟩
  have g := h.2.2
  exact ⟨hg.os.trans g.os, hg.tape.trans g.tape, hg.output.trans g.output, Nat.le_trans g.size hg.size, fun k hk hne => by
    rw [hg.block k (by omega) (fun e => by have := hr k e.symm; omega), g.block k hk hne]⟩
theorem CS.below (h : CS w0 B c K w) (hb : Below w.heap.size w w') : CS w0 B c K w' :=
  h.grown (row := none) ⟨hb.os, hb.tape, hb.output, hb.size, fun k hk _ => hb.block k hk⟩ (fun g e => by cases e)
theorem CS.alloc (h : CS w0 B c K w) (o : Obj) : CS w0 B c K (w.alloc o) := h.below ((Below.refl _ _).alloc (Nat.le_refl _) o)
theorem CS.drew (h : CS w0 B c K w) : CS w0 B c K w.drew := h.below (Below.refl _ _).drew
theorem CS.set {b j : Nat} (h : CS w0 B c K w) (hb : w0.heap.size ≤ b) (u : Value) : CS w0 B c K (w.setCell ⟨b, j, none⟩ u) :=
  h.grown (row := some b) ⟨rfl, rfl, rfl, by simp, fun k _ hk => heap_setCell_other w ⟨b, j, none⟩ k u (fun e => hk (by simp [e]))⟩ (fun g e => by cases e; exact hb)
theorem CS.blk {b : Nat} {x : Obj} (h : CS w B c K w') (hx : w.heap[b]? = some x) (hne : b ≠ B) : w'.heap[b]? = some x := by
  rw [h.2.2.block b (Array.getElem?_eq_some_iff.1 hx).1 (fun e => hne (by simpa using e))]; exact hx
theorem CS.blk2 {b : Nat} {x : Obj} (h : CS w0 B c K w) (h2 : CS w B c K' w') (hb : w0.heap.size ≤ b) (hx : w.heap[b]? = some x) : w'.heap[b]? = some x :=
  h2.blk hx (by have := h.1.1; omega)
theorem CS.belowAll (h : CS w0 B c K w) {W : World} {Q : Nat} (hb : Below Q W w0) (hQ : Q ≤ B) : Below Q W w :=
  hb.grown h.2.2 (Nat.le_trans hQ (Nat.le_of_lt h.1.1)) (fun g e => by cases e; exact hQ)
end
theorem curN {w : World} {v : Value} (h : RdB w v) : Cs (w.alloc (.cells #[v, .int .i64 0, .int .u64 0] 76)) w.heap.size v 0 :=
  ⟨0, Nat.le_refl _, h.kept (by simp) (fun j hj => heap_alloc_old w _ (h.lt j hj)), fun j hj => by have := h.lt j hj; omega, 0, by omega, by omega, heap_alloc_new w _⟩

def PickP (w : World) (B : Nat) (c : Value) (K : Nat) (n : Int) (e : Ending) (w' : World) : Prop := ∃ x : Int, 0 ≤ x ∧ x ≤ n - 1 ∧ e = .returned (.int .i64 x) ∧ CS w B c (K + 2) w' ∧ w'.heap.size = w.heap.size
theorem pickC (B : Nat) (c : Value) (K : Nat) (n : Int) (w : World) (h : Cs w B c K) (hk : K ≤ 4000000000000000) (hn : 1 ≤ n) (hn2 : n ≤ 1073741824) :
    Calls Try.prog 61 #[.pointer (some ⟨B, 0, none⟩), .int .i64 n] w (PickP w B c K n) := by
  have hl := h.lt
  obtain ⟨k, hk2, hc⟩ := h
  refine (pick_any B c k n w hc (by omega) hn hn2).mono ?_
  rintro e w' ⟨x, k', h1, h2, h3, h4, h5, h6, h7⟩
  exact ⟨x, h1, h2, h3, ⟨hl, ⟨k', by omega, h5⟩, h6⟩, h7⟩
def OneP (w : World) (B : Nat) (c : Value) (K : Nat) (e : Ending) (w' : World) : Prop := ∃ b : Bool, e = .returned (.bool b) ∧ CS w B c (K + 2) w' ∧ w'.heap.size = w.heap.size
theorem oneC (B : Nat) (c : Value) (K : Nat) (n : Int) (w : World) (h : Cs w B c K) (hk : K ≤ 4000000000000000) (hn : 1 ≤ n) (hn2 : n ≤ 1073741824) :
    Calls Try.prog 63 #[.pointer (some ⟨B, 0, none⟩), .int .i64 n] w (OneP w B c K) := by
  go_enter Try.func63, Try.ntmps63
  go_wp2_with fail
  refine (pickC B c K n _ h hk hn hn2).mono ?_
  rintro e w1 ⟨x, x0, x1, rfl, hc1, hs1⟩
  go_wp2
  go_ret
  exact ⟨_, rfl, hc1, hs1⟩
def AmongP (w : World) (B : Nat) (c : Value) (K : Nat) (lo hi : Int) (e : Ending) (w' : World) : Prop := ∃ x : Int, lo ≤ x ∧ x ≤ hi ∧ e = .returned (.int .i64 x) ∧ CS w B c (K + 2) w' ∧ w'.heap.size = w.heap.size
/-- One of some numbers that lie in a range. -/
theorem amongC (B : Nat) (c : Value) (K g n cap : Nat) (lo hi : Int) (w : World) (h : Cs w B c K) (hk : K ≤ 4000000000000000) (h1 : 1 ≤ n) (h2 : n ≤ 1000) (hne : g ≠ B)
    (hr : ∀ j, j < n → ∃ x : Int, lo ≤ x ∧ x ≤ hi ∧ w.cell? ⟨g, j, none⟩ = some (.int .i64 x)) :
    Calls Try.prog 60 #[.pointer (some ⟨B, 0, none⟩), .slice (some ⟨g, 0, none⟩) n cap] w (AmongP w B c K lo hi) := by
  have HR := Lib.hid hr
  clear hr
  go_enter Try.func60, Try.ntmps60
  go_wp2_with fail
  refine (pickC B c K (n : Int) _ h hk (by omega) (by omega)).mono ?_
  rintro e w1 ⟨x, x0, x1, rfl, hc1, hs1⟩
  obtain ⟨j, rfl⟩ := Int.eq_ofNat_of_zero_le x0
  have hj : j < n := by omega
  have hjI : (j : Int) < (n : Int) := by omega
  obtain ⟨y, y0, y1, hcell⟩ := HR.out j hj
  have hc : w1.cell? ⟨g, j, none⟩ = some (.int .i64 y) := by
    rw [World.cell?_of_block (w := w) (hc1.2.2.block g (World.block_lt_of_cell? w _ hcell) (fun e => hne (by simpa using e)))]; exact hcell
  clear hcell
  go_wp2
  go_ret
  exact ⟨y, y0, y1, rfl, hc1, hs1⟩
end Go.Proofs.Ytlemielobmbadaa
