/- The cursor that draws numbers from bytes: contracts that say in what range the answers lie. -/
import Derived.Test.YtlemielobmbadaaInt
namespace Go.Proofs.Ytlemielobmbadaa
open Go.RowKit

/-- A slice of bytes that can be read. -/
def RdB (w : World) (v : Value) : Prop :=
  ∃ a len cap, v = .slice a len cap ∧ len ≤ cap ∧ len ≤ 281474976710656 ∧ (0 < len → ∃ b off, a = some ⟨b, off, none⟩ ∧ b < w.heap.size ∧ ∀ j, j < len → ∃ x : Int, 0 ≤ x ∧ x ≤ 255 ∧ w.cell? ⟨b, off + j, none⟩ = some (.int .u8 x))
/-- The block in which a slice that is not empty lies. -/
def bb : Value → Option Nat
  | .slice (some a) (_ + 1) _ => some a.block
  | _ => none
theorem bb_some {b off len cap : Nat} (h : 0 < len) : bb (.slice (some ⟨b, off, none⟩) len cap) = some b := by
  obtain ⟨n, rfl⟩ : ∃ n, len = n + 1 := ⟨len - 1, by omega⟩
  rfl
theorem RdB.lt {w : World} {v : Value} (h : RdB w v) : ∀ j, bb v = some j → j < w.heap.size := by
  obtain ⟨a, len, cap, rfl, h1, h2, h3⟩ := h
  intro j hj
  rcases Nat.eq_zero_or_pos len with h0 | h0
  · subst h0; cases a <;> simp [bb] at hj
  · obtain ⟨b, off, rfl, hb, _⟩ := h3 h0
    rw [bb_some h0] at hj
    simp at hj; omega
theorem RdB.kept {w w' : World} {v : Value} (h : RdB w v) (hs : w.heap.size ≤ w'.heap.size) (hk : ∀ k, bb v = some k → w'.heap[k]? = w.heap[k]?) : RdB w' v := by
  obtain ⟨a, len, cap, rfl, h1, h2, h3⟩ := h
  refine ⟨a, len, cap, rfl, h1, h2, fun hl => ?_⟩
  obtain ⟨b, off, rfl, hb, hc⟩ := h3 hl
  refine ⟨b, off, rfl, by omega, fun j hj => ?_⟩
  obtain ⟨x, x1, x2, x3⟩ := hc j hj
  exact ⟨x, x1, x2, by rw [World.cell?_of_block (w := w) (hk b (bb_some hl))]; exact x3⟩

/-- Block B is a cursor over the bytes c, at place k. -/
def Cur (w : World) (B : Nat) (c : Value) (k : Nat) : Prop :=
  RdB w c ∧ (∀ j, bb c = some j → j ≠ B) ∧ ∃ s : Int, 0 ≤ s ∧ s < 18446744073709551616 ∧ w.heap[B]? = some (.cells #[c, .int .i64 k, .int .u64 s] 76 (0, 0))

/-- The answer lies in a range; the cursor has moved on; nothing else is changed. -/
def CurPost (w : World) (B : Nat) (c : Value) (k m : Nat) (lo hi : Int) (e : Ending) (w' : World) : Prop :=
  ∃ (x : Int) (k' : Nat), lo ≤ x ∧ x ≤ hi ∧ e = .returned (.int .i64 x) ∧ k' ≤ k + m ∧ Cur w' B c k' ∧ w.grownBy w' (some B) ∧ w'.heap.size = w.heap.size

theorem u64_bd (n : Int) : 0 ≤ IntKind.u64.wrap n ∧ IntKind.u64.wrap n < 18446744073709551616 := by
  have : IntKind.u64.wrap n = n % 18446744073709551616 := by simp [IntKind.wrap, IntKind.bits, IntKind.signed]
  rw [this]; omega
theorem and255_bd (y : Int) (h0 : 0 ≤ y) (h1 : y < 18446744073709551616) : 0 ≤ wrap64 (bits BinOp.and .u64 y 255) ∧ wrap64 (bits BinOp.and .u64 y 255) ≤ 255 := by
  rw [u64_and y 255 h0 h1 (by omega) (by omega)]
  have : y.toNat &&& (255 : Int).toNat ≤ 255 := Nat.and_le_right
  rw [IntWalk.wrap64_in _ (by omega)]; omega
theorem cur_after {w : World} {B k : Nat} {c : Value} {s s2 : Int} (hB : w.heap[B]? = some (.cells #[c, .int .i64 k, .int .u64 s] 76 (0, 0))) (hne : ∀ j, bb c = some j → j ≠ B)
    (hs2 : 0 ≤ s2 ∧ s2 < 18446744073709551616) (hc : RdB w c) (m n : Nat) :
    let w' := (((w.drewN m).setCell ⟨B, 1, none⟩ (.int .i64 ((k : Int) + 1))).setCell ⟨B, 2, none⟩ (.int .u64 s2)).drewN n
    Cur w' B c (k + 1) ∧ w.grownBy w' (some B) ∧ w'.heap.size = w.heap.size := by
  intro w'
  have h1 : ((w.drewN m).setCell ⟨B, 1, none⟩ (.int .i64 ((k : Int) + 1))).heap[B]? = some (.cells #[c, .int .i64 ((k : Int) + 1), .int .u64 s] 76 (0, 0)) := by
    rw [heap_setCell_same (w.drewN m) B 1 _ _ _ hB]; rfl
  have h2 : w'.heap[B]? = some (.cells #[c, .int .i64 ((k : Int) + 1), .int .u64 s2] 76 (0, 0)) := by
    show (((w.drewN m).setCell ⟨B, 1, none⟩ (.int .i64 ((k : Int) + 1))).setCell ⟨B, 2, none⟩ (.int .u64 s2)).heap[B]? = _
    rw [heap_setCell_same _ B 2 _ _ _ h1]; rfl
  have ho : ∀ j, j ≠ B → w'.heap[j]? = w.heap[j]? := fun j hj => by
    show (((w.drewN m).setCell ⟨B, 1, none⟩ (.int .i64 ((k : Int) + 1))).setCell ⟨B, 2, none⟩ (.int .u64 s2)).heap[j]? = _
    rw [heap_setCell_other _ _ _ _ hj, heap_setCell_other _ _ _ _ hj]; rfl
  have hsz : w'.heap.size = w.heap.size := by simp [w']
  refine ⟨⟨hc.kept (by omega) fun j hj => ho j (hne j hj), hne, s2, hs2.1, hs2.2, ?_⟩, ⟨rfl, rfl, rfl, by omega, fun j _ hj => ho j fun e => hj (by rw [e])⟩, hsz⟩
  rw [h2]; rfl

set_option maxHeartbeats 1600000 in
theorem next_any (B : Nat) (c : Value) (k : Nat) (w : World) (h : Cur w B c k) (hk : k ≤ 4611686018427387904) :
    Calls Try.prog 106 #[.pointer (some ⟨B, 0, none⟩)] w (CurPost w B c k 1 0 255) := by
  obtain ⟨hc, hne, s, hs0, hs1, hB⟩ := h
  obtain ⟨a, len, cap, rfl, hlc, hlen, ha⟩ := hc
  have c0 : w.cell? ⟨B, 0, none⟩ = some (.slice a len cap) := by rw [cell_of_row w _ _ _ _ _ hB]; rfl
  have c1 : w.cell? ⟨B, 1, none⟩ = some (.int .i64 k) := by rw [cell_of_row w _ _ _ _ _ hB]; rfl
  have c2 : w.cell? ⟨B, 2, none⟩ = some (.int .u64 s) := by rw [cell_of_row w _ _ _ _ _ hB]; rfl
  have fr : ∀ j, w.frozen? ⟨B, j, none⟩ = false := fun j => frozen_of_row w _ j _ _ hB
  have HB := Lib.hid hB
  clear hB
  by_cases hlt : k < len
  · obtain ⟨b, off, rfl, hbs, hcc⟩ := ha (by omega)
    obtain ⟨x, x0, x1, hx⟩ := hcc k hlt
    clear hcc
    have hltI : (k : Int) < (len : Int) := by omega
    have hd : decide ((k : Int) < (len : Int)) = true := by simpa using hlt
    go_enter Try.func106, Try.ntmps106
    go_wp2
    go_quiet (fail)
    go_wp2
    go_quiet (fail)
    go_wp2
    have hs2 := u64_bd (IntKind.u64.wrap (IntKind.u64.wrap (s * 6364136223846793005) + x) + 897897)
    generalize IntKind.u64.wrap (IntKind.u64.wrap (IntKind.u64.wrap (s * 6364136223846793005) + x) + 897897) = s2 at *
    have hle : ((k : Int) + 1 ≤ (len : Int)) := by omega
    go_quiet (fail)
    go_wp2
    go_ret
    exact ⟨x, k + 1, x0, x1, rfl, Nat.le_refl _, cur_after HB.out hne hs2 ⟨_, len, cap, rfl, hlc, hlen, ha⟩ _ _⟩
  · have hd : decide ((k : Int) < (len : Int)) = false := by simpa using hlt
    have hltI : ¬ ((k : Int) < (len : Int)) := by omega
    go_enter Try.func106, Try.ntmps106
    go_wp2
    go_quiet (fail)
    go_wp2
    have hs2 := u64_bd (IntKind.u64.wrap (IntKind.u64.wrap (s * 6364136223846793005)) + 897897)
    generalize IntKind.u64.wrap (IntKind.u64.wrap (IntKind.u64.wrap (s * 6364136223846793005)) + 897897) = s2 at *
    obtain ⟨hs20, hs21⟩ := hs2
    have hle : decide ((k : Int) + 1 ≤ (len : Int)) = false := by simp; omega
    have hleI : ¬ ((k : Int) + 1 ≤ (len : Int)) := by omega
    go_quiet (fail)
    go_wp2
    have hy : 0 ≤ s2 / 1099511627776 ∧ s2 / 1099511627776 < 18446744073709551616 := by omega
    have hx := and255_bd (s2 / 1099511627776) hy.1 hy.2
    go_ret
    exact ⟨_, k + 1, hx.1, hx.2, rfl, Nat.le_refl _, cur_after HB.out hne ⟨hs20, hs21⟩ ⟨_, len, cap, rfl, hlc, hlen, ha⟩ _ _⟩

theorem CurPost.mono' {w : World} {B : Nat} {c : Value} {k m m' : Nat} {lo hi lo' hi' : Int} {e : Ending} {w' : World} (h : CurPost w B c k m lo hi e w') (hm : m ≤ m') (hl : lo' ≤ lo) (hh : hi ≤ hi') : CurPost w B c k m' lo' hi' e w' := by
  obtain ⟨x, k', h1, h2, h3, h4, h5⟩ := h
  exact ⟨x, k', by omega, by omega, h3, by omega, h5⟩

set_option maxHeartbeats 1600000 in
theorem pick_any (B : Nat) (c : Value) (k : Nat) (n : Int) (w : World) (h : Cur w B c k) (hk : k ≤ 4611686018427387000) (hn : 1 ≤ n) (hn2 : n ≤ 1073741824) :
    Calls Try.prog 61 #[.pointer (some ⟨B, 0, none⟩), .int .i64 n] w (CurPost w B c k 2 0 (n - 1)) := by
  by_cases h1 : n = 1
  · subst h1
    go_enter Try.func61, Try.ntmps61
    go_wp2
    go_ret
    exact ⟨0, k, by omega, by omega, rfl, by omega, h, World.grownBy.refl _ _, rfl⟩
  · have h2 : ¬ n ≤ 1 := by omega
    by_cases h3 : 200 < n
    · go_enter Try.func61, Try.ntmps61
      go_wp2_with fail
      refine (next_any B c k _ h (by omega)).mono ?_
      rintro e w1 ⟨x, k1, x0, x1, rfl, hk1, hc1, hg1, hs1⟩
      go_wp2_with fail
      refine (next_any B c k1 _ hc1 (by omega)).mono ?_
      rintro e w2 ⟨y, k2, y0, y1, rfl, hk2, hc2, hg2, hs2⟩
      go_wp2
      go_ret
      have := Int.emod_nonneg (x * 256 + y) (show n ≠ 0 by omega)
      have := Int.emod_lt_of_pos (x * 256 + y) (show 0 < n by omega)
      exact ⟨_, k2, by omega, by omega, rfl, by omega, hc2, hg1.trans' hg2, hs2.trans hs1⟩
    · go_enter Try.func61, Try.ntmps61
      go_wp2_with fail
      refine (next_any B c k _ h (by omega)).mono ?_
      rintro e w1 ⟨x, k1, x0, x1, rfl, hk1, hc1, hg1, hs1⟩
      go_wp2
      go_ret
      have := Int.emod_nonneg x (show n ≠ 0 by omega)
      have := Int.emod_lt_of_pos x (show 0 < n by omega)
      exact ⟨_, k1, by omega, by omega, rfl, by omega, hc1, hg1, hs1⟩
end Go.Proofs.Ytlemielobmbadaa
