/- Walks: blocks that a cursor draws; two lists compared. -/
import Derived.Test.YtlemielobmbadaaDrw
import Derived.Test.YtlemielobmbadaaCs
namespace Go.Proofs.Ytlemielobmbadaa
open Go.RowKit
set_option maxRecDepth 100000

set_option maxHeartbeats 800000 in
theorem vInts_any (va vb : Value) (xs ys : List Int) (w : World) (ha : Rd w va xs) (hb : Rd w vb ys) :
    Calls Try.prog 14 #[va, vb] w fun e w' => e = .returned (.bool (eqL xs ys)) ∧ Dr w w' := by
  obtain ⟨a, capa, n, HX, rfl, _, hla, ha⟩ := ha.opn
  obtain ⟨b, capb, m, HY, rfl, _, hlb, hb⟩ := hb.opn
  by_cases hn : n = m
  · subst hn
    have hne : ((n : Int) != (n : Int)) = false := by simp
    have HR := Lib.hid (show xs = ys → eqL xs ys = true from eqL_of)
    have HN := Lib.hid (show xs ≠ ys → eqL xs ys = false from fun h => by simp [eqL, h])
    generalize eqL xs ys = r at *
    go_enter Try.func14, Try.ntmps14
    go_wp2
    go_loopw [5] (fun i wr => ∃ k : Nat, k ≤ n ∧ i = .int .i64 k ∧ Hid (xs.take k = ys.take k) ∧ Dr w wr) (fun i _ => n - (intOf i).toNat)
    case atStart => exact ⟨0, by omega, rfl, by simp [Hid], Dr.refl _⟩
    case round =>
      obtain ⟨k, hk, rfl, HT, m, rfl⟩ := hrel
      by_cases hlt : k < n
      · obtain ⟨b1, o1, rfl, hs1, hc1⟩ := ha (by omega)
        obtain ⟨b2, o2, rfl, hs2, hc2⟩ := hb (by omega)
        have c1 := hc1 k hlt
        have c2 := hc2 k hlt
        clear hc1 hc2
        by_cases he : (xs[k]?.getD 0) = (ys[k]?.getD 0)
        · have hne2 : ((xs[k]?.getD 0) != (ys[k]?.getD 0)) = false := by simpa using he
          have HE := Lib.hid he
          clear he
          go_wp2
          go_quiet (fail)
          go_wp2
          go_roundw
          case rel => exact ⟨k + 1, by omega, by go_num, take_eq_step (by rw [HX.out]; exact hlt) (by rw [HY.out]; exact hlt) HT.out HE.out, ⟨_, rfl⟩⟩
          case measure => simp [intOf]; omega
        · have hne2 : ((xs[k]?.getD 0) != (ys[k]?.getD 0)) = true := by simpa using he
          have HE := Lib.hid he
          clear he
          go_wp2
          go_quiet (fail)
          go_wp2
          go_ret
          exact ⟨by rw [HN.out (fun h => HE.out (by rw [h]))]; rfl, Dr.drewN ⟨_, rfl⟩ _⟩
      · obtain rfl : k = n := by omega
        go_wp2
        go_ret
        have hh := HT.out
        rw [← HX.out, List.take_length, HX.out, ← HY.out, List.take_length] at hh
        exact ⟨by rw [HR.out hh]; rfl, ⟨_, rfl⟩⟩
  · have hne : ((n : Int) != (m : Int)) = true := by rw [bne_iff_ne]; omega
    have he : eqL xs ys = false := by simp only [eqL, decide_eq_false_iff_not]; exact fun h => hn (by rw [← HX.out, ← HY.out, h])
    have HE := Lib.hid he
    clear he
    go_enter Try.func14, Try.ntmps14
    go_wp2
    go_ret
    exact ⟨by rw [HE.out]; rfl, Dr.refl _⟩


theorem vSame (va vb : Value) (xs : List Int) (w : World) (ha : Rd w va xs) (hb : Rd w vb xs) :
    Calls Try.prog 14 #[va, vb] w fun e w' => e = .returned (.bool true) ∧ Dr w w' := by
  have h := vInts_any va vb xs xs w ha hb
  rwa [eqL_refl] at h
def SymsP (w : World) (B : Nat) (c : Value) (K n : Nat) (e : Ending) (w' : World) : Prop := ∃ (v : Value) (xs : List Int), e = .returned v ∧ xs.length = n ∧ Own w' w.heap.size v xs ∧ CS w B c (K + 2 * n + 10) w'
theorem symbolsC (B : Nat) (c : Value) (K n : Nat) (w : World) (h : Cs w B c K) (hk : K ≤ 100000000) (hn : n ≤ 1000) :
    Calls Try.prog 64 #[.pointer (some ⟨B, 0, none⟩), .int .i64 n] w (SymsP w B c K n) := by
  have hl := h.lt
  obtain ⟨k, hk2, hc⟩ := h
  refine (symbols_any B c k n w hc (by omega) hn).mono ?_
  rintro e w' ⟨v, xs, k', h1, h2, h3, h4, h5, h6⟩
  exact ⟨v, xs, h1, h2, h3, hl, ⟨k', by omega, h5⟩, h6⟩
theorem lit8_row {w : World} {a b c d e f g h lo hi : Int} {T : TypeId} (h1 : ∀ x ∈ [a, b, c, d, e, f, g, h], lo ≤ x ∧ x ≤ hi) {p : Nat} (hb : p = w.heap.size) :
    ∀ j, j < 8 → ∃ x : Int, lo ≤ x ∧ x ≤ hi ∧ (w.alloc (.cells #[.int .i64 a, .int .i64 b, .int .i64 c, .int .i64 d, .int .i64 e, .int .i64 f, .int .i64 g, .int .i64 h] T)).cell? ⟨p, j, none⟩ = some (.int .i64 x) := fun j hj => by
  subst hb
  have hx := h1 ([a, b, c, d, e, f, g, h][j]'(by simpa using hj)) (List.getElem_mem _)
  refine ⟨_, hx.1, hx.2, ?_⟩
  rw [cell_of_row _ _ _ _ _ _ (heap_alloc_new w _)]
  match j, hj with
  | 0, _ => rfl
  | 1, _ => rfl
  | 2, _ => rfl
  | 3, _ => rfl
  | 4, _ => rfl
  | 5, _ => rfl
  | 6, _ => rfl
  | 7, _ => rfl

def DrP (w : World) (m : Nat) (e : Ending) (w' : World) : Prop := ∃ (v : Value) (xs : List Int), e = .returned v ∧ xs.length ≤ m ∧ Own w' w.heap.size v xs ∧ Below w.heap.size w w'
set_option maxHeartbeats 1600000 in
theorem drawEncB_any (v : Value) (w : World) (h : RdB w v) :
    Calls Try.prog 20 #[v] w (DrP w 20) := by
  obtain ⟨a, len, cap, rfl, hrd⟩ := h
  have H1 := (curN (w := w) (v := .slice a len cap) ⟨a, len, cap, rfl, hrd⟩).here
  have hB0 := Lib.hid ((Below.refl w.heap.size w).alloc (Nat.le_refl _) (.cells #[.slice a len cap, .int .i64 0, .int .u64 0] 76))
  have H2 := H1.alloc (.cells #[.int .i64 11, .int .i64 11, .int .i64 11, .int .i64 11, .int .i64 11, .int .i64 11, .int .i64 10, .int .i64 12] 3)
  clear hrd
  go_enter Try.func20, Try.ntmps20
  go_wp2_with fail
  refine (amongC w.heap.size _ 0 _ 8 8 10 12 _ H2.st (by omega) (by omega) (by omega) (by omega) (lit8_row (by simp) (by simp))).mono ?_
  rintro e w3 ⟨x, x0, x1, rfl, c3, -⟩
  have H3 := H2.call c3
  obtain ⟨n, rfl⟩ := Int.eq_ofNat_of_zero_le (show 0 ≤ x by omega)
  go_wp2_with fail
  refine (symbolsC w.heap.size _ 2 n _ H3.st (by omega) (by omega)).mono ?_
  rintro e w4 ⟨v4, xs, rfl, hl, ho, c4⟩
  have hB4 := Lib.hid ((H3.call c4).belowAll hB0.out (Nat.le_refl _))
  have hz := H3.size
  have HO := Lib.hid (ho.mono (show w.heap.size ≤ w3.heap.size by simp at hz; omega))
  clear c3 c4 H3 H2 H1 ho
  go_wp2
  go_ret
  exact ⟨v4, xs, rfl, by omega, HO.out, hB4.out⟩
end Go.Proofs.Ytlemielobmbadaa
