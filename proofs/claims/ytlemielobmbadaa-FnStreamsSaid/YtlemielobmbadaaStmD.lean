/- Walks: lists that FnStreams draws. -/
import Derived.Test.YtlemielobmbadaaCdd
namespace Go.Proofs.Ytlemielobmbadaa
open Go.RowKit
set_option maxRecDepth 100000

theorem lit9_row {w : World} {a b c d e f g h i lo hi : Int} {T : TypeId} (h1 : ∀ x ∈ [a, b, c, d, e, f, g, h, i], lo ≤ x ∧ x ≤ hi) {p : Nat} (hb : p = w.heap.size) :
    ∀ j, j < 9 → ∃ x : Int, lo ≤ x ∧ x ≤ hi ∧ (w.alloc (.cells #[.int .i64 a, .int .i64 b, .int .i64 c, .int .i64 d, .int .i64 e, .int .i64 f, .int .i64 g, .int .i64 h, .int .i64 i] T)).cell? ⟨p, j, none⟩ = some (.int .i64 x) := fun j hj => by
  subst hb
  have hx := h1 ([a, b, c, d, e, f, g, h, i][j]'(by simpa using hj)) (List.getElem_mem _)
  refine ⟨_, hx.1, hx.2, ?_⟩
  rw [cell_of_row _ _ _ _ _ _ (heap_alloc_new w _)]
  match j, hj with
  | 0, _ => rfl
  | 1, _ => rfl
  | 2, _ => rfl
  | 3, _ => rfl
  | 4, _ => rfl
  | 5, _ => rfl
  | 6, _ => rfl
  | 7, _ => rfl
  | 8, _ => rfl
set_option maxHeartbeats 1600000 in
theorem drawEncS_any (v : Value) (w : World) (h : RdB w v) :
    Calls Try.prog 15 #[v] w (DrP w 99) := by
  obtain ⟨a, len, cap, rfl, hrd⟩ := h
  have H1 := (curN (w := w) (v := .slice a len cap) ⟨a, len, cap, rfl, hrd⟩).here
  have hB0 := Lib.hid ((Below.refl w.heap.size w).alloc (Nat.le_refl _) (.cells #[.slice a len cap, .int .i64 0, .int .u64 0] 76))
  have H2 := H1.alloc (.cells #[.int .i64 11, .int .i64 22, .int .i64 33, .int .i64 22, .int .i64 44, .int .i64 88, .int .i64 0, .int .i64 10, .int .i64 99] 3)
  clear hrd
  go_enter Try.func15, Try.ntmps15
  go_wp2_with fail
  refine (amongC w.heap.size _ 0 _ 9 9 0 99 _ H2.st (by omega) (by omega) (by omega) (by omega) (lit9_row (by simp) (by simp))).mono ?_
  rintro e w3 ⟨x, x0, x1, rfl, c3, -⟩
  have H3 := H2.call c3
  obtain ⟨n, rfl⟩ := Int.eq_ofNat_of_zero_le (show 0 ≤ x by omega)
  go_wp2_with fail
  refine (symbolsC w.heap.size _ 2 n _ H3.st (by omega) (by omega)).mono ?_
  rintro e w4 ⟨v4, xs, rfl, hl, ho, c4⟩
  have hB4 := Lib.hid ((H3.call c4).belowAll hB0.out (Nat.le_refl _))
  have hz := H3.size
  have HO := Lib.hid (ho.mono (show w.heap.size ≤ w3.heap.size by simp at hz; omega))
  clear c3 c4 H3 H2 H1 ho
  go_wp2
  go_ret
  exact ⟨v4, xs, rfl, by omega, HO.out, hB4.out⟩
theorem most_any (a : Int) (w : World) : Calls Try.prog 62 #[.int .i64 a, .int .i64 1] w fun e w' => ∃ m : Int, e = .returned (.int .i64 m) ∧ w' = w ∧ (m = a ∨ m = 1) := by
  by_cases h : 1 < a
  · have hd : decide (1 < a) = true := by simpa using h
    go_enter Try.func62, Try.ntmps62
    go_wp2
    go_ret
    exact ⟨a, rfl, rfl, .inl rfl⟩
  · have hd : decide (1 < a) = false := by simpa using h
    go_enter Try.func62, Try.ntmps62
    go_wp2
    go_ret
    exact ⟨1, rfl, rfl, .inr rfl⟩
def DrIP (w : World) (e : Ending) (w' : World) : Prop := ∃ (v : Value) (xs : List Int) (r : Int), e = .returned (.tuple #[v, .int .i64 r]) ∧ xs.length ≤ 200 ∧ 0 ≤ r ∧ r ≤ 9 ∧ Own w' w.heap.size v xs ∧ Below w.heap.size w w'
set_option maxHeartbeats 1600000 in
theorem drawInter_any (v : Value) (w : World) (h : RdB w v) :
    Calls Try.prog 10 #[v] w (DrIP w) := by
  obtain ⟨a, len, cap, rfl, hrd⟩ := h
  have H1 := (curN (w := w) (v := .slice a len cap) ⟨a, len, cap, rfl, hrd⟩).here
  have hB0 := Lib.hid ((Below.refl w.heap.size w).alloc (Nat.le_refl _) (.cells #[.slice a len cap, .int .i64 0, .int .u64 0] 76))
  have H2 := H1.alloc (.cells #[.int .i64 1, .int .i64 2, .int .i64 3, .int .i64 4, .int .i64 5, .int .i64 8, .int .i64 0, .int .i64 9] 3)
  have hrow := lit8_row (w := w.alloc (.cells #[.slice a len cap, .int .i64 0, .int .u64 0] 76)) (a := 1) (b := 2) (c := 3) (d := 4) (e := 5) (f := 8) (g := 0) (h := 9) (lo := 0) (hi := 9) (T := 3) (by simp) (p := w.heap.size + 1) (by simp)
  clear hrd
  go_enter Try.func10, Try.ntmps10
  go_wp2_with fail
  refine (pickC w.heap.size _ 0 24 _ H2.st (by omega) (by omega) (by omega)).mono ?_
  rintro e w3 ⟨x, x0, x1, rfl, c3, -⟩
  have H3 := H2.call c3
  have hrow3 : ∀ j, j < 8 → ∃ y : Int, 0 ≤ y ∧ y ≤ 9 ∧ w3.cell? ⟨w.heap.size + 1, j, none⟩ = some (.int .i64 y) := fun j hj => by
    obtain ⟨y, y0, y1, hy⟩ := hrow j hj
    refine ⟨y, y0, y1, ?_⟩
    rw [World.cell?_of_block (w := (w.alloc (.cells #[.slice a len cap, .int .i64 0, .int .u64 0] 76)).alloc (.cells #[.int .i64 1, .int .i64 2, .int .i64 3, .int .i64 4, .int .i64 5, .int .i64 8, .int .i64 0, .int .i64 9] 3)) (c3.2.2.block _ (by simp) (by simp))]
    exact hy
  have HR := Lib.hid hrow3
  have hz3 := H3.size
  clear hrow hrow3 H2 c3
  obtain ⟨q, hq2, hq⟩ : ∃ q : Nat, q ≤ 1 ∧ x / 12 = (q : Int) := ⟨(x / 12).toNat, by omega, by omega⟩
  have hq6 : (6 : Int) + x / 12 = ((6 + q : Nat) : Int) := by omega
  have hq7 : wrap64 ((6 : Int) + x / 12) = ((6 + q : Nat) : Int) := by rw [hq6]; exact IntWalk.wrap64_in _ (by omega)
  go_wp2_with fail
  refine (amongC w.heap.size _ _ (w.heap.size + 1) (6 + q) 8 0 9 _ H3.st (by omega) (by omega) (by omega) (by omega) (fun j hj => HR.out j (by omega))).mono ?_
  rintro e w4 ⟨r, r0, r1, rfl, c4, -⟩
  have H4 := H3.call c4
  clear hq hq6 hq7 c4 HR H3 x0 x1
  go_wp2_with fail
  refine (most_any _ _).mono ?_
  rintro e w5 ⟨m, rfl, rfl, hm⟩
  go_wp2_with fail
  refine (pickC w.heap.size _ _ 12 _ H4.st (by omega) (by omega) (by omega)).mono ?_
  rintro e w6 ⟨p, p0, p1, rfl, c6, -⟩
  have H6 := H4.call c6
  clear c6 H4
  obtain ⟨nn, hn, hnn⟩ : ∃ nn : Nat, nn ≤ 99 ∧ m * p = (nn : Int) := by
    have h1 : 0 ≤ m * p := Int.mul_nonneg (by omega) p0
    have h2 : m * p ≤ 9 * 11 := Int.mul_le_mul (by omega) (by omega) p0 (by omega)
    exact ⟨(m * p).toNat, by omega, by omega⟩
  clear hm
  have hw : wrap64 (m * p) = (nn : Int) := by rw [hnn]; exact IntWalk.wrap64_in _ (by omega)
  go_wp2_with fail
  refine (oneC w.heap.size _ _ 12 _ H6.st (by omega) (by omega) (by omega)).mono ?_
  rintro e w7 ⟨b7, rfl, c7, -⟩
  have H7 := H6.call c7
  clear c7 H6 hnn hw p0 p1
  cases b7
  · go_wp2_with fail
    refine (oneC w.heap.size _ _ 30 _ H7.st (by omega) (by omega) (by omega)).mono ?_
    rintro e w8 ⟨b8, rfl, c8, -⟩
    have H8 := H7.call c8
    clear c8 H7
    cases b8
    · go_wp2_with fail
      refine (symbolsC w.heap.size _ _ nn _ H8.st (by omega) (by omega)).mono ?_
      rintro e w9 ⟨v9, xs, rfl, hl, ho, c9⟩
      have hB9 := Lib.hid ((H8.call c9).belowAll hB0.out (Nat.le_refl _))
      have hz := H8.size
      have HO := Lib.hid (ho.mono (show w.heap.size ≤ w8.heap.size by simp at hz; omega))
      clear c9 H8 ho
      go_wp2
      refine bodyPost_ret (results_tmp2 rfl _ _ _) rfl ⟨v9, xs, r, rfl, by omega, r0, r1, HO.out, hB9.out⟩
    · go_wp2_with fail
      refine (symbolsC w.heap.size _ _ 121 _ H8.st (by omega) (by omega)).mono ?_
      rintro e w9 ⟨v9, xs, rfl, hl, ho, c9⟩
      have hB9 := Lib.hid ((H8.call c9).belowAll hB0.out (Nat.le_refl _))
      have hz := H8.size
      have HO := Lib.hid (ho.mono (show w.heap.size ≤ w8.heap.size by simp at hz; omega))
      clear c9 H8 ho
      go_wp2
      refine bodyPost_ret (results_tmp2 rfl _ _ _) rfl ⟨v9, xs, r, rfl, by omega, r0, r1, HO.out, hB9.out⟩
  · go_wp2_with fail
    refine (pickC w.heap.size _ _ 30 _ H7.st (by omega) (by omega) (by omega)).mono ?_
    rintro e w7' ⟨y, y0, y1, rfl, c7, -⟩
    have H7' := H7.call c7
    clear c7 H7
    obtain ⟨yy, rfl⟩ := Int.eq_ofNat_of_zero_le y0
    go_wp2_with fail
    refine (oneC w.heap.size _ _ 30 _ H7'.st (by omega) (by omega) (by omega)).mono ?_
    rintro e w8 ⟨b8, rfl, c8, -⟩
    have H8 := H7'.call c8
    clear c8 H7'
    cases b8
    · go_wp2_with fail
      refine (symbolsC w.heap.size _ _ yy _ H8.st (by omega) (by omega)).mono ?_
      rintro e w9 ⟨v9, xs, rfl, hl, ho, c9⟩
      have hB9 := Lib.hid ((H8.call c9).belowAll hB0.out (Nat.le_refl _))
      have hz := H8.size
      have HO := Lib.hid (ho.mono (show w.heap.size ≤ w8.heap.size by simp at hz; omega))
      clear c9 H8 ho
      go_wp2
      refine bodyPost_ret (results_tmp2 rfl _ _ _) rfl ⟨v9, xs, r, rfl, by omega, r0, r1, HO.out, hB9.out⟩
    · go_wp2_with fail
      refine (symbolsC w.heap.size _ _ 121 _ H8.st (by omega) (by omega)).mono ?_
      rintro e w9 ⟨v9, xs, rfl, hl, ho, c9⟩
      have hB9 := Lib.hid ((H8.call c9).belowAll hB0.out (Nat.le_refl _))
      have hz := H8.size
      have HO := Lib.hid (ho.mono (show w.heap.size ≤ w8.heap.size by simp at hz; omega))
      clear c9 H8 ho
      go_wp2
      refine bodyPost_ret (results_tmp2 rfl _ _ _) rfl ⟨v9, xs, r, rfl, by omega, r0, r1, HO.out, hB9.out⟩
end Go.Proofs.Ytlemielobmbadaa
