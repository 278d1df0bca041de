/- Walks: the draws of FnContainers: pointers, buffers. -/
import Derived.Test.YtlemielobmbadaaFrmC
import Derived.Test.YtlemielobmbadaaFrmD
import Derived.Test.YtlemielobmbadaaDecI
namespace Go.Proofs.Ytlemielobmbadaa
open Go.RowKit
set_option maxRecDepth 100000

theorem results_tmp5 {fn : Func} {t u v x y : Tmp} (h : fn.results = #[.tmp t, .tmp u, .tmp v, .tmp x, .tmp y]) (tmps : Array Value) (P : Program) (w : World) :
    (results fn tmps).run P w = .ok (.tuple #[tmps.getD t undef, tmps.getD u undef, tmps.getD v undef, tmps.getD x undef, tmps.getD y undef]) w := by
  simp [results, h]
def DrMvP (w : World) (e : Ending) (w' : World) : Prop := ∃ p d : Int, e = .returned (.tuple #[.int .i64 p, .int .i64 d]) ∧ (-1 ≤ p ∧ p ≤ 12) ∧ (-2 ≤ d ∧ d ≤ 2) ∧ Below w.heap.size w w'
set_option maxHeartbeats 1600000 in
theorem drawMv_any (v : Value) (w : World) (h : RdB w v) :
    Calls Try.prog 54 #[v] w (DrMvP w) := by
  obtain ⟨a, len, cap, rfl, hrd⟩ := h
  have H1 := (curN (w := w) (v := .slice a len cap) ⟨a, len, cap, rfl, hrd⟩).here
  have hB0 := Lib.hid ((Below.refl w.heap.size w).alloc (Nat.le_refl _) (.cells #[.slice a len cap, .int .i64 0, .int .u64 0] 76))
  clear hrd
  go_enter Try.func54, Try.ntmps54
  go_wp2_with fail
  refine (pickC w.heap.size _ 0 12 _ H1.st (by omega) (by omega) (by omega)).mono ?_
  rintro e w2 ⟨x, x0, x1, rfl, c2, -⟩
  have C2 := Lib.hid (H1.call c2)
  have hz2 : w.heap.size + 1 ≤ w2.heap.size := by have := C2.out.size; simpa using this
  have C3 := Lib.hid (C2.out.alloc (.cells (ints [0, 11, 5, x, 12, -1]).toArray 3))
  have hr : ∀ y ∈ [0, 11, 5, x, 12, -1], (-1 : Int) ≤ y ∧ y ≤ 12 := by
    intro y hy; simp only [List.mem_cons, List.not_mem_nil, or_false] at hy; omega
  clear c2 H1
  go_wp2_with fail
  refine (amongL w.heap.size _ _ [0, 11, 5, x, 12, -1] (-1) 12 _ w2 rfl w2.heap.size 6 6 rfl (by simp) (by omega) C3.out.st (by omega) (by omega) (by omega) hr).mono ?_
  rintro e w3 ⟨p, p0, p1, rfl, c3, -⟩
  have C4 := Lib.hid (C3.out.call c3)
  have hz3 : w.heap.size + 1 ≤ w3.heap.size := by have := C4.out.size; simpa using this
  have C5 := Lib.hid (C4.out.alloc (.cells (ints [-1, 0, 1, 1, -1, 2, -2]).toArray 3))
  clear c3 C3 C2 hr x0 x1
  go_wp2_with fail
  refine (amongL w.heap.size _ _ [-1, 0, 1, 1, -1, 2, -2] (-2) 2 _ w3 rfl w3.heap.size 7 7 rfl (by simp) (by omega) C5.out.st (by omega) (by omega) (by omega) (by decide)).mono ?_
  rintro e w4 ⟨d, d0, d1, rfl, c4, -⟩
  have HB := Lib.hid ((C5.out.call c4).belowAll hB0.out (Nat.le_refl _))
  clear c4 C5 C4
  go_wp2
  refine bodyPost_ret (results_tmp2 rfl _ _ _) rfl ?_
  exact ⟨p, d, rfl, ⟨p0, p1⟩, ⟨d0, d1⟩, HB.out⟩
def DrJuP (w : World) (e : Ending) (w' : World) : Prop := ∃ (v : Value) (xs : List Int) (f size lo hi : Int), e = .returned (.tuple #[.int .i64 f, v, .int .i64 size, .int .i64 lo, .int .i64 hi]) ∧ Own w' w.heap.size v xs ∧ Below w.heap.size w w'
set_option maxHeartbeats 6400000 in
theorem drawJu_any (v : Value) (w : World) (h : RdB w v) :
    Calls Try.prog 57 #[v] w (DrJuP w) := by
  obtain ⟨a, len, cap, rfl, hrd⟩ := h
  have H1 := (curN (w := w) (v := .slice a len cap) ⟨a, len, cap, rfl, hrd⟩).here
  have hB0 := Lib.hid ((Below.refl w.heap.size w).alloc (Nat.le_refl _) (.cells #[.slice a len cap, .int .i64 0, .int .u64 0] 76))
  have HW := Lib.hid (show (w.alloc (.cells #[.slice a len cap, .int .i64 0, .int .u64 0] 76)).heap.size = w.heap.size + 1 by simp)
  have H2 := Lib.hid (H1.alloc (.cells #[] 3))
  have HR0 := Lib.hid (show ((w.alloc (.cells #[.slice a len cap, .int .i64 0, .int .u64 0] 76)).alloc (.cells #[] 3)).ownsRow (w.heap.size + 1) 3 1 (.slice (some ⟨w.heap.size + 1, 0, none⟩) 0 0) 0 (ints []) from by
    have := World.ownsRow_lit (base := w.heap.size + 1) (e := 3) (size := 1) (w.alloc (.cells #[.slice a len cap, .int .i64 0, .int .u64 0] 76)) #[] 0 (by simp) (by simp) rfl
    simpa using this)
  clear hrd H1
  go_enter Try.func57, Try.ntmps57
  go_wp2_with fail
  generalize w.alloc (.cells #[.slice a len cap, .int .i64 0, .int .u64 0] 76) = W at *
  refine (pickC w.heap.size _ 0 12 _ H2.out.st (by omega) (by omega) (by omega)).mono ?_
  rintro e w2 ⟨x, x0, x1, rfl, c2, -⟩
  have C2 := Lib.hid (H2.out.call c2)
  have R2 := Lib.hid (row_cs HR0.out (Nat.lt_succ_self _) c2)
  obtain ⟨m, rfl⟩ := Int.eq_ofNat_of_zero_le x0
  have hm : m ≤ 11 := by omega
  clear c2 H2 HR0 x0 x1
  go_wp2
  go_loopw [8, 9] (fun os iv wr => ∃ (k j : Nat) (xs : List Int) (ae : Option Addr) (ce : Nat), os = .slice ae k ce ∧ iv = .int .i64 (j : Int) ∧ k + j ≤ 11 ∧ Hid (xs.length = k) ∧ Hid (wr.ownsRow (w.heap.size + 1) 3 1 (.slice ae k ce) k (ints xs)) ∧ Hid (CS W w.heap.size (.slice a len cap) (2 + 4 * k) wr)) (fun _ iv _ => (intOf iv).toNat)
  case atStart => exact ⟨0, m, [], _, _, rfl, rfl, by omega, rfl, R2.out, C2.out⟩
  case round =>
    clear R2 C2
    obtain ⟨k, j, xs, ae, ce, rfl, rfl, hkj, HL, HO, HC⟩ := hrel
    have hsz := HC.out.size
    rw [HW.out] at hsz
    by_cases hj : 0 < j
    · have hjI : (0 : Int) < (j : Int) := by omega
      have hjb : decide ((0 : Int) < (j : Int)) = true := decide_eq_true hjI
      have C2 := Lib.hid (HC.out.alloc (.cells (ints [12, 12, 12, 11, 13, 13, 14]).toArray 3))
      go_wp2_with fail
      refine (amongL w.heap.size _ _ [12, 12, 12, 11, 13, 13, 14] 11 14 _ wr rfl wr.heap.size 7 7 rfl (by simp) (by omega) C2.out.st (by omega) (by omega) (by omega) (by decide)).mono ?_
      rintro e w2 ⟨z, z0, z1, rfl, c2, -⟩
      have H2 := Lib.hid (row_cs (row_alloc HO.out _) (Nat.lt_succ_self _) c2)
      have C3 := Lib.hid (C2.out.call c2)
      have hs2 := C3.out.size
      rw [HW.out] at hs2
      have HLT := Lib.hid (fun x hx => HW.out ▸ (H2.out.lt x hx).1)
      clear c2 C2 HC HO
      go_wp2_with (at_builtin; go_loud (refine wpList_push rfl (.tmp 22) (.tmp 26) 24 rfl Try.underlying24 Try.infoInt (w.heap.size + 1) (.slice ae k ce) k xs rfl H2.out rfl (by omega) hs2 ?_; intro v3 w3 hown3 hgrow3; obtain ⟨a3, c3, n3, HN3, rfl, -⟩ := (own_of_row hown3).rd.opn; have hn3 : n3 = k + 1 := (by have := HN3.out; rw [List.length_append, HL.out] at this; exact this.symm); subst hn3; have H3 := Lib.hid hown3; have C4 := Lib.hid (C3.out.grown hgrow3 (fun g hg => HLT.out g hg)); clear hown3 hgrow3))
      go_roundw
      case rel => exact ⟨k + 1, j - 1, xs ++ [z], _, _, rfl, by go_num, by omega, by show (xs ++ [z]).length = k + 1; rw [List.length_append, HL.out]; rfl, H3.out, C4.out.mono (by omega)⟩
      case measure => simp only [intOf]; omega
    · obtain rfl : j = 0 := by omega
      have hk12 : k ≤ 11 := by omega
      have C1 := Lib.hid (HC.out.mono (show _ ≤ 60 by omega))
      clear HC hkj
      go_wp2_with fail
      refine (oneC w.heap.size _ _ 30 _ C1.out.st (by omega) (by omega) (by omega)).mono ?_
      rintro e w3 ⟨bb, rfl, c3, -⟩
      have H3 := Lib.hid (row_cs HO.out (Nat.lt_succ_self _) c3)
      have C3 := Lib.hid (C1.out.call c3)
      have hs3 := C3.out.size
      rw [HW.out] at hs3
      clear c3 C1 HO hsz
      go_upto_if 29 with fail
      go_cut [8] from 30 to 35 (fun s8 wx => ∃ (k : Nat) (xs : List Int) (ae : Option Addr) (ce : Nat), s8 = .slice ae k ce ∧ Hid (wx.ownsRow (w.heap.size + 1) 3 1 (.slice ae k ce) k (ints xs)) ∧ Hid (CS W w.heap.size (.slice a len cap) 100 wx))
      case first =>
        cases bb
        · go_wp2
          go_meet
          exact ⟨_, _, _, _, rfl, H3.out, C3.out.mono (by omega)⟩
        · have C4 := Lib.hid (C3.out.alloc (.cells (ints [15, -1, 0]).toArray 3))
          go_wp2_with fail
          refine (amongL w.heap.size _ _ [15, -1, 0] (-1) 15 _ w3 rfl w3.heap.size 3 3 rfl (by simp) (by omega) C4.out.st (by omega) (by omega) (by omega) (by decide)).mono ?_
          rintro e w4 ⟨z, z0, z1, rfl, c4, -⟩
          have H4 := Lib.hid (row_cs (row_alloc H3.out _) (Nat.lt_succ_self _) c4)
          have C5 := Lib.hid (C4.out.call c4)
          have hs4 := C5.out.size
          rw [HW.out] at hs4
          have HLT := Lib.hid (fun x hx => HW.out ▸ (H4.out.lt x hx).1)
          clear c4 C4 C3 H3
          go_wp2_with (at_builtin; go_loud (refine wpList_push rfl (.tmp 30) (.tmp 34) 24 rfl Try.underlying24 Try.infoInt (w.heap.size + 1) (.slice ae k ce) k xs rfl H4.out rfl (by omega) hs4 ?_; intro v3 w5 hown3 hgrow3; obtain ⟨a3, c3, n3, HN3, rfl, -⟩ := (own_of_row hown3).rd.opn; have hn3 : n3 = k + 1 := (by have := HN3.out; rw [List.length_append, HL.out] at this; exact this.symm); subst hn3; have H5 := Lib.hid hown3; have C6 := Lib.hid (C5.out.grown hgrow3 (fun g hg => HLT.out g hg)); clear hown3 hgrow3))
          go_meet
          exact ⟨_, _, _, _, rfl, H5.out, C6.out.mono (by omega)⟩
      case rest =>
      clear H3 C3 HL hk12 hs3
      obtain ⟨k, xs, ae, ce, rfl, H3, C3⟩ := hcut
      have hs3 := C3.out.size
      rw [HW.out] at hs3
      have C4 := Lib.hid (C3.out.alloc (.cells (ints [40, 40, 60, 100, 30, 101, 1]).toArray 3))
      have R4 := Lib.hid (row_alloc H3.out (.cells (ints [40, 40, 60, 100, 30, 101, 1]).toArray 3))
      have HLI := Lib.hid (fun (j : Nat) (hj : j < 7) => lit_row (w := wc) (xs := [40, 40, 60, 100, 30, 101, 1]) (lo := 1) (hi := 101) (T := 3) (by decide) rfl (n := 7) (by simp) j hj)
      clear C3 H3
      go_wp2_with fail
      refine (pickC w.heap.size _ _ 24 _ C4.out.st (by omega) (by omega) (by omega)).mono ?_
      rintro e w4 ⟨x, x0, x1, rfl, c4, -⟩
      have HL4 := Lib.hid (fun (j : Nat) (hj : j < 7) => (HLI.out j hj).elim fun y hy => show ∃ y : Int, 1 ≤ y ∧ y ≤ 101 ∧ w4.cell? ⟨wc.heap.size, j, none⟩ = some (.int .i64 y) from ⟨y, hy.1, hy.2.1, c4.cell hy.2.2 (by omega)⟩)
      have C5 := Lib.hid (C4.out.call c4)
      have R5 := Lib.hid (row_cs R4.out (Nat.lt_succ_self _) c4)
      clear c4 C4 R4 HLI
      obtain ⟨q, hq2, hq⟩ : ∃ q : Nat, q ≤ 1 ∧ x / 12 = (q : Int) := ⟨(x / 12).toNat, by omega, by omega⟩
      have hq6 : (5 : Int) + x / 12 = ((5 + q : Nat) : Int) := by omega
      have hq7 : wrap64 ((5 : Int) + x / 12) = ((5 + q : Nat) : Int) := by rw [hq6]; exact IntWalk.wrap64_in _ (by omega)
      go_wp2_with fail
      refine (amongC w.heap.size _ _ wc.heap.size (5 + q) 7 1 101 _ C5.out.st (by omega) (by omega) (by omega) (by omega) (fun j hj => HL4.out j (by omega))).mono ?_
      rintro e w5 ⟨size, s0, s1, rfl, c5, -⟩
      have C6 := Lib.hid (C5.out.call c5)
      have R6 := Lib.hid (row_cs R5.out (Nat.lt_succ_self _) c5)
      have hs6 := C6.out.size
      rw [HW.out] at hs6
      clear c5 C5 R5 HL4 hq hq6 hq7 x0 x1
      have C7 := Lib.hid (C6.out.alloc (.cells (ints [20, 22, 25, 0]).toArray 3))
      have R7 := Lib.hid (row_alloc R6.out (.cells (ints [20, 22, 25, 0]).toArray 3))
      go_wp2_with fail
      refine (amongL w.heap.size _ _ [20, 22, 25, 0] 0 25 _ w5 rfl w5.heap.size 4 4 rfl (by simp) (by omega) C7.out.st (by omega) (by omega) (by omega) (by decide)).mono ?_
      rintro e w6 ⟨lo, l0, l1, rfl, c6, -⟩
      have C8 := Lib.hid (C7.out.call c6)
      have R8 := Lib.hid (row_cs R7.out (Nat.lt_succ_self _) c6)
      have hs8 := C8.out.size
      rw [HW.out] at hs8
      clear c6 C7 R7 C6 R6
      have C9 := Lib.hid (C8.out.alloc (.cells (ints [10, 12, 8, 0, 20, -1]).toArray 3))
      have R9 := Lib.hid (row_alloc R8.out (.cells (ints [10, 12, 8, 0, 20, -1]).toArray 3))
      go_wp2_with fail
      refine (amongL w.heap.size _ _ [10, 12, 8, 0, 20, -1] (-1) 20 _ w6 rfl w6.heap.size 6 6 rfl (by simp) (by omega) C9.out.st (by omega) (by omega) (by omega) (by decide)).mono ?_
      rintro e w7 ⟨f, f0, f1, rfl, c7, -⟩
      have C10 := Lib.hid (C9.out.call c7)
      have R10 := Lib.hid (row_cs R9.out (Nat.lt_succ_self _) c7)
      have hs10 := C10.out.size
      rw [HW.out] at hs10
      clear c7 C9 R9 C8 R8
      have C11 := Lib.hid (C10.out.alloc (.cells (ints [0, 3, 6, 10, -1]).toArray 3))
      have R11 := Lib.hid (row_alloc R10.out (.cells (ints [0, 3, 6, 10, -1]).toArray 3))
      go_wp2_with fail
      refine (amongL w.heap.size _ _ [0, 3, 6, 10, -1] (-1) 10 _ w7 rfl w7.heap.size 5 5 rfl (by simp) (by omega) C11.out.st (by omega) (by omega) (by omega) (by decide)).mono ?_
      rintro e w8 ⟨d, d0, d1, rfl, c8, -⟩
      have HB := Lib.hid ((C11.out.call c8).belowAll hB0.out (Nat.le_refl _))
      have R12 := Lib.hid ((own_of_row (row_cs R11.out (Nat.lt_succ_self _) c8)).mono (show w.heap.size ≤ w.heap.size + 1 by omega))
      clear c8 C11 R11 C10 R10
      go_wp2
      refine bodyPost_ret (results_tmp5 rfl _ _ _) rfl ?_
      exact ⟨_, xs, f, size, lo, lo + d, rfl, R12.out, HB.out⟩
end Go.Proofs.Ytlemielobmbadaa
