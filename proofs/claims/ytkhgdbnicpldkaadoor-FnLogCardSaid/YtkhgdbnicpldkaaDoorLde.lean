/- Walks: logs that may be invalid, drawn. -/
import Derived.Test.YtkhgdbnicpldkaaDoorLdl
namespace Go.Proofs.YtkhgdbnicpldkaaDoor
open Go.RowKit

theorem CS.drewN {w0 w : World} {B K : Nat} {c : Value} (h : CS w0 B c K w) (n : Nat) : CS w0 B c K (w.drewN n) := h.below ⟨rfl, rfl, rfl, Nat.le_refl _, fun _ _ => rfl⟩
set_option maxHeartbeats 3200000 in
set_option maxRecDepth 100000 in
theorem spoiltC (B : Nat) (c : Value) (K : Nat) (t : ByteArray) (w : World) (h : Cs w B c K) (hk : K ≤ 100000000000) (ht : t.size ≤ 1000000) :
    Calls Tryd.prog 60 #[.pointer (some ⟨B, 0, none⟩), .string t, .string ⟨#[35, 64, 10, 48, 49]⟩] w (StrP w B c (K + 6) (t.size + 1)) := by
  have H0 := h.here
  have h5 : (⟨#[35, 64, 10, 48, 49]⟩ : ByteArray).size = 5 := rfl
  by_cases h0 : t.size = 0
  · have he : t.toList = [] := by rw [ByteArray.toList_eq]; exact List.eq_nil_of_length_eq_zero (by rw [← size_data]; exact h0)
    have he2 : t.toList.isEmpty = true := by rw [he]; rfl
    go_enter Tryd.func60, Tryd.ntmps60
    go_wp2
    go_ret
    exact ⟨_, by simp [ByteArray.size_extract]; omega, rfl, H0.mono (by omega)⟩
  have he : ¬ t.toList = [] := fun e => h0 (by rw [size_data, ← ByteArray.toList_eq, e]; rfl)
  have he2 : t.toList.isEmpty = false := by simpa using he
  have he3 : (!t.toList.isEmpty) = true := by simpa using he
  obtain ⟨m, hm⟩ : ∃ m, t.size = m := ⟨_, rfl⟩
  have HMZ := Lib.hid hm
  rw [hm] at ht h0
  clear hm
  go_enter Tryd.func60, Tryd.ntmps60
  go_wp2_with fail
  rw [HMZ.out]
  refine (pickC B c K (m : Int) _ h (by omega) (by omega) (by omega)).mono ?_
  rintro e w1 ⟨x, x0, x1, rfl, c1, -⟩
  obtain ⟨x, rfl⟩ := Int.eq_ofNat_of_zero_le x0
  have C1 := H0.call c1
  go_wp2_with fail
  refine (pickC B c (K + 2) 5 _ C1.st (by omega) (by omega) (by omega)).mono ?_
  rintro e w2 ⟨y, y0, y1, rfl, c2, -⟩
  obtain ⟨y, rfl⟩ := Int.eq_ofNat_of_zero_le y0
  have C2 := C1.call c2
  have hy : y ≤ 4 := by omega
  have hyI : (y : Int) ≤ 5 := by omega
  have hy2 : (1 : Int) ≤ ((5 - y : Nat) : Int) := by omega
  have hy3 : 1 ≤ 5 - y := by omega
  have hxm : x ≤ m := by omega
  have hxI : (x : Int) ≤ (m : Int) := by omega
  have hxI2 : (x : Int) + 1 ≤ (m : Int) := by omega
  have q1 : t.extract 0 x = mk (t.data.toList.take x) := ext_take t x
  have q2 : t.extract x t.size = mk (t.data.toList.drop x) := ext_drop t x
  have q3 : t.extract (x + 1) t.size = mk (t.data.toList.drop (x + 1)) := ext_drop t (x + 1)
  have hxT : (x : Int) ≤ (t.size : Int) := by rw [HMZ.out]; exact hxI
  have hxT2 : (x : Int) + 1 ≤ (t.size : Int) := by rw [HMZ.out]; exact hxI2
  have n1 : (t.data.toList.take x).length ≤ x := List.length_take_le _ _
  have n2 : (t.data.toList.drop x).length = m - x := by rw [List.length_drop, ← size_data, HMZ.out]
  have n3 : (t.data.toList.drop (x + 1)).length = m - (x + 1) := by rw [List.length_drop, ← size_data, HMZ.out]
  generalize t.data.toList.take x = l1 at *
  generalize t.data.toList.drop x = l2 at *
  generalize t.data.toList.drop (x + 1) = l3 at *
  have hu : ((⟨#[35, 64, 10, 48, 49]⟩ : ByteArray).extract y 5).extract 0 1 = (((⟨#[35, 64, 10, 48, 49]⟩ : ByteArray).extract y 5).extract 0 1) := rfl
  obtain ⟨u, hu⟩ : ∃ u, ((⟨#[35, 64, 10, 48, 49]⟩ : ByteArray).extract y 5).extract 0 1 = u := ⟨_, rfl⟩
  have hul : u.size ≤ 1 := by rw [← hu]; simp [ByteArray.size_extract]; omega
  have n2 : l2.length ≤ m - x := by omega
  have n3 : l3.length ≤ m - (x + 1) := by omega
  have z1 : ¬ 9223372036854775807 < l1.length + u.size := by omega
  have z2 : ¬ 9223372036854775807 < l1.length + u.size + l2.length := by omega
  have z3 : ¬ 9223372036854775807 < l1.length + u.size + l3.length := by omega
  have z4 : ¬ 9223372036854775807 < l1.length + l3.length := by omega
  have hw1 : IntKind.i64.wrap ((x : Int) + 1) = (x : Int) + 1 := IntWalk.i64_in _ (by omega)
  have hx1 : ((x : Int) + 1).toNat = x + 1 := by omega
  have y1 : (mk l1 ++ u ++ mk l2).size ≤ t.size + 1 := by have := mk_size l1; have := mk_size l2; rw [ByteArray.size_append, ByteArray.size_append, HMZ.out]; omega
  have y2 : (mk l1 ++ u ++ mk l3).size ≤ t.size + 1 := by have := mk_size l1; have := mk_size l3; rw [ByteArray.size_append, ByteArray.size_append, HMZ.out]; omega
  have y3 : (mk l1 ++ mk l3).size ≤ t.size + 1 := by have := mk_size l1; have := mk_size l3; rw [ByteArray.size_append, HMZ.out]; omega
  have Y1 := Lib.hid y1
  have Y2 := Lib.hid y2
  have Y3 := Lib.hid y3
  clear y1 y2 y3 n2 n3
  go_wp2_with fail
  refine (pickC B c (K + 4) 3 _ C2.st (by omega) (by omega) (by omega)).mono ?_
  rintro e w3 ⟨z, z0, z9, rfl, c3, -⟩
  have C3 := C2.call c3
  by_cases e0 : z = 0
  · subst e0
    go_wp2
    go_quiet (fail)
    go_wp2
    go_ret
    exact ⟨_, Y1.out, rfl, (C3.drewN _).mono (by omega)⟩
  by_cases e1 : z = 1
  · subst e1
    go_wp2
    go_quiet (fail)
    go_wp2
    go_ret
    exact ⟨_, Y2.out, rfl, (C3.drewN _).mono (by omega)⟩
  have d0 : (z == 0) = false := by simpa using e0
  have d1 : (z == 1) = false := by simpa using e1
  go_wp2
  go_quiet (fail)
  go_wp2
  go_ret
  exact ⟨_, Y3.out, rfl, (C3.drewN _).mono (by omega)⟩

set_option maxHeartbeats 3200000 in
set_option maxRecDepth 100000 in
theorem anyLogC (B : Nat) (c : Value) (K : Nat) (w : World) (h : Cs w B c K) (hk : K ≤ 10000000000) :
    Calls Tryd.prog 52 #[.pointer (some ⟨B, 0, none⟩)] w (LogP w B c (K + 300) 10000) := by
  have H0 := h.here
  have H1 := H0.alloc (.cells #[.string ⟨#[]⟩, .string ⟨#[]⟩, .int .i64 0] 31)
  have R1 := heap_alloc_new w (.cells #[.string ⟨#[]⟩, .string ⟨#[]⟩, .int .i64 0] 31)
  clear h
  go_enter Tryd.func52, Tryd.ntmps52
  go_wp2_with fail
  refine (logC B c K _ H1.st (by omega)).mono ?_
  rintro e w2 ⟨d, p, n, hm, rfl, c2⟩
  have R2 := H1.blk2 c2 (Nat.le_refl _) R1
  have H2 := (H1.call c2).alloc (.cells #[.string d, .string p, .int .i64 n] 31)
  have hl2 := (Array.getElem?_eq_some_iff.1 R2).1
  have hz2 := (H1.call c2).size
  have R3 := (heap_alloc_old w2 (.cells #[.string d, .string p, .int .i64 n] 31) hl2).trans R2
  have E3 := heap_alloc_new w2 (.cells #[.string d, .string p, .int .i64 n] 31)
  clear c2 R1 R2 H1
  go_wp2_with fail
  refine (pickC B c (K + 200) 24 _ H2.st (by omega) (by omega) (by omega)).mono ?_
  rintro e w5 ⟨x, x0, x1, rfl, c5, -⟩
  have H5 := H2.call c5
  have R5 := H2.blk2 c5 (Nat.le_refl _) R3
  have E5 := H2.blk2 c5 hz2 E3
  have hne : w2.heap.size ≠ w.heap.size := by omega
  clear c5 R3 E3 H2
  obtain ⟨r1, r2, r3, r4, r5, r6, _⟩ := blk3 R5
  obtain ⟨e1, e2, e3, e4, e5, e6, _⟩ := blk3 E5
  by_cases x0 : x = 0
  · subst x0
    go_wp2
    exact bodyPost_ret (v := .agg #[.string d, .string p, .int .i64 (wrap64 (n + 1))]) (by simp [results, Tryd.results52, go_sem, r1, r2, r3]) rfl ⟨d, p, wrap64 (n + 1), by omega, rfl, ((((H5.set hz2 _).set (Nat.le_refl _) _).set (Nat.le_refl _) _).set (Nat.le_refl _) _).mono (by omega)⟩
  by_cases x1 : x = 1
  · subst x1
    go_wp2_with fail
    refine (spoiltC B c (K + 202) p _ H5.st (by omega) (by omega)).mono ?_
    rintro e w6 ⟨s, hs, rfl, c6⟩
    have H6 := H5.call c6
    have R6 := H5.blk2 c6 (Nat.le_refl _) R5
    have E6 := H5.blk2 c6 hz2 E5
    clear r1 r2 r3 r4 r5 r6 e1 e2 e3 e4 e5 e6
    obtain ⟨r1, r2, r3, r4, r5, r6, _⟩ := blk3 R6
    obtain ⟨e1, e2, e3, e4, e5, e6, _⟩ := blk3 E6
    clear c6
    go_wp2
    exact bodyPost_ret (v := .agg #[.string d, .string s, .int .i64 n]) (by simp [results, Tryd.results52, go_sem, r1, r2, r3]) rfl ⟨d, s, n, by omega, rfl, ((((H6.set hz2 _).set (Nat.le_refl _) _).set (Nat.le_refl _) _).set (Nat.le_refl _) _).mono (by omega)⟩
  by_cases x2 : x = 2
  · subst x2
    have hcat : ¬ 9223372036854775807 < d.size + p.size := by omega
    go_wp2
    exact bodyPost_ret (v := .agg #[.string (d ++ p), .string p, .int .i64 n]) (by simp [results, Tryd.results52, go_sem, r1, r2, r3]) rfl ⟨d ++ p, p, n, by rw [ByteArray.size_append]; omega, rfl, ((((H5.set hz2 _).set (Nat.le_refl _) _).set (Nat.le_refl _) _).set (Nat.le_refl _) _).mono (by omega)⟩
  have d0 : (x == 0) = false := by simpa using x0
  have d1 : (x == 1) = false := by simpa using x1
  have d2 : (x == 2) = false := by simpa using x2
  go_wp2
  exact bodyPost_ret (v := .agg #[.string d, .string p, .int .i64 n]) (by simp [results, Tryd.results52, go_sem, r1, r2, r3]) rfl ⟨d, p, n, by omega, rfl, (((H5.set (Nat.le_refl _) _).set (Nat.le_refl _) _).set (Nat.le_refl _) _).mono (by omega)⟩

def DrLogP (w : World) (m : Nat) (e : Ending) (w' : World) : Prop := ∃ (d p : ByteArray) (n : Int) (a b : ByteArray), d.size + p.size ≤ m ∧ a.size ≤ 20 ∧ b.size ≤ 20 ∧ e = .returned (.tuple #[.agg #[.string d, .string p, .int .i64 n], .agg #[.string a, .string b]]) ∧ Below w.heap.size w w'
def DrEncP (w : World) (e : Ending) (w' : World) : Prop := ∃ (k : Int) (a b : ByteArray), -1 ≤ k ∧ k ≤ 60 ∧ a.size ≤ 20 ∧ b.size ≤ 20 ∧ e = .returned (.tuple #[.int .i64 k, .agg #[.string a, .string b]]) ∧ Below w.heap.size w w'
def DrCrP (w : World) (m : Nat) (e : Ending) (w' : World) : Prop := ∃ (d p : ByteArray) (n k : Int) (t : Bool), d.size + p.size ≤ m ∧ -1 ≤ k ∧ k ≤ 1000000 ∧ e = .returned (.tuple #[.agg #[.string d, .string p, .int .i64 n], .int .i64 k, .bool t]) ∧ Below w.heap.size w w'
theorem row_ints {w : World} {cs : Array Value} {T : TypeId} {lo hi : Int} {n b : Nat} (h : ∀ j, j < n → ∃ x : Int, lo ≤ x ∧ x ≤ hi ∧ cs[j]? = some (.int .i64 x)) (hb : b = w.heap.size) :
    ∀ j, j < n → ∃ x : Int, lo ≤ x ∧ x ≤ hi ∧ (w.alloc (.cells cs T)).cell? ⟨b, j, none⟩ = some (.int .i64 x) := fun j hj => by
  subst hb
  obtain ⟨x, h1, h2, h3⟩ := h j hj
  exact ⟨x, h1, h2, by rw [cell_of_row _ _ _ _ _ _ (heap_alloc_new w _)]; exact h3⟩

set_option maxHeartbeats 3200000 in
set_option maxRecDepth 100000 in
theorem drawEnc_any (v : Value) (w : World) (h : RdB w v) :
    Calls Tryd.prog 39 #[v] w (DrEncP w) := by
  obtain ⟨a, len, cap, rfl, hrd⟩ := h
  have hR0 : RdB (w.alloc (.cells #[.string ⟨#[]⟩, .string ⟨#[]⟩] 27)) (.slice a len cap) := RdB.kept ⟨a, len, cap, rfl, hrd⟩ (by simp) (fun k hk => heap_alloc_old _ _ (RdB.lt ⟨a, len, cap, rfl, hrd⟩ k hk))
  have H1 := (curN hR0).here
  have hs1 : (w.alloc (.cells #[.string ⟨#[]⟩, .string ⟨#[]⟩] 27)).heap.size = w.heap.size + 1 := by simp
  rw [hs1] at H1
  have R1 := (heap_alloc_old _ (.cells #[.slice a len cap, .int .i64 0, .int .u64 0] 74) (by simp)).trans (heap_alloc_new w (.cells #[.string ⟨#[]⟩, .string ⟨#[]⟩] 27))
  have hB0 := Lib.hid (((Below.refl w.heap.size w).alloc (Nat.le_refl _) (.cells #[.string ⟨#[]⟩, .string ⟨#[]⟩] 27)).alloc (by simp) (.cells #[.slice a len cap, .int .i64 0, .int .u64 0] 74))
  clear hrd hR0
  have H2 := H1.alloc (.cells #[.int .i64 0, .int .i64 1, .int .i64 12, .int .i64 59, .int .i64 60, .int .i64 (-1)] 3)
  have R2 := (heap_alloc_old _ (.cells #[.int .i64 0, .int .i64 1, .int .i64 12, .int .i64 59, .int .i64 60, .int .i64 (-1)] 3) (by simp; omega)).trans R1
  go_enter Tryd.func39, Tryd.ntmps39
  go_wp2_with fail
  refine (amongC (w.heap.size + 1) _ 0 _ 6 6 (-1) 60 _ H2.st (by omega) (by omega) (by omega) (by omega) (row_ints (fun j hj => ?hrow) (by simp))).mono ?_
  case hrow => match j, hj with
    | 0, _ => exact ⟨0, by omega, by omega, rfl⟩
    | 1, _ => exact ⟨1, by omega, by omega, rfl⟩
    | 2, _ => exact ⟨12, by omega, by omega, rfl⟩
    | 3, _ => exact ⟨59, by omega, by omega, rfl⟩
    | 4, _ => exact ⟨60, by omega, by omega, rfl⟩
    | 5, _ => exact ⟨-1, by omega, by omega, rfl⟩
  rintro e w3 ⟨x, x0, x1, rfl, c3, -⟩
  have H3 := H2.call c3
  have R3 := c3.blk R2 (by omega)
  clear c3 H2 R2 R1
  go_wp2_with fail
  refine (logRecordC (w.heap.size + 1) _ 2 _ H3.st (by omega)).mono ?_
  rintro e w4 ⟨s1, s2, z1, z2, rfl, c4⟩
  have H4 := H3.call c4
  have R4 := c4.blk R3 (by omega)
  obtain ⟨r1, r2, r3, r4, _⟩ := blk2c R4
  have hB4 := Lib.hid (H4.belowAll hB0.out (by omega))
  clear c4 R3 R4 H4 H3 H1
  go_wp2
  exact bodyPost_ret (v := .tuple #[.int .i64 x, .agg #[.string s1, .string s2]]) (by simp [results, Tryd.results39, go_sem, r1, r2]) rfl ⟨x, s1, s2, x0, x1, z1, z2, rfl, below_set (below_set hB4.out (Nat.le_refl _)) (Nat.le_refl _)⟩
end Go.Proofs.YtkhgdbnicpldkaaDoor
