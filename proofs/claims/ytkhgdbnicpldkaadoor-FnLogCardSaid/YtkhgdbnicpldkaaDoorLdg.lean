/- Walks: the draw of a text to recover a log from. -/
import Derived.Test.YtkhgdbnicpldkaaDoorLdf
namespace Go.Proofs.YtkhgdbnicpldkaaDoor
open Go.RowKit

theorem Tryd.infoU8 : (Tryd.prog.info? 5).map (fun i => (i.zero, i.size, i.bytes)) = some (some (.int .u8 0), 1, 1) := by kernel_rfl
def zer8 (n : Nat) : Array Value := madeCells (Value.int .u8 0).cells n
theorem mk_zeros (n : Nat) (hn : n ≤ 40000) (w : World) : (Instr.makeSlice 53 (.int .i64 n) (.int .i64 n)).run Tryd.prog w = .ok (.slice (some ⟨w.heap.size, 0, none⟩) n n) (w.alloc (.cells (zer8 n) 5)) := by
  obtain ⟨i0, hi, hz0, hz1, hz2⟩ := info_parts Tryd.infoU8
  have hr := run_make (P := Tryd.prog) w 53 5 i0 (.int .u8 0) Tryd.underlying53 hi hz0 .i64 .i64 n n (by omega) (Int.le_refl _) (by rw [hz2]; omega) (by omega)
  simp only [Int.toNat_natCast, hz1, Nat.mul_one] at hr
  exact hr
def zs8 (n : Nat) : ByteArray := mk (List.replicate n 0)
theorem zs8_size (n : Nat) : (zs8 n).size = n := by unfold zs8; rw [mk_size, List.length_replicate]
theorem conv_zeros (n : Nat) (w : World) : (convert 53 9 (.slice (some ⟨w.heap.size, 0, none⟩) n n)).run Tryd.prog (w.alloc (.cells (zer8 n) 5)) = .ok (.string (zs8 n)) (w.alloc (.cells (zer8 n) 5)) := by
  have := run_convert_bytes_back (w.alloc (.cells (zer8 n) 5)) 53 9 5 ⟨w.heap.size, 0, none⟩ n (List.replicate n 0) Tryd.underlying53 Tryd.underlying5 Tryd.underlying9 (fun j hj => by
    have e : (⟨w.heap.size, 0, none⟩ : Addr).add j = ⟨w.heap.size, j, none⟩ := by unfold Addr.add; split <;> simp_all
    rw [e, cell_of_row _ _ _ _ _ _ (heap_alloc_new w _), ← Array.getElem?_toList]
    have h2 : (zer8 n).toList = List.replicate n (.int .u8 0) := toList_madeCells_one (.int .u8 0) n
    rw [h2]
    have hj2 : j < n := by simpa using hj
    simp [hj2])
  rw [List.length_replicate] at this
  exact this

def DrRlP (w : World) (e : Ending) (w' : World) : Prop := ∃ s : ByteArray, s.size ≤ 40000 ∧ e = .returned (.string s) ∧ Below w.heap.size w w'
set_option maxHeartbeats 3200000 in
set_option maxRecDepth 100000 in
theorem drawRl_any (v : Value) (w : World) (h : RdB w v) :
    Calls Tryd.prog 40 #[v] w (DrRlP w) := by
  obtain ⟨a, len, cap, rfl, hrd⟩ := h
  have H1 := (curN (w := w) (v := .slice a len cap) ⟨a, len, cap, rfl, hrd⟩).here
  have hB0 := Lib.hid ((Below.refl w.heap.size w).alloc (Nat.le_refl _) (.cells #[.slice a len cap, .int .i64 0, .int .u64 0] 74))
  clear hrd
  go_enter Tryd.func40, Tryd.ntmps40
  go_wp2_with fail
  refine (logC w.heap.size _ 0 _ H1.st (by omega)).mono ?_
  rintro e w2 ⟨d, p, n, hm, rfl, c2⟩
  have H2 := (H1.call c2).alloc (.cells #[.string d, .string p, .int .i64 n] 31)
  have E3 := heap_alloc_new w2 (.cells #[.string d, .string p, .int .i64 n] 31)
  obtain ⟨e1, e2, e3, e4, e5, e6, _⟩ := blk3 E3
  have hcat : ¬ 9223372036854775807 < d.size + p.size := by omega
  have hsz : (d ++ p).size ≤ 4000 := by rw [ByteArray.size_append]; exact hm
  clear c2 E3
  go_wp2_with fail
  obtain ⟨s, hs⟩ : ∃ s, d ++ p = s := ⟨_, rfl⟩
  rw [hs] at hsz ⊢
  clear hs hcat
  refine (pickC w.heap.size _ 200 4 _ H2.st (by omega) (by omega) (by omega)).mono ?_
  rintro e w3 ⟨x, x0, x1, rfl, c3, -⟩
  have H3 := H2.call c3
  clear c3 e1 e2 e3 e4 e5 e6 H2
  by_cases e0 : x = 0
  · subst e0
    go_wp2_with fail
    refine (spoiltC w.heap.size _ 202 s _ H3.st (by omega) (by omega)).mono ?_
    rintro e w4 ⟨t, ht, rfl, c4⟩
    have H4 := (H3.call c4).mono (show 202 + 6 ≤ 300 by omega)
    have ht : t.size ≤ 40000 := by omega
    clear c4 H3
    go_wp2_with fail
    refine (oneC w.heap.size _ 300 40 _ H4.st (by omega) (by omega) (by omega)).mono ?_
    rintro e w7 ⟨b, rfl, c7, -⟩
    have H7 := H4.call c7
    clear c7 H4
    cases b
    · have HB := Lib.hid (H7.belowAll hB0.out (Nat.le_refl _))
      clear H7
      go_wp2
      go_ret
      exact ⟨_, ht, rfl, HB.out⟩
    · go_wp2_with fail
      refine (pickC w.heap.size _ 302 2 _ H7.st (by omega) (by omega) (by omega)).mono ?_
      rintro e w8 ⟨z, z0, z1, rfl, c8, -⟩
      have H8 := H7.call c8
      obtain ⟨nn, hN⟩ : ∃ nn : Nat, 30000 + z = (nn : Int) := ⟨(30000 + z).toNat, by omega⟩
      have hn4 : nn ≤ 40000 := by omega
      have HB0 := Lib.hid (((H8.alloc (.cells (zer8 nn) 5))).belowAll hB0.out (Nat.le_refl _))
      have km0 := mk_zeros nn hn4 w8
      have kz0 := conv_zeros nn w8
      have HZ := Lib.hid (show (zs8 nn).size ≤ 40000 by rw [zs8_size]; exact hn4)
      clear c8 H7 H8
      go_wp2
      go_ret
      exact ⟨zs8 nn, HZ.out, rfl, HB0.out⟩
  by_cases e1 : x = 1
  · subst e1
    go_wp2_with fail
    refine (pickC w.heap.size _ 202 ((s.size : Int) + 1) _ H3.st (by omega) (by omega) (by omega)).mono ?_
    rintro e w4 ⟨y, y0, y1, rfl, c4, -⟩
    obtain ⟨y, rfl⟩ := Int.eq_ofNat_of_zero_le y0
    have H4 := (H3.call c4).mono (show 202 + 2 ≤ 300 by omega)
    have hyT : (y : Int) ≤ (s.size : Int) := by omega
    have q1 : s.extract 0 y = mk (s.data.toList.take y) := ext_take s y
    obtain ⟨t, ht⟩ : ∃ t, mk (s.data.toList.take y) = t := ⟨_, rfl⟩
    have htl : (s.data.toList.take y).length ≤ y := List.length_take_le _ _
    have hts := mk_size (s.data.toList.take y)
    rw [ht] at q1 hts
    have ht : t.size ≤ 40000 := by omega
    clear c4 H3 hts htl
    go_wp2_with fail
    refine (oneC w.heap.size _ 300 40 _ H4.st (by omega) (by omega) (by omega)).mono ?_
    rintro e w7 ⟨b, rfl, c7, -⟩
    have H7 := H4.call c7
    clear c7 H4
    cases b
    · have HB := Lib.hid (H7.belowAll hB0.out (Nat.le_refl _))
      clear H7
      go_wp2
      go_ret
      exact ⟨_, ht, rfl, HB.out⟩
    · go_wp2_with fail
      refine (pickC w.heap.size _ 302 2 _ H7.st (by omega) (by omega) (by omega)).mono ?_
      rintro e w8 ⟨z, z0, z1, rfl, c8, -⟩
      have H8 := H7.call c8
      obtain ⟨nn, hN⟩ : ∃ nn : Nat, 30000 + z = (nn : Int) := ⟨(30000 + z).toNat, by omega⟩
      have hn4 : nn ≤ 40000 := by omega
      have HB0 := Lib.hid (((H8.alloc (.cells (zer8 nn) 5))).belowAll hB0.out (Nat.le_refl _))
      have km0 := mk_zeros nn hn4 w8
      have kz0 := conv_zeros nn w8
      have HZ := Lib.hid (show (zs8 nn).size ≤ 40000 by rw [zs8_size]; exact hn4)
      clear c8 H7 H8
      go_wp2
      go_ret
      exact ⟨zs8 nn, HZ.out, rfl, HB0.out⟩
  by_cases e2 : x = 2
  · subst e2
    go_wp2_with fail
    refine (pickC w.heap.size _ 202 4 _ H3.st (by omega) (by omega) (by omega)).mono ?_
    rintro e w5 ⟨y, y0, y1, rfl, c5, -⟩
    obtain ⟨y, rfl⟩ := Int.eq_ofNat_of_zero_le y0
    have H5 := H3.call c5
    clear c5 H3
    go_wp2_with fail
    refine (logRecordC w.heap.size _ 204 _ H5.st (by omega)).mono ?_
    rintro e w6 ⟨ra, rb, za, zb, rfl, c6⟩
    have H6 := H5.call c6
    have hyy : y ≤ 99 := by omega
    clear c6 H5
    have hdl := digs_len 1 y (by omega)
    have hln : (lineL y ra.data.toList rb.data.toList).length ≤ 100 := by
      have h1 := size_data ra
      have h2 := size_data rb
      have := sealL_len (bodyL y ra.data.toList rb.data.toList)
      simp only [lineL, List.length_append, List.length_singleton]
      simp only [bodyL, List.length_append, List.length_cons] at *
      omega
    go_wp2_with fail
    refine (l27Line_any y hyy ra rb (by omega) (by omega) _).mono ?_
    rintro e w4 ⟨rfl, b4⟩
    have H4 := (H6.below b4).mono (show 204 + 8 ≤ 300 by omega)
    generalize lineL y ra.data.toList rb.data.toList = ll at *
    have hcat : ¬ 9223372036854775807 < s.size + ll.length := by omega
    obtain ⟨t, ht⟩ : ∃ t, s ++ mk ll = t := ⟨_, rfl⟩
    have htz : t.size ≤ 40000 := by have := mk_size ll; rw [← ht, ByteArray.size_append]; omega
    have ht : t.size ≤ 40000 := htz
    clear b4 H6
    go_wp2_with fail
    refine (oneC w.heap.size _ 300 40 _ H4.st (by omega) (by omega) (by omega)).mono ?_
    rintro e w7 ⟨b, rfl, c7, -⟩
    have H7 := H4.call c7
    clear c7 H4
    cases b
    · have HB := Lib.hid (H7.belowAll hB0.out (Nat.le_refl _))
      clear H7
      go_wp2
      go_ret
      exact ⟨_, ht, rfl, HB.out⟩
    · go_wp2_with fail
      refine (pickC w.heap.size _ 302 2 _ H7.st (by omega) (by omega) (by omega)).mono ?_
      rintro e w8 ⟨z, z0, z1, rfl, c8, -⟩
      have H8 := H7.call c8
      obtain ⟨nn, hN⟩ : ∃ nn : Nat, 30000 + z = (nn : Int) := ⟨(30000 + z).toNat, by omega⟩
      have hn4 : nn ≤ 40000 := by omega
      have HB0 := Lib.hid (((H8.alloc (.cells (zer8 nn) 5))).belowAll hB0.out (Nat.le_refl _))
      have km0 := mk_zeros nn hn4 w8
      have kz0 := conv_zeros nn w8
      have HZ := Lib.hid (show (zs8 nn).size ≤ 40000 by rw [zs8_size]; exact hn4)
      clear c8 H7 H8
      go_wp2
      go_ret
      exact ⟨zs8 nn, HZ.out, rfl, HB0.out⟩
  have d0 : (x == 0) = false := by simpa using e0
  have d1 : (x == 1) = false := by simpa using e1
  have d2 : (x == 2) = false := by simpa using e2
  have H4 := H3.mono (show 202 ≤ 300 by omega)
  have ht : s.size ≤ 40000 := by omega
  clear H3
  go_wp2_with fail
  refine (oneC w.heap.size _ 300 40 _ H4.st (by omega) (by omega) (by omega)).mono ?_
  rintro e w7 ⟨b, rfl, c7, -⟩
  have H7 := H4.call c7
  clear c7 H4
  cases b
  · have HB := Lib.hid (H7.belowAll hB0.out (Nat.le_refl _))
    clear H7
    go_wp2
    go_ret
    exact ⟨_, ht, rfl, HB.out⟩
  · go_wp2_with fail
    refine (pickC w.heap.size _ 302 2 _ H7.st (by omega) (by omega) (by omega)).mono ?_
    rintro e w8 ⟨z, z0, z1, rfl, c8, -⟩
    have H8 := H7.call c8
    obtain ⟨nn, hN⟩ : ∃ nn : Nat, 30000 + z = (nn : Int) := ⟨(30000 + z).toNat, by omega⟩
    have hn4 : nn ≤ 40000 := by omega
    have HB0 := Lib.hid (((H8.alloc (.cells (zer8 nn) 5))).belowAll hB0.out (Nat.le_refl _))
    have km0 := mk_zeros nn hn4 w8
    have kz0 := conv_zeros nn w8
    have HZ := Lib.hid (show (zs8 nn).size ≤ 40000 by rw [zs8_size]; exact hn4)
    clear c8 H7 H8
    go_wp2
    go_ret
    exact ⟨zs8 nn, HZ.out, rfl, HB0.out⟩
end Go.Proofs.YtkhgdbnicpldkaaDoor
