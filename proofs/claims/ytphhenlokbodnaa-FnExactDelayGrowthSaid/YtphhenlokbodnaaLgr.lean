/- Walks: the laws' functions on growths. (Printed by genlgr.py.) -/
import Derived.Test.YtphhenlokbodnaaGroS
import Derived.Test.YtphhenlokbodnaaLnw
namespace Go.Proofs.Ytphhenlokbodnaa
open Go.RowKit Go.Sort
set_option maxRecDepth 100000

def mkGro (q : Int) : Gro := ⟨⟨q, q + 1, q + 1 + 1, q + 1 + 1 + 1⟩, q + 1 + 1 + 1 + 1, q + 1 + 1 + 1 + 1 + 1⟩
theorem szGrowthS_any (v : Value) (zs : List Gro) (l : Int) (w : World) (h : Rwt w (flt 6 groE zs) v) (h0 : 0 ≤ l) (h1 : l ≤ 1048576) :
    Calls Try.prog 8 #[v, .int .i64 l] w fun e w' => e = .returned (.int .i64 (if l < zs.length then -1 else l - zs.length)) ∧ w = w' := by
  obtain ⟨a, n, cap, rfl, HN, hla, _⟩ := flt_opnw (m := 6) (enc := groE) (fun _ => rfl) (by omega) nilG h
  rw [HN.out]
  clear h
  by_cases hc : l - n < 0
  · have hb : decide (l - n < 0) = true := by simpa using hc
    have e : (if l < (n : Int) then (-1 : Int) else l - n) = -1 := if_pos (by omega)
    rw [e]
    go_enter Try.func8, Try.ntmps8
    go_wp2
    go_ret
    exact ⟨rfl, rfl⟩
  · have hb : decide (l - n < 0) = false := by simpa using hc
    have e : (if l < (n : Int) then (-1 : Int) else l - n) = l - n := if_neg (by omega)
    rw [e]
    go_enter Try.func8, Try.ntmps8
    go_wp2
    go_ret
    exact ⟨rfl, rfl⟩
theorem toDemand_any (z : Dem) (w : World) :
    Calls Try.prog 61 #[demV z] w fun e w' => e = .returned (demV z) ∧ Below w.heap.size w w' := by
  unfold demV
  go_enter Try.func61, Try.ntmps61
  go_wp2
  exact bodyPost_ret (v := .agg #[.int .i64 z.a, .int .i64 z.b, .int .i64 z.r, .int .i64 z.c]) (by simp [results, Try.results61, go_sem]) rfl ⟨rfl, (((Below.refl _ _).alloc (Nat.le_refl _) _).alloc (by simp) _).alloc (by simp; omega) _⟩
theorem eqDemand_same (z : Dem) (w : World) :
    Calls Try.prog 67 #[demV z, demV z] w fun e w' => e = .returned (.bool true) ∧ Below w.heap.size w w' := by
  have n0 : (z.a != z.a) = false := by simp
  have n1 : (z.b != z.b) = false := by simp
  have n2 : (z.r != z.r) = false := by simp
  have n3 : (z.c != z.c) = false := by simp
  have HB := Lib.hid (((Below.refl w.heap.size w).alloc (Nat.le_refl _) (.cells #[.int .i64 z.a, .int .i64 z.b, .int .i64 z.r, .int .i64 z.c] 67)).alloc (by simp) (.cells #[.int .i64 z.a, .int .i64 z.b, .int .i64 z.r, .int .i64 z.c] 67))
  unfold demV
  go_enter Try.func67, Try.ntmps67
  go_wp2
  go_ret
  exact ⟨rfl, HB.out⟩
set_option maxHeartbeats 1600000 in
theorem toGrowth_any (z : Gro) (w : World) :
    Calls Try.prog 39 #[groV z] w fun e w' => e = .returned (groV z) ∧ Below w.heap.size w w' := by
  have HS := Lib.hid (fun w => toDemand_any (z.d) w)
  obtain ⟨W, hW⟩ : ∃ W, W = (((w.alloc (.cells #[.int .i64 z.d.a, .int .i64 z.d.b, .int .i64 z.d.r, .int .i64 z.d.c, .int .i64 z.s, .int .i64 z.e] 73)).alloc (.cells #[.int .i64 0, .int .i64 0, .int .i64 0, .int .i64 0, .int .i64 0, .int .i64 0] 69)).alloc (.cells #[.int .i64 0, .int .i64 0, .int .i64 0, .int .i64 0, .int .i64 0, .int .i64 0] 69)) := ⟨_, rfl⟩
  have h1 := (Below.refl w.heap.size w).alloc (Nat.le_refl _) (.cells #[.int .i64 z.d.a, .int .i64 z.d.b, .int .i64 z.d.r, .int .i64 z.d.c, .int .i64 z.s, .int .i64 z.e] 73)
  have h2 := h1.alloc h1.size (.cells #[.int .i64 0, .int .i64 0, .int .i64 0, .int .i64 0, .int .i64 0, .int .i64 0] 69)
  have h3 := h2.alloc h2.size (.cells #[.int .i64 0, .int .i64 0, .int .i64 0, .int .i64 0, .int .i64 0, .int .i64 0] 69)
  have k1 := heap_alloc_new w (.cells #[.int .i64 z.d.a, .int .i64 z.d.b, .int .i64 z.d.r, .int .i64 z.d.c, .int .i64 z.s, .int .i64 z.e] 73)
  have k2 := heap_alloc_new (w.alloc (.cells #[.int .i64 z.d.a, .int .i64 z.d.b, .int .i64 z.d.r, .int .i64 z.d.c, .int .i64 z.s, .int .i64 z.e] 73)) (.cells #[.int .i64 0, .int .i64 0, .int .i64 0, .int .i64 0, .int .i64 0, .int .i64 0] 69)
  have k3 := heap_alloc_new ((w.alloc (.cells #[.int .i64 z.d.a, .int .i64 z.d.b, .int .i64 z.d.r, .int .i64 z.d.c, .int .i64 z.s, .int .i64 z.e] 73)).alloc (.cells #[.int .i64 0, .int .i64 0, .int .i64 0, .int .i64 0, .int .i64 0, .int .i64 0] 69)) (.cells #[.int .i64 0, .int .i64 0, .int .i64 0, .int .i64 0, .int .i64 0, .int .i64 0] 69)
  have k1' := (heap_alloc_old _ (.cells #[.int .i64 0, .int .i64 0, .int .i64 0, .int .i64 0, .int .i64 0, .int .i64 0] 69) (Array.getElem?_eq_some_iff.1 ((heap_alloc_old _ (.cells #[.int .i64 0, .int .i64 0, .int .i64 0, .int .i64 0, .int .i64 0, .int .i64 0] 69) (Array.getElem?_eq_some_iff.1 k1).1).trans k1)).1).trans ((heap_alloc_old _ (.cells #[.int .i64 0, .int .i64 0, .int .i64 0, .int .i64 0, .int .i64 0, .int .i64 0] 69) (Array.getElem?_eq_some_iff.1 k1).1).trans k1)
  have k2' := (heap_alloc_old _ (.cells #[.int .i64 0, .int .i64 0, .int .i64 0, .int .i64 0, .int .i64 0, .int .i64 0] 69) (Array.getElem?_eq_some_iff.1 k2).1).trans k2
  rw [show (w.alloc (.cells #[.int .i64 z.d.a, .int .i64 z.d.b, .int .i64 z.d.r, .int .i64 z.d.c, .int .i64 z.s, .int .i64 z.e] 73)).heap.size = w.heap.size + 1 by simp] at k2'
  rw [show ((w.alloc (.cells #[.int .i64 z.d.a, .int .i64 z.d.b, .int .i64 z.d.r, .int .i64 z.d.c, .int .i64 z.s, .int .i64 z.e] 73)).alloc (.cells #[.int .i64 0, .int .i64 0, .int .i64 0, .int .i64 0, .int .i64 0, .int .i64 0] 69)).heap.size = w.heap.size + 1 + 1 by simp] at k3
  rw [← hW] at h3 k1' k2' k3
  have HW := Lib.hid hW
  have HB := Lib.hid h3
  have K1 := Lib.hid k1'
  have K2 := Lib.hid k2'
  have K3 := Lib.hid k3
  unfold groV
  unfold demV at HS
  clear h1 h2 h3 k1 k2 k3 k1' k2' hW
  go_enter Try.func39, Try.ntmps39
  go_wp2_with fail
  rw [← HW.out]
  refine (HS.out _).mono ?_
  rintro e w2 ⟨rfl, b2⟩
  have m1 := kept_o' K1.out b2
  have x4 := blkc m1 (j := 4) (u := .int .i64 z.s) rfl
  have x5 := blkc m1 (j := 5) (u := .int .i64 z.e) rfl
  have M1 := Lib.hid m1
  have M2 := Lib.hid (kept_o' K2.out b2)
  have M3 := Lib.hid (kept_o' K3.out b2)
  have HB2 := Lib.hid (HB.out.trans (b2.mono HB.out.size))
  clear b2 m1 HW
  go_wp2_with (first
    | ((show wpList _ _ _ (⟨none, .store 67 _ _, _, _, _, _⟩ :: _) _ _); refine wpList_stx rfl 67 _ _ rfl (w.heap.size + 1 + 1) 0 [.int .i64 z.d.a, .int .i64 z.d.b, .int .i64 z.d.r, .int .i64 z.d.c] rfl rfl M3.out (by simp) (by kernel_rfl) (by simp [Value.oneCell']) ?_; intro w3 hs; have n1 := hs.keep (by omega) M1.out; have N2 := Lib.hid (hs.keep (by omega) M2.out); have n3 := hs.blk; have HB3 := Lib.hid (hs.below w.heap.size w (by omega) HB2.out); clear hs x4 x5; have y4 := blkc n1 (j := 4) (u := .int .i64 z.s) rfl; have y5 := blkc n1 (j := 5) (u := .int .i64 z.e) rfl; have N1 := Lib.hid n1; have N3 := Lib.hid n3; clear n1 n3)
    | ((show wpList _ _ _ (⟨none, .store 3 (.tmp 10) _, _, _, _, _⟩ :: _) _ _); refine wpList_st1 rfl 3 _ _ rfl (w.heap.size + 1 + 1) 4 (.int .i64 z.s) rfl rfl N3.out (by simp [putA]) (by kernel_rfl) ⟨rfl, rfl⟩ ?_; intro w3 hs; have n1 := hs.keep (by omega) N1.out; have N2 := Lib.hid (hs.keep (by omega) N2.out); have n3 := hs.blk; have HB3 := Lib.hid (hs.below w.heap.size w (by omega) HB3.out); clear hs y4 y5; have y4 := blkc n1 (j := 4) (u := .int .i64 z.s) rfl; have y5 := blkc n1 (j := 5) (u := .int .i64 z.e) rfl; have N1 := Lib.hid n1; have N3 := Lib.hid n3; clear n1 n3)
    | ((show wpList _ _ _ (⟨none, .store 3 (.tmp 13) _, _, _, _, _⟩ :: _) _ _); refine wpList_st1 rfl 3 _ _ rfl (w.heap.size + 1 + 1) 5 (.int .i64 z.e) rfl rfl N3.out (by simp [putA]) (by kernel_rfl) ⟨rfl, rfl⟩ ?_; intro w3 hs; have n1 := hs.keep (by omega) N1.out; have N2 := Lib.hid (hs.keep (by omega) N2.out); have n3 := hs.blk; have HB3 := Lib.hid (hs.below w.heap.size w (by omega) HB3.out); clear hs y4 y5; have y4 := blkc n1 (j := 4) (u := .int .i64 z.s) rfl; have y5 := blkc n1 (j := 5) (u := .int .i64 z.e) rfl; have N1 := Lib.hid n1; have N3 := Lib.hid n3; clear n1 n3)
    | ((show wpList _ _ _ (⟨none, .store 69 _ _, _, _, _, _⟩ :: _) _ _); refine wpList_stx rfl 69 _ _ rfl (w.heap.size + 1) 0 [.int .i64 z.d.a, .int .i64 z.d.b, .int .i64 z.d.r, .int .i64 z.d.c, .int .i64 z.s, .int .i64 z.e] rfl rfl N2.out (by simp) (by kernel_rfl) (by simp [Value.oneCell']) ?_; intro w4 hs; have n2 := hs.blk; have HB4 := Lib.hid (hs.below w.heap.size w (by omega) HB3.out); clear hs; have r0 := blkc n2 (j := 0) (u := .int .i64 z.d.a) rfl; have r1 := blkc n2 (j := 1) (u := .int .i64 z.d.b) rfl; have r2 := blkc n2 (j := 2) (u := .int .i64 z.d.r) rfl; have r3 := blkc n2 (j := 3) (u := .int .i64 z.d.c) rfl; have r4 := blkc n2 (j := 4) (u := .int .i64 z.s) rfl; have r5 := blkc n2 (j := 5) (u := .int .i64 z.e) rfl)
    | ((show wpList _ _ _ (⟨some _, .load 69 _, _, _, _, _⟩ :: _) _ _); refine wpList_ldx rfl 69 _ rfl (w.heap.size + 1 + 1) 0 rfl [.int .i64 z.d.a, .int .i64 z.d.b, .int .i64 z.d.r, .int .i64 z.d.c, .int .i64 z.s, .int .i64 z.e] N3.out rfl _ (by exact Try.underlying69) rfl (by kernel_rfl) ?_))
  exact bodyPost_ret (v := .agg #[.int .i64 z.d.a, .int .i64 z.d.b, .int .i64 z.d.r, .int .i64 z.d.c, .int .i64 z.s, .int .i64 z.e]) (by simp [results, Try.results39, go_sem, r0, r1, r2, r3, r4, r5]) rfl ⟨rfl, HB4.out⟩
theorem eqGrowth_same (z : Gro) (w : World) :
    Calls Try.prog 47 #[groV z, groV z] w fun e w' => e = .returned (.bool true) ∧ Below w.heap.size w w' := by
  have n0 : (z.s != z.s) = false := by simp
  have n1 : (z.e != z.e) = false := by simp
  have HB := Lib.hid (((Below.refl w.heap.size w).alloc (Nat.le_refl _) (.cells #[.int .i64 z.d.a, .int .i64 z.d.b, .int .i64 z.d.r, .int .i64 z.d.c, .int .i64 z.s, .int .i64 z.e] 69)).alloc (by simp) (.cells #[.int .i64 z.d.a, .int .i64 z.d.b, .int .i64 z.d.r, .int .i64 z.d.c, .int .i64 z.s, .int .i64 z.e] 69))
  have HS := Lib.hid (fun w => eqDemand_same (z.d) w)
  unfold groV
  unfold demV at HS
  go_enter Try.func47, Try.ntmps47
  go_wp2_with fail
  refine (HS.out _).mono ?_
  rintro e w2 ⟨rfl, b2⟩
  obtain ⟨hc, hf⟩ := bcell b2
  have HB2 := Lib.hid (HB.out.trans (b2.mono HB.out.size))
  clear b2
  go_wp2
  go_ret
  exact ⟨rfl, HB2.out⟩
theorem Try.infoGrowth : (Try.prog.info? 69).map (fun i => (i.zero, i.size, i.bytes)) = some (some (.agg #[.int .i64 0, .int .i64 0, .int .i64 0, .int .i64 0, .int .i64 0, .int .i64 0]), 6, 48) := by kernel_rfl
set_option maxHeartbeats 1600000 in
theorem toGrowthS_any (v : Value) (zs : List Gro) (w : World) (h : Rwt w (flt 6 groE zs) v) (hr : zs.length ≤ 1048576) :
    Calls Try.prog 11 #[v] w fun e w' => ∃ v', e = .returned v' ∧ Ofr w' w.heap.size (flt 6 groE zs) v' ∧ Below w.heap.size w w' := by
  obtain ⟨i0, hi, hz0, hz1, hz2⟩ := info_parts Try.infoGrowth
  obtain ⟨a, n, cap, rfl, HN, hn, ha⟩ := flt_opnw (m := 6) (enc := groE) (fun _ => rfl) (by omega) nilG h
  have HA := Lib.hid ha
  have HL := Lib.hid (fun k hk => fillG_len nilG zs n k HN.out hk)
  have HST := Lib.hid (fun k hk => fillG_step nilG zs n k HN.out hk)
  have HAL := Lib.hid (fillG_all nilG zs n HN.out)
  rw [HN.out] at hr
  clear ha h
  go_enter Try.func11, Try.ntmps11
  go_wp2_with (refine wpList_make_full _ rfl _ _ 34 rfl w.heap.size 69 i0 (.agg #[.int .i64 0, .int .i64 0, .int .i64 0, .int .i64 0, .int .i64 0, .int .i64 0]) 6 Try.underlying34 hi hz0 hz1 _ _ _ _ n rfl rfl rfl rfl (by rw [hz2]; omega) (by unfold maxLen; omega) (Nat.le_refl _) ?_; intro w1 hown1 hgrow1)
  have HO1 := Lib.hid (show Ofr w1 w.heap.size (flt 6 groE (fillG nilG zs n 0)) (.slice (some ⟨w.heap.size, 0, none⟩) n n) from by
    rw [fillG_zero]
    exact made_flat (enc := groE) (fun _ => rfl) (by omega) nilG rfl hown1)
  have HB1 := Lib.hid (show Below w.heap.size w w1 from (Below.refl _ _).grown hgrow1 (Nat.le_refl _) (by simp))
  clear hown1 hgrow1
  go_loopw [4] (fun i wr => ∃ k : Nat, k ≤ n ∧ i = .int .i64 k ∧ Hid (Ofr wr w.heap.size (flt 6 groE (fillG nilG zs n k)) (.slice (some ⟨w.heap.size, 0, none⟩) n n)) ∧ Hid (Below w.heap.size w wr)) (fun i _ => n - (intOf i).toNat)
  case atStart => exact ⟨0, by omega, rfl, HO1.out, HB1.out⟩
  case round =>
    obtain ⟨k, hk, rfl, HO, HB⟩ := hrel
    by_cases hlt : k < n
    · obtain ⟨b, off, rfl, hbs, hcs⟩ := HA.out (by omega)
      have hltI : (k : Int) < (n : Int) := by omega
      have d0 := (HB.out.cell (p := ⟨b, off + k * 6 + 0, none⟩) hbs).trans (hcs k hlt 0 _ rfl)
      have d1 := (HB.out.cell (p := ⟨b, off + k * 6 + 1, none⟩) hbs).trans (hcs k hlt 1 _ rfl)
      have d2 := (HB.out.cell (p := ⟨b, off + k * 6 + 2, none⟩) hbs).trans (hcs k hlt 2 _ rfl)
      have d3 := (HB.out.cell (p := ⟨b, off + k * 6 + 3, none⟩) hbs).trans (hcs k hlt 3 _ rfl)
      have d4 := (HB.out.cell (p := ⟨b, off + k * 6 + 4, none⟩) hbs).trans (hcs k hlt 4 _ rfl)
      have d5 := (HB.out.cell (p := ⟨b, off + k * 6 + 5, none⟩) hbs).trans (hcs k hlt 5 _ rfl)
      simp only [Nat.add_zero] at d0
      have HS := Lib.hid (fun w => toGrowth_any (zs[k]?.getD nilG) w)
      have HSK := Lib.hid (HST.out k hlt)
      have HLK := Lib.hid (HL.out k (by omega))
      clear hcs HO1 HB1
      unfold groV at HS
      generalize zs[k]?.getD nilG = z at *
      go_wp2_with fail
      refine (HS.out _).mono ?_
      rintro e w2 ⟨rfl, b2⟩
      obtain ⟨g, o, cp, ev, hg1, hg2, hcc, hfz, hof⟩ := flt_put (enc := groE) (m := 6) (fun _ => rfl) (by omega) (HO.out.below b2) (Nat.le_trans HB.out.size b2.size) (k := k) (by rw [HLK.out]; exact hlt) z
      simp only [Value.slice.injEq, Option.some.injEq, Addr.mk.injEq, and_true] at ev
      obtain ⟨⟨rfl, rfl⟩, -, rfl⟩ := ev
      rw [HSK.out] at hof
      simp only [Nat.zero_add] at hcc hof
      obtain ⟨q0, c0⟩ := hcc 0 (by omega)
      obtain ⟨q1, c1⟩ := hcc 1 (by omega)
      obtain ⟨q2, c2⟩ := hcc 2 (by omega)
      obtain ⟨q3, c3⟩ := hcc 3 (by omega)
      obtain ⟨q4, c4⟩ := hcc 4 (by omega)
      obtain ⟨q5, c5⟩ := hcc 5 (by omega)
      simp only [Nat.add_zero] at c0
      have f0 := hfz (k * 6 + 0)
      have f1 := hfz (k * 6 + 1)
      have f2 := hfz (k * 6 + 2)
      have f3 := hfz (k * 6 + 3)
      have f4 := hfz (k * 6 + 4)
      have f5 := hfz (k * 6 + 5)
      simp only [Nat.add_zero] at f0
      have HB2 := Lib.hid (setRow_below (Nat.le_refl w.heap.size) (groE z) w2 (k * 6) (HB.out.trans (b2.mono HB.out.size)))
      simp only [setRow, groE, Nat.add_assoc, Nat.reduceAdd] at hof HB2
      have HOF := Lib.hid hof
      clear hof b2 hfz hcc
      go_wp2
      go_roundw
      case rel => exact ⟨k + 1, by omega, by go_num, HOF.out, HB2.out⟩
      case measure => simp [intOf]; omega
    · obtain rfl : k = n := by omega
      have hof := HO.out
      rw [HAL.out] at hof
      have HOF := Lib.hid hof
      go_wp2
      go_ret
      exact ⟨_, rfl, HOF.out, HB.out⟩
set_option maxHeartbeats 1600000 in
theorem eqGrowthS_same (va vb : Value) (zs : List Gro) (w : World) (ha : Rdt w (flt 6 groE zs) va) (hb : Rdt w (flt 6 groE zs) vb) :
    Calls Try.prog 14 #[va, vb] w fun e w' => e = .returned (.bool true) ∧ Below w.heap.size w w' := by
  obtain ⟨a, n, ca, rfl, HN, _, hn, HA⟩ := flt_opn (m := 6) (enc := groE) (fun _ => rfl) (by omega) nilG ha
  obtain ⟨b, n2, cb, rfl, HM, _, _, HBB⟩ := flt_opn (m := 6) (enc := groE) (fun _ => rfl) (by omega) nilG hb
  obtain rfl : n = n2 := HN.out.symm.trans HM.out
  have HA := Lib.hid HA
  have HBB := Lib.hid HBB
  clear HM ha hb
  have hne : ((n : Int) != (n : Int)) = false := by simp
  go_enter Try.func14, Try.ntmps14
  go_wp2
  go_loopw [5] (fun i wr => ∃ k : Nat, k ≤ n ∧ i = .int .i64 k ∧ Hid (Below w.heap.size w wr)) (fun i _ => n - (intOf i).toNat)
  case atStart => exact ⟨0, by omega, rfl, Below.refl _ _⟩
  case round =>
    obtain ⟨k, hk, rfl, HB⟩ := hrel
    by_cases hlt : k < n
    · obtain ⟨g1, o1, rfl, hg1, hc1⟩ := HA.out (by omega)
      obtain ⟨g2, o2, rfl, hg2, hc2⟩ := HBB.out (by omega)
      have hltI : (k : Int) < (n : Int) := by omega
      have x0 := rg ((HB.out.cell (p := ⟨g1, o1 + k * 6 + 0, none⟩) hg1).trans (hc1 k hlt 0 _ rfl))
      have y0 := rg ((HB.out.cell (p := ⟨g2, o2 + k * 6 + 0, none⟩) hg2).trans (hc2 k hlt 0 _ rfl))
      have x1 := rg ((HB.out.cell (p := ⟨g1, o1 + k * 6 + 1, none⟩) hg1).trans (hc1 k hlt 1 _ rfl))
      have y1 := rg ((HB.out.cell (p := ⟨g2, o2 + k * 6 + 1, none⟩) hg2).trans (hc2 k hlt 1 _ rfl))
      have x2 := rg ((HB.out.cell (p := ⟨g1, o1 + k * 6 + 2, none⟩) hg1).trans (hc1 k hlt 2 _ rfl))
      have y2 := rg ((HB.out.cell (p := ⟨g2, o2 + k * 6 + 2, none⟩) hg2).trans (hc2 k hlt 2 _ rfl))
      have x3 := rg ((HB.out.cell (p := ⟨g1, o1 + k * 6 + 3, none⟩) hg1).trans (hc1 k hlt 3 _ rfl))
      have y3 := rg ((HB.out.cell (p := ⟨g2, o2 + k * 6 + 3, none⟩) hg2).trans (hc2 k hlt 3 _ rfl))
      have x4 := rg ((HB.out.cell (p := ⟨g1, o1 + k * 6 + 4, none⟩) hg1).trans (hc1 k hlt 4 _ rfl))
      have y4 := rg ((HB.out.cell (p := ⟨g2, o2 + k * 6 + 4, none⟩) hg2).trans (hc2 k hlt 4 _ rfl))
      have x5 := rg ((HB.out.cell (p := ⟨g1, o1 + k * 6 + 5, none⟩) hg1).trans (hc1 k hlt 5 _ rfl))
      have y5 := rg ((HB.out.cell (p := ⟨g2, o2 + k * 6 + 5, none⟩) hg2).trans (hc2 k hlt 5 _ rfl))
      simp only [Nat.add_zero] at x0 y0
      have HQ := Lib.hid (fun w => eqGrowth_same (zs[k]?.getD nilG) w)
      unfold groV at HQ
      generalize zs[k]?.getD nilG = z at *
      clear hc1 hc2
      go_wp2
      refine wp_region_quiet_below (by kernel_rfl) (by kernel_rfl) ?_
      repeat (go_big_quiet_step (first | (go_at_call 47; exact Calls.regrown_of (HQ.out _))))
      refine wpQuiet_nil ?_
      rintro _ ⟨⟨dq, osq⟩, rfl⟩
      go_wp2
      go_roundw
      case rel => exact ⟨k + 1, by omega, by go_num, HB.out.trans ((below_regrown _ dq osq).mono HB.out.size)⟩
      case measure => simp [intOf]; omega
    · obtain rfl : k = n := by omega
      go_wp2
      go_ret
      exact ⟨rfl, HB.out⟩
set_option maxHeartbeats 3200000 in
theorem markGrowthS_any (v : Value) (zs : List Gro) (fp : List Nat) (q : Int) (w : World) (h : Odt w (flt 6 groE zs) v fp) (hn : fp.Nodup) (hb : zs.length ≤ 4194304) (hq : 0 ≤ q) (hq2 : q ≤ 1125899906842624) :
    Calls Try.prog 19 #[v, .int .i64 q] w fun e w' => e = .returned (.int .i64 (q + 6 * (zs.length : Int))) ∧ Odt w' (flt 6 groE ((List.range zs.length).map fun i : Nat => mkGro (q + 6 * (i : Int)))) v fp ∧ Wr w w' fp := by
  obtain ⟨a, n, cap, rfl, HN, _, hnl, -⟩ := flt_opn (m := 6) (enc := groE) (fun _ => rfl) (by omega) nilG h.rd
  obtain ⟨f, hf⟩ : ∃ f : Nat → Gro, f = fun i : Nat => mkGro (q + 6 * (i : Int)) := ⟨_, rfl⟩
  have HFE := Lib.hid (fun i => congrFun hf i)
  rw [← hf, HN.out]
  rw [HN.out] at hb
  clear hf
  have HST := Lib.hid (fun k (h : k < n) => mkG_step f zs k (by rw [HN.out]; exact h))
  have HLN := Lib.hid (fun k (h : k ≤ n) => (mkG_len f zs k (by rw [HN.out]; exact h)).trans HN.out)
  have HALL := Lib.hid (mkG_all f zs n HN.out)
  have HH := Lib.hid h
  clear h
  go_enter Try.func19, Try.ntmps19
  go_wp2
  go_loopw [1, 5] (fun x i wr => ∃ k : Nat, k ≤ n ∧ i = .int .i64 k ∧ x = .int .i64 (q + 6 * (k : Int)) ∧ Hid (Odt wr (flt 6 groE (mkG f zs k)) (.slice a n cap) fp) ∧ Hid (Wr w wr fp)) (fun _ i _ => n - (intOf i).toNat)
  case atStart => exact ⟨0, by omega, rfl, int_eq (by simp), by rw [mkG_zero]; exact HH.out, Wr.refl _ _⟩
  case round =>
    obtain ⟨k, hk, rfl, rfl, HO, HW⟩ := hrel
    by_cases hlt : k < n
    · have hltI : (k : Int) < (n : Int) := by omega
      obtain ⟨g, off, rfl, hcc, hfz, hset⟩ := flt_mark (enc := groE) (m := 6) (fun _ => rfl) (by omega) HO.out hn (k := k) (by rw [HLN.out k (by omega)]; exact hlt)
      obtain ⟨s1, s2⟩ := hset (f k)
      rw [HST.out k hlt] at s1
      have hfk := HFE.out k
      obtain ⟨p, hp⟩ : ∃ p : Int, p = q + 6 * (k : Int) := ⟨_, rfl⟩
      have hp1 : 0 ≤ p := by omega
      have hp2 : p ≤ 1125899940397056 := by omega
      rw [← hp] at hfk ⊢
      have HP := Lib.hid hp
      clear hp
      rw [hfk] at s1 s2
      simp only [setRow, groE, mkGro, Nat.add_assoc (off + k * 6), Nat.reduceAdd] at s1 s2
      have HS1 := Lib.hid s1
      have HS2 := Lib.hid (HW.out.trans s2)
      obtain ⟨q0, c0⟩ := hcc 0 (by omega)
      obtain ⟨q1, c1⟩ := hcc 1 (by omega)
      obtain ⟨q2, c2⟩ := hcc 2 (by omega)
      obtain ⟨q3, c3⟩ := hcc 3 (by omega)
      obtain ⟨q4, c4⟩ := hcc 4 (by omega)
      obtain ⟨q5, c5⟩ := hcc 5 (by omega)
      have f0 := hfz (off + k * 6 + 0)
      have f1 := hfz (off + k * 6 + 1)
      have f2 := hfz (off + k * 6 + 2)
      have f3 := hfz (off + k * 6 + 3)
      have f4 := hfz (off + k * 6 + 4)
      have f5 := hfz (off + k * 6 + 5)
      simp only [Nat.add_zero] at c0 f0
      clear s1 s2 hset hcc hfz hfk
      go_wp2
      go_roundw
      case rel => exact ⟨k + 1, by omega, by go_num, int_eq (by rw [HP.out]; omega), HS1.out, HS2.out⟩
      case measure => simp [intOf]; omega
    · obtain rfl : k = n := by omega
      have ho := HO.out
      rw [HALL.out] at ho
      have HOF := Lib.hid ho
      clear HO ho
      go_wp2
      go_ret
      exact ⟨rfl, HOF.out, HW.out⟩
set_option maxHeartbeats 3200000 in
theorem heldGrowthS_yes (v : Value) (n : Nat) (q : Int) (w : World) (h : Rdt w (flt 6 groE ((List.range n).map fun i : Nat => mkGro (q + 6 * (i : Int)))) v) (hb : n ≤ 4194304) (hq : 0 ≤ q) (hq2 : q ≤ 1125899906842624) :
    Calls Try.prog 24 #[v, .int .i64 q] w fun e w' => e = .returned (.int .i64 (q + 6 * (n : Int))) ∧ Below w.heap.size w w' := by
  obtain ⟨a, n2, cap, rfl, HN, _, hnl, ha⟩ := flt_opn (m := 6) (enc := groE) (fun _ => rfl) (by omega) nilG h
  obtain rfl : n = n2 := by have := HN.out; simpa using this
  have HG := Lib.hid (fun k hk => rangeMap_get (fun i : Nat => mkGro (q + 6 * (i : Int))) nilG n k hk)
  have HA := Lib.hid ha
  clear ha h HN
  go_enter Try.func24, Try.ntmps24
  go_wp2
  go_loopw [1, 5] (fun x i wr => ∃ k : Nat, k ≤ n ∧ i = .int .i64 k ∧ x = .int .i64 (q + 6 * (k : Int)) ∧ Hid (Below w.heap.size w wr)) (fun _ i _ => n - (intOf i).toNat)
  case atStart => exact ⟨0, by omega, rfl, int_eq (by simp), Below.refl _ _⟩
  case round =>
    obtain ⟨k, hk, rfl, rfl, HB⟩ := hrel
    by_cases hlt : k < n
    · have hltI : (k : Int) < (n : Int) := by omega
      obtain ⟨g, off, rfl, hg, hcs⟩ := HA.out (by omega)
      have hc := fun r u hu => (HB.out.cell (p := ⟨g, off + k * 6 + r, none⟩) hg).trans (hcs k hlt r u hu)
      rw [HG.out k hlt] at hc
      obtain ⟨p, hp⟩ : ∃ p : Int, p = q + 6 * (k : Int) := ⟨_, rfl⟩
      have hp1 : 0 ≤ p := by omega
      have hp2 : p ≤ 1125899940397056 := by omega
      rw [← hp] at hc ⊢
      have HP := Lib.hid hp
      clear hp
      have d0 := hc 0 _ rfl
      have d1 := hc 1 _ rfl
      have d2 := hc 2 _ rfl
      have d3 := hc 3 _ rfl
      have d4 := hc 4 _ rfl
      have d5 := hc 5 _ rfl
      simp only [Nat.add_zero, mkGro] at d0 d1 d2 d3 d4 d5
      have n0 : (p != p) = false := by simp
      have n1 : ((p + 1 : Int) != p + 1) = false := by simp
      have n2 : ((p + 1 + 1 : Int) != p + 1 + 1) = false := by simp
      have n3 : ((p + 1 + 1 + 1 : Int) != p + 1 + 1 + 1) = false := by simp
      have n4 : ((p + 1 + 1 + 1 + 1 : Int) != p + 1 + 1 + 1 + 1) = false := by simp
      have n5 : ((p + 1 + 1 + 1 + 1 + 1 : Int) != p + 1 + 1 + 1 + 1 + 1) = false := by simp
      clear hc hcs
      go_wp2
      go_roundw
      case rel => exact ⟨k + 1, by omega, by go_num, int_eq (by rw [HP.out]; omega), HB.out⟩
      case measure => simp [intOf]; omega
    · obtain rfl : k = n := by omega
      go_wp2
      go_ret
      exact ⟨rfl, HB.out⟩
theorem szGrowthS_Q (v : Value) (zs : List Gro) (l : Int) (w : World) (h : Rwt w (flt 6 groE zs) v) (h0 : 0 ≤ l) (h1 : l ≤ 1048576) : Calls Try.prog 8 #[v, .int .i64 l] w (SzQ zs.length l w) := by
  refine (szGrowthS_any v zs l w h h0 h1).mono ?_
  rintro e w' ⟨rfl, rfl⟩
  by_cases hx : l < (zs.length : Int)
  · rw [if_pos hx]; exact ⟨_, rfl, Below.refl _ _, .inl ⟨rfl, hx⟩⟩
  · rw [if_neg hx]; exact ⟨_, rfl, Below.refl _ _, .inr ⟨rfl, by omega⟩⟩
theorem toGrowthS_P (v : Value) (zs : List Gro) (w : World) (h : Rwt w (flt 6 groE zs) v) (hr : zs.length ≤ 1048576) : Calls Try.prog 11 #[v] w (ToP (fun w' v' fp => Odt w' (flt 6 groE zs) v' fp) w) := by
  refine (toGrowthS_any v zs w h hr).mono ?_
  rintro e w' ⟨v', rfl, ⟨fp, h1, h2, h3⟩, hb⟩
  exact ⟨v', fp, rfl, h1, h2, h3, hb⟩
theorem markGrowthS_N (v : Value) (zs : List Gro) (fp : List Nat) (q : Nat) (w : World) (h : Odt w (flt 6 groE zs) v fp) (hn : fp.Nodup) (hb : zs.length ≤ 1048576) (hq : 0 < q) (hq2 : q ≤ 1099511627776) :
    Calls Try.prog 19 #[v, .int .i64 (q : Int)] w fun e w' => e = .returned (.int .i64 ((q + 6 * zs.length : Nat) : Int)) ∧ Odt w' (flt 6 groE ((List.range zs.length).map fun i : Nat => mkGro ((q : Int) + 6 * (i : Int)))) v fp ∧ Wr w w' fp := by
  refine (markGrowthS_any v zs fp q w h hn (by omega) (by omega) (by omega)).mono ?_
  rintro e w' ⟨rfl, h1, h2⟩
  exact ⟨ret_int (by omega), h1, h2⟩
theorem heldGrowthS_N (v : Value) (n q : Nat) (w : World) (h : Rdt w (flt 6 groE ((List.range n).map fun i : Nat => mkGro ((q : Int) + 6 * (i : Int)))) v) (hb : n ≤ 1048576) (hq : 0 < q) (hq2 : q ≤ 1099511627776) :
    Calls Try.prog 24 #[v, .int .i64 (q : Int)] w fun e w' => e = .returned (.int .i64 ((q + 6 * n : Nat) : Int)) ∧ Below w.heap.size w w' := by
  refine (heldGrowthS_yes v n q w h (by omega) (by omega) (by omega)).mono ?_
  rintro e w' ⟨rfl, hb⟩
  exact ⟨ret_int (by omega), hb⟩
end Go.Proofs.Ytphhenlokbodnaa
