/- Walks: the laws' functions on fibers. (Printed by genflat.py.) -/
import Derived.Test.YtphhenlokbodnaaNetS
import Derived.Test.YtphhenlokbodnaaFlu
namespace Go.Proofs.Ytphhenlokbodnaa
open Go.RowKit Go.Sort
set_option maxRecDepth 100000

def mkFib (q : Int) : Fib := ⟨q, q + 1, q + 1 + 1, q + 1 + 1 + 1⟩
theorem szFiberS_any (v : Value) (zs : List Fib) (l : Int) (w : World) (h : Rwt w (flt 4 fibE zs) v) (h0 : 0 ≤ l) (h1 : l ≤ 1048576) :
    Calls Try.prog 35 #[v, .int .i64 l] w fun e w' => e = .returned (.int .i64 (if l < zs.length then -1 else l - zs.length)) ∧ w = w' := by
  obtain ⟨a, n, cap, rfl, HN, hla, _⟩ := flt_opnw (m := 4) (enc := fibE) (fun _ => rfl) (by omega) nilB h
  rw [HN.out]
  clear h
  by_cases hc : l - n < 0
  · have hb : decide (l - n < 0) = true := by simpa using hc
    have e : (if l < (n : Int) then (-1 : Int) else l - n) = -1 := if_pos (by omega)
    rw [e]
    go_enter Try.func35, Try.ntmps35
    go_wp2
    go_ret
    exact ⟨rfl, rfl⟩
  · have hb : decide (l - n < 0) = false := by simpa using hc
    have e : (if l < (n : Int) then (-1 : Int) else l - n) = l - n := if_neg (by omega)
    rw [e]
    go_enter Try.func35, Try.ntmps35
    go_wp2
    go_ret
    exact ⟨rfl, rfl⟩
theorem toFiber_any (z : Fib) (w : World) :
    Calls Try.prog 60 #[fibV z] w fun e w' => e = .returned (fibV z) ∧ Below w.heap.size w w' := by
  unfold fibV
  go_enter Try.func60, Try.ntmps60
  go_wp2
  exact bodyPost_ret (v := .agg #[.int .i64 z.a, .int .i64 z.b, .int .i64 z.l, .int .i64 z.r]) (by simp [results, Try.results60, go_sem]) rfl ⟨rfl, (((Below.refl _ _).alloc (Nat.le_refl _) _).alloc (by simp) _).alloc (by simp; omega) _⟩
theorem eqFiber_same (z : Fib) (w : World) :
    Calls Try.prog 66 #[fibV z, fibV z] w fun e w' => e = .returned (.bool true) ∧ Below w.heap.size w w' := by
  have n0 : (z.a != z.a) = false := by simp
  have n1 : (z.b != z.b) = false := by simp
  have n2 : (z.l != z.l) = false := by simp
  have n3 : (z.r != z.r) = false := by simp
  have HB := Lib.hid (((Below.refl w.heap.size w).alloc (Nat.le_refl _) (.cells #[.int .i64 z.a, .int .i64 z.b, .int .i64 z.l, .int .i64 z.r] 94)).alloc (by simp) (.cells #[.int .i64 z.a, .int .i64 z.b, .int .i64 z.l, .int .i64 z.r] 94))
  unfold fibV
  go_enter Try.func66, Try.ntmps66
  go_wp2
  go_ret
  exact ⟨rfl, HB.out⟩
theorem Try.infoFiber : (Try.prog.info? 94).map (fun i => (i.zero, i.size, i.bytes)) = some (some (.agg #[.int .i64 0, .int .i64 0, .int .i64 0, .int .i64 0]), 4, 32) := by kernel_rfl
set_option maxHeartbeats 1600000 in
theorem toFiberS_any (v : Value) (zs : List Fib) (w : World) (h : Rwt w (flt 4 fibE zs) v) (hr : zs.length ≤ 1048576) :
    Calls Try.prog 38 #[v] w fun e w' => ∃ v', e = .returned v' ∧ Ofr w' w.heap.size (flt 4 fibE zs) v' ∧ Below w.heap.size w w' := by
  obtain ⟨i0, hi, hz0, hz1, hz2⟩ := info_parts Try.infoFiber
  obtain ⟨a, n, cap, rfl, HN, hn, ha⟩ := flt_opnw (m := 4) (enc := fibE) (fun _ => rfl) (by omega) nilB h
  have HA := Lib.hid ha
  have HL := Lib.hid (fun k hk => fillG_len nilB zs n k HN.out hk)
  have HST := Lib.hid (fun k hk => fillG_step nilB zs n k HN.out hk)
  have HAL := Lib.hid (fillG_all nilB zs n HN.out)
  rw [HN.out] at hr
  clear ha h
  go_enter Try.func38, Try.ntmps38
  go_wp2_with (refine wpList_make_full _ rfl _ _ 30 rfl w.heap.size 94 i0 (.agg #[.int .i64 0, .int .i64 0, .int .i64 0, .int .i64 0]) 4 Try.underlying30 hi hz0 hz1 _ _ _ _ n rfl rfl rfl rfl (by rw [hz2]; omega) (by unfold maxLen; omega) (Nat.le_refl _) ?_; intro w1 hown1 hgrow1)
  have HO1 := Lib.hid (show Ofr w1 w.heap.size (flt 4 fibE (fillG nilB zs n 0)) (.slice (some ⟨w.heap.size, 0, none⟩) n n) from by
    rw [fillG_zero]
    exact made_flat (enc := fibE) (fun _ => rfl) (by omega) nilB rfl hown1)
  have HB1 := Lib.hid (show Below w.heap.size w w1 from (Below.refl _ _).grown hgrow1 (Nat.le_refl _) (by simp))
  clear hown1 hgrow1
  go_loopw [4] (fun i wr => ∃ k : Nat, k ≤ n ∧ i = .int .i64 k ∧ Hid (Ofr wr w.heap.size (flt 4 fibE (fillG nilB zs n k)) (.slice (some ⟨w.heap.size, 0, none⟩) n n)) ∧ Hid (Below w.heap.size w wr)) (fun i _ => n - (intOf i).toNat)
  case atStart => exact ⟨0, by omega, rfl, HO1.out, HB1.out⟩
  case round =>
    obtain ⟨k, hk, rfl, HO, HB⟩ := hrel
    by_cases hlt : k < n
    · obtain ⟨b, off, rfl, hbs, hcs⟩ := HA.out (by omega)
      have hltI : (k : Int) < (n : Int) := by omega
      have d0 := (HB.out.cell (p := ⟨b, off + k * 4 + 0, none⟩) hbs).trans (hcs k hlt 0 _ rfl)
      have d1 := (HB.out.cell (p := ⟨b, off + k * 4 + 1, none⟩) hbs).trans (hcs k hlt 1 _ rfl)
      have d2 := (HB.out.cell (p := ⟨b, off + k * 4 + 2, none⟩) hbs).trans (hcs k hlt 2 _ rfl)
      have d3 := (HB.out.cell (p := ⟨b, off + k * 4 + 3, none⟩) hbs).trans (hcs k hlt 3 _ rfl)
      simp only [Nat.add_zero] at d0
      have HS := Lib.hid (fun w => toFiber_any (zs[k]?.getD nilB) w)
      have HSK := Lib.hid (HST.out k hlt)
      have HLK := Lib.hid (HL.out k (by omega))
      clear hcs HO1 HB1
      unfold fibV at HS
      generalize zs[k]?.getD nilB = z at *
      go_wp2_with fail
      refine (HS.out _).mono ?_
      rintro e w2 ⟨rfl, b2⟩
      obtain ⟨g, o, cp, ev, hg1, hg2, hcc, hfz, hof⟩ := flt_put (enc := fibE) (m := 4) (fun _ => rfl) (by omega) (HO.out.below b2) (Nat.le_trans HB.out.size b2.size) (k := k) (by rw [HLK.out]; exact hlt) z
      simp only [Value.slice.injEq, Option.some.injEq, Addr.mk.injEq, and_true] at ev
      obtain ⟨⟨rfl, rfl⟩, -, rfl⟩ := ev
      rw [HSK.out] at hof
      simp only [Nat.zero_add] at hcc hof
      obtain ⟨q0, c0⟩ := hcc 0 (by omega)
      obtain ⟨q1, c1⟩ := hcc 1 (by omega)
      obtain ⟨q2, c2⟩ := hcc 2 (by omega)
      obtain ⟨q3, c3⟩ := hcc 3 (by omega)
      simp only [Nat.add_zero] at c0
      have f0 := hfz (k * 4 + 0)
      have f1 := hfz (k * 4 + 1)
      have f2 := hfz (k * 4 + 2)
      have f3 := hfz (k * 4 + 3)
      simp only [Nat.add_zero] at f0
      have HB2 := Lib.hid (setRow_below (Nat.le_refl w.heap.size) (fibE z) w2 (k * 4) (HB.out.trans (b2.mono HB.out.size)))
      simp only [setRow, fibE, Nat.add_assoc, Nat.reduceAdd] at hof HB2
      have HOF := Lib.hid hof
      clear hof b2 hfz hcc
      go_wp2
      go_roundw
      case rel => exact ⟨k + 1, by omega, by go_num, HOF.out, HB2.out⟩
      case measure => simp [intOf]; omega
    · obtain rfl : k = n := by omega
      have hof := HO.out
      rw [HAL.out] at hof
      have HOF := Lib.hid hof
      go_wp2
      go_ret
      exact ⟨_, rfl, HOF.out, HB.out⟩
set_option maxHeartbeats 1600000 in
theorem eqFiberS_same (va vb : Value) (zs : List Fib) (w : World) (ha : Rdt w (flt 4 fibE zs) va) (hb : Rdt w (flt 4 fibE zs) vb) :
    Calls Try.prog 46 #[va, vb] w fun e w' => e = .returned (.bool true) ∧ Below w.heap.size w w' := by
  obtain ⟨a, n, ca, rfl, HN, _, hn, HA⟩ := flt_opn (m := 4) (enc := fibE) (fun _ => rfl) (by omega) nilB ha
  obtain ⟨b, n2, cb, rfl, HM, _, _, HBB⟩ := flt_opn (m := 4) (enc := fibE) (fun _ => rfl) (by omega) nilB hb
  obtain rfl : n = n2 := HN.out.symm.trans HM.out
  have HA := Lib.hid HA
  have HBB := Lib.hid HBB
  clear HM ha hb
  have hne : ((n : Int) != (n : Int)) = false := by simp
  go_enter Try.func46, Try.ntmps46
  go_wp2
  go_loopw [5] (fun i wr => ∃ k : Nat, k ≤ n ∧ i = .int .i64 k ∧ Hid (Below w.heap.size w wr)) (fun i _ => n - (intOf i).toNat)
  case atStart => exact ⟨0, by omega, rfl, Below.refl _ _⟩
  case round =>
    obtain ⟨k, hk, rfl, HB⟩ := hrel
    by_cases hlt : k < n
    · obtain ⟨g1, o1, rfl, hg1, hc1⟩ := HA.out (by omega)
      obtain ⟨g2, o2, rfl, hg2, hc2⟩ := HBB.out (by omega)
      have hltI : (k : Int) < (n : Int) := by omega
      have x0 := rg ((HB.out.cell (p := ⟨g1, o1 + k * 4 + 0, none⟩) hg1).trans (hc1 k hlt 0 _ rfl))
      have y0 := rg ((HB.out.cell (p := ⟨g2, o2 + k * 4 + 0, none⟩) hg2).trans (hc2 k hlt 0 _ rfl))
      have x1 := rg ((HB.out.cell (p := ⟨g1, o1 + k * 4 + 1, none⟩) hg1).trans (hc1 k hlt 1 _ rfl))
      have y1 := rg ((HB.out.cell (p := ⟨g2, o2 + k * 4 + 1, none⟩) hg2).trans (hc2 k hlt 1 _ rfl))
      have x2 := rg ((HB.out.cell (p := ⟨g1, o1 + k * 4 + 2, none⟩) hg1).trans (hc1 k hlt 2 _ rfl))
      have y2 := rg ((HB.out.cell (p := ⟨g2, o2 + k * 4 + 2, none⟩) hg2).trans (hc2 k hlt 2 _ rfl))
      have x3 := rg ((HB.out.cell (p := ⟨g1, o1 + k * 4 + 3, none⟩) hg1).trans (hc1 k hlt 3 _ rfl))
      have y3 := rg ((HB.out.cell (p := ⟨g2, o2 + k * 4 + 3, none⟩) hg2).trans (hc2 k hlt 3 _ rfl))
      simp only [Nat.add_zero] at x0 y0
      have HQ := Lib.hid (fun w => eqFiber_same (zs[k]?.getD nilB) w)
      unfold fibV at HQ
      generalize zs[k]?.getD nilB = z at *
      clear hc1 hc2
      go_wp2
      refine wp_region_quiet_below (by kernel_rfl) (by kernel_rfl) ?_
      repeat (go_big_quiet_step (first | (go_at_call 66; exact Calls.regrown_of (HQ.out _))))
      refine wpQuiet_nil ?_
      rintro _ ⟨⟨dq, osq⟩, rfl⟩
      go_wp2
      go_roundw
      case rel => exact ⟨k + 1, by omega, by go_num, HB.out.trans ((below_regrown _ dq osq).mono HB.out.size)⟩
      case measure => simp [intOf]; omega
    · obtain rfl : k = n := by omega
      go_wp2
      go_ret
      exact ⟨rfl, HB.out⟩
set_option maxHeartbeats 3200000 in
theorem markFiberS_any (v : Value) (zs : List Fib) (fp : List Nat) (q : Int) (w : World) (h : Odt w (flt 4 fibE zs) v fp) (hn : fp.Nodup) (hb : zs.length ≤ 4194304) (hq : 0 ≤ q) (hq2 : q ≤ 1125899906842624) :
    Calls Try.prog 51 #[v, .int .i64 q] w fun e w' => e = .returned (.int .i64 (q + 4 * (zs.length : Int))) ∧ Odt w' (flt 4 fibE ((List.range zs.length).map fun i : Nat => mkFib (q + 4 * (i : Int)))) v fp ∧ Wr w w' fp := by
  obtain ⟨a, n, cap, rfl, HN, _, hnl, -⟩ := flt_opn (m := 4) (enc := fibE) (fun _ => rfl) (by omega) nilB h.rd
  obtain ⟨f, hf⟩ : ∃ f : Nat → Fib, f = fun i : Nat => mkFib (q + 4 * (i : Int)) := ⟨_, rfl⟩
  have HFE := Lib.hid (fun i => congrFun hf i)
  rw [← hf, HN.out]
  rw [HN.out] at hb
  clear hf
  have HST := Lib.hid (fun k (h : k < n) => mkG_step f zs k (by rw [HN.out]; exact h))
  have HLN := Lib.hid (fun k (h : k ≤ n) => (mkG_len f zs k (by rw [HN.out]; exact h)).trans HN.out)
  have HALL := Lib.hid (mkG_all f zs n HN.out)
  have HH := Lib.hid h
  clear h
  go_enter Try.func51, Try.ntmps51
  go_wp2
  go_loopw [1, 5] (fun x i wr => ∃ k : Nat, k ≤ n ∧ i = .int .i64 k ∧ x = .int .i64 (q + 4 * (k : Int)) ∧ Hid (Odt wr (flt 4 fibE (mkG f zs k)) (.slice a n cap) fp) ∧ Hid (Wr w wr fp)) (fun _ i _ => n - (intOf i).toNat)
  case atStart => exact ⟨0, by omega, rfl, int_eq (by simp), by rw [mkG_zero]; exact HH.out, Wr.refl _ _⟩
  case round =>
    obtain ⟨k, hk, rfl, rfl, HO, HW⟩ := hrel
    by_cases hlt : k < n
    · have hltI : (k : Int) < (n : Int) := by omega
      obtain ⟨g, off, rfl, hcc, hfz, hset⟩ := flt_mark (enc := fibE) (m := 4) (fun _ => rfl) (by omega) HO.out hn (k := k) (by rw [HLN.out k (by omega)]; exact hlt)
      obtain ⟨s1, s2⟩ := hset (f k)
      rw [HST.out k hlt] at s1
      have hfk := HFE.out k
      obtain ⟨p, hp⟩ : ∃ p : Int, p = q + 4 * (k : Int) := ⟨_, rfl⟩
      have hp1 : 0 ≤ p := by omega
      have hp2 : p ≤ 1125899940397056 := by omega
      rw [← hp] at hfk ⊢
      have HP := Lib.hid hp
      clear hp
      rw [hfk] at s1 s2
      simp only [setRow, fibE, mkFib, Nat.add_assoc (off + k * 4), Nat.reduceAdd] at s1 s2
      have HS1 := Lib.hid s1
      have HS2 := Lib.hid (HW.out.trans s2)
      obtain ⟨q0, c0⟩ := hcc 0 (by omega)
      obtain ⟨q1, c1⟩ := hcc 1 (by omega)
      obtain ⟨q2, c2⟩ := hcc 2 (by omega)
      obtain ⟨q3, c3⟩ := hcc 3 (by omega)
      have f0 := hfz (off + k * 4 + 0)
      have f1 := hfz (off + k * 4 + 1)
      have f2 := hfz (off + k * 4 + 2)
      have f3 := hfz (off + k * 4 + 3)
      simp only [Nat.add_zero] at c0 f0
      clear s1 s2 hset hcc hfz hfk
      go_wp2
      go_roundw
      case rel => exact ⟨k + 1, by omega, by go_num, int_eq (by rw [HP.out]; omega), HS1.out, HS2.out⟩
      case measure => simp [intOf]; omega
    · obtain rfl : k = n := by omega
      have ho := HO.out
      rw [HALL.out] at ho
      have HOF := Lib.hid ho
      clear HO ho
      go_wp2
      go_ret
      exact ⟨rfl, HOF.out, HW.out⟩
end Go.Proofs.Ytphhenlokbodnaa
