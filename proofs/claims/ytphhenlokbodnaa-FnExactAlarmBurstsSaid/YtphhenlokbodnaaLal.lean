/- Walks: the laws' functions on alarms. (Printed by genlal.py.) -/
import Derived.Test.YtphhenlokbodnaaLnw
namespace Go.Proofs.Ytphhenlokbodnaa
open Go.RowKit Go.Sort
set_option maxRecDepth 100000

structure Alm where
  t : Int
  l : Int
def nilA : Alm := ⟨0, 0⟩
def almE (z : Alm) : List Value := [.int .i64 z.t, .int .i64 z.l]
def almV (z : Alm) : Value := .agg #[.int .i64 z.t, .int .i64 z.l]
def mkAlm (q : Int) : Alm := ⟨q, q + 1⟩
theorem szAlarmS_any (v : Value) (zs : List Alm) (l : Int) (w : World) (h : Rwt w (flt 2 almE zs) v) (h0 : 0 ≤ l) (h1 : l ≤ 1048576) :
    Calls Try.prog 25 #[v, .int .i64 l] w fun e w' => e = .returned (.int .i64 (if l < zs.length then -1 else l - zs.length)) ∧ w = w' := by
  obtain ⟨a, n, cap, rfl, HN, hla, _⟩ := flt_opnw (m := 2) (enc := almE) (fun _ => rfl) (by omega) nilA h
  rw [HN.out]
  clear h
  by_cases hc : l - n < 0
  · have hb : decide (l - n < 0) = true := by simpa using hc
    have e : (if l < (n : Int) then (-1 : Int) else l - n) = -1 := if_pos (by omega)
    rw [e]
    go_enter Try.func25, Try.ntmps25
    go_wp2
    go_ret
    exact ⟨rfl, rfl⟩
  · have hb : decide (l - n < 0) = false := by simpa using hc
    have e : (if l < (n : Int) then (-1 : Int) else l - n) = l - n := if_neg (by omega)
    rw [e]
    go_enter Try.func25, Try.ntmps25
    go_wp2
    go_ret
    exact ⟨rfl, rfl⟩
theorem toAlarm_any (z : Alm) (w : World) :
    Calls Try.prog 54 #[almV z] w fun e w' => e = .returned (almV z) ∧ Below w.heap.size w w' := by
  unfold almV
  go_enter Try.func54, Try.ntmps54
  go_wp2
  exact bodyPost_ret (v := .agg #[.int .i64 z.t, .int .i64 z.l]) (by simp [results, Try.results54, go_sem]) rfl ⟨rfl, (((Below.refl _ _).alloc (Nat.le_refl _) _).alloc (by simp) _).alloc (by simp; omega) _⟩
theorem eqAlarm_same (z : Alm) (w : World) :
    Calls Try.prog 57 #[almV z, almV z] w fun e w' => e = .returned (.bool true) ∧ Below w.heap.size w w' := by
  have n0 : (z.t != z.t) = false := by simp
  have n1 : (z.l != z.l) = false := by simp
  have HB := Lib.hid (((Below.refl w.heap.size w).alloc (Nat.le_refl _) (.cells #[.int .i64 z.t, .int .i64 z.l] 86)).alloc (by simp) (.cells #[.int .i64 z.t, .int .i64 z.l] 86))
  unfold almV
  go_enter Try.func57, Try.ntmps57
  go_wp2
  go_ret
  exact ⟨rfl, HB.out⟩
theorem Try.infoAlarm : (Try.prog.info? 86).map (fun i => (i.zero, i.size, i.bytes)) = some (some (.agg #[.int .i64 0, .int .i64 0]), 2, 16) := by kernel_rfl
set_option maxHeartbeats 1600000 in
theorem toAlarmS_any (v : Value) (zs : List Alm) (w : World) (h : Rwt w (flt 2 almE zs) v) (hr : zs.length ≤ 1048576) :
    Calls Try.prog 27 #[v] w fun e w' => ∃ v', e = .returned v' ∧ Ofr w' w.heap.size (flt 2 almE zs) v' ∧ Below w.heap.size w w' := by
  obtain ⟨i0, hi, hz0, hz1, hz2⟩ := info_parts Try.infoAlarm
  obtain ⟨a, n, cap, rfl, HN, hn, ha⟩ := flt_opnw (m := 2) (enc := almE) (fun _ => rfl) (by omega) nilA h
  have HA := Lib.hid ha
  have HL := Lib.hid (fun k hk => fillG_len nilA zs n k HN.out hk)
  have HST := Lib.hid (fun k hk => fillG_step nilA zs n k HN.out hk)
  have HAL := Lib.hid (fillG_all nilA zs n HN.out)
  rw [HN.out] at hr
  clear ha h
  go_enter Try.func27, Try.ntmps27
  go_wp2_with (refine wpList_make_full _ rfl _ _ 55 rfl w.heap.size 86 i0 (.agg #[.int .i64 0, .int .i64 0]) 2 Try.underlying55 hi hz0 hz1 _ _ _ _ n rfl rfl rfl rfl (by rw [hz2]; omega) (by unfold maxLen; omega) (Nat.le_refl _) ?_; intro w1 hown1 hgrow1)
  have HO1 := Lib.hid (show Ofr w1 w.heap.size (flt 2 almE (fillG nilA zs n 0)) (.slice (some ⟨w.heap.size, 0, none⟩) n n) from by
    rw [fillG_zero]
    exact made_flat (enc := almE) (fun _ => rfl) (by omega) nilA rfl hown1)
  have HB1 := Lib.hid (show Below w.heap.size w w1 from (Below.refl _ _).grown hgrow1 (Nat.le_refl _) (by simp))
  clear hown1 hgrow1
  go_loopw [4] (fun i wr => ∃ k : Nat, k ≤ n ∧ i = .int .i64 k ∧ Hid (Ofr wr w.heap.size (flt 2 almE (fillG nilA zs n k)) (.slice (some ⟨w.heap.size, 0, none⟩) n n)) ∧ Hid (Below w.heap.size w wr)) (fun i _ => n - (intOf i).toNat)
  case atStart => exact ⟨0, by omega, rfl, HO1.out, HB1.out⟩
  case round =>
    obtain ⟨k, hk, rfl, HO, HB⟩ := hrel
    by_cases hlt : k < n
    · obtain ⟨b, off, rfl, hbs, hcs⟩ := HA.out (by omega)
      have hltI : (k : Int) < (n : Int) := by omega
      have d0 := (HB.out.cell (p := ⟨b, off + k * 2 + 0, none⟩) hbs).trans (hcs k hlt 0 _ rfl)
      have d1 := (HB.out.cell (p := ⟨b, off + k * 2 + 1, none⟩) hbs).trans (hcs k hlt 1 _ rfl)
      simp only [Nat.add_zero] at d0
      have HS := Lib.hid (fun w => toAlarm_any (zs[k]?.getD nilA) w)
      have HSK := Lib.hid (HST.out k hlt)
      have HLK := Lib.hid (HL.out k (by omega))
      clear hcs HO1 HB1
      unfold almV at HS
      generalize zs[k]?.getD nilA = z at *
      go_wp2_with fail
      refine (HS.out _).mono ?_
      rintro e w2 ⟨rfl, b2⟩
      obtain ⟨g, o, cp, ev, hg1, hg2, hcc, hfz, hof⟩ := flt_put (enc := almE) (m := 2) (fun _ => rfl) (by omega) (HO.out.below b2) (Nat.le_trans HB.out.size b2.size) (k := k) (by rw [HLK.out]; exact hlt) z
      simp only [Value.slice.injEq, Option.some.injEq, Addr.mk.injEq, and_true] at ev
      obtain ⟨⟨rfl, rfl⟩, -, rfl⟩ := ev
      rw [HSK.out] at hof
      simp only [Nat.zero_add] at hcc hof
      obtain ⟨q0, c0⟩ := hcc 0 (by omega)
      obtain ⟨q1, c1⟩ := hcc 1 (by omega)
      simp only [Nat.add_zero] at c0
      have f0 := hfz (k * 2 + 0)
      have f1 := hfz (k * 2 + 1)
      simp only [Nat.add_zero] at f0
      have HB2 := Lib.hid (setRow_below (Nat.le_refl w.heap.size) (almE z) w2 (k * 2) (HB.out.trans (b2.mono HB.out.size)))
      simp only [setRow, almE, Nat.add_assoc, Nat.reduceAdd] at hof HB2
      have HOF := Lib.hid hof
      clear hof b2 hfz hcc
      go_wp2
      go_roundw
      case rel => exact ⟨k + 1, by omega, by go_num, HOF.out, HB2.out⟩
      case measure => simp [intOf]; omega
    · obtain rfl : k = n := by omega
      have hof := HO.out
      rw [HAL.out] at hof
      have HOF := Lib.hid hof
      go_wp2
      go_ret
      exact ⟨_, rfl, HOF.out, HB.out⟩
set_option maxHeartbeats 1600000 in
theorem eqAlarmS_same (va vb : Value) (zs : List Alm) (w : World) (ha : Rdt w (flt 2 almE zs) va) (hb : Rdt w (flt 2 almE zs) vb) :
    Calls Try.prog 30 #[va, vb] w fun e w' => e = .returned (.bool true) ∧ Below w.heap.size w w' := by
  obtain ⟨a, n, ca, rfl, HN, _, hn, HA⟩ := flt_opn (m := 2) (enc := almE) (fun _ => rfl) (by omega) nilA ha
  obtain ⟨b, n2, cb, rfl, HM, _, _, HBB⟩ := flt_opn (m := 2) (enc := almE) (fun _ => rfl) (by omega) nilA hb
  obtain rfl : n = n2 := HN.out.symm.trans HM.out
  have HA := Lib.hid HA
  have HBB := Lib.hid HBB
  clear HM ha hb
  have hne : ((n : Int) != (n : Int)) = false := by simp
  go_enter Try.func30, Try.ntmps30
  go_wp2
  go_loopw [5] (fun i wr => ∃ k : Nat, k ≤ n ∧ i = .int .i64 k ∧ Hid (Below w.heap.size w wr)) (fun i _ => n - (intOf i).toNat)
  case atStart => exact ⟨0, by omega, rfl, Below.refl _ _⟩
  case round =>
    obtain ⟨k, hk, rfl, HB⟩ := hrel
    by_cases hlt : k < n
    · obtain ⟨g1, o1, rfl, hg1, hc1⟩ := HA.out (by omega)
      obtain ⟨g2, o2, rfl, hg2, hc2⟩ := HBB.out (by omega)
      have hltI : (k : Int) < (n : Int) := by omega
      have x0 := rg ((HB.out.cell (p := ⟨g1, o1 + k * 2 + 0, none⟩) hg1).trans (hc1 k hlt 0 _ rfl))
      have y0 := rg ((HB.out.cell (p := ⟨g2, o2 + k * 2 + 0, none⟩) hg2).trans (hc2 k hlt 0 _ rfl))
      have x1 := rg ((HB.out.cell (p := ⟨g1, o1 + k * 2 + 1, none⟩) hg1).trans (hc1 k hlt 1 _ rfl))
      have y1 := rg ((HB.out.cell (p := ⟨g2, o2 + k * 2 + 1, none⟩) hg2).trans (hc2 k hlt 1 _ rfl))
      simp only [Nat.add_zero] at x0 y0
      have HQ := Lib.hid (fun w => eqAlarm_same (zs[k]?.getD nilA) w)
      unfold almV at HQ
      generalize zs[k]?.getD nilA = z at *
      clear hc1 hc2
      go_wp2
      refine wp_region_quiet_below (by kernel_rfl) (by kernel_rfl) ?_
      repeat (go_big_quiet_step (first | (go_at_call 57; exact Calls.regrown_of (HQ.out _))))
      refine wpQuiet_nil ?_
      rintro _ ⟨⟨dq, osq⟩, rfl⟩
      go_wp2
      go_roundw
      case rel => exact ⟨k + 1, by omega, by go_num, HB.out.trans ((below_regrown _ dq osq).mono HB.out.size)⟩
      case measure => simp [intOf]; omega
    · obtain rfl : k = n := by omega
      go_wp2
      go_ret
      exact ⟨rfl, HB.out⟩
set_option maxHeartbeats 3200000 in
theorem markAlarmS_any (v : Value) (zs : List Alm) (fp : List Nat) (q : Int) (w : World) (h : Odt w (flt 2 almE zs) v fp) (hn : fp.Nodup) (hb : zs.length ≤ 4194304) (hq : 0 ≤ q) (hq2 : q ≤ 1125899906842624) :
    Calls Try.prog 31 #[v, .int .i64 q] w fun e w' => e = .returned (.int .i64 (q + 2 * (zs.length : Int))) ∧ Odt w' (flt 2 almE ((List.range zs.length).map fun i : Nat => mkAlm (q + 2 * (i : Int)))) v fp ∧ Wr w w' fp := by
  obtain ⟨a, n, cap, rfl, HN, _, hnl, -⟩ := flt_opn (m := 2) (enc := almE) (fun _ => rfl) (by omega) nilA h.rd
  obtain ⟨f, hf⟩ : ∃ f : Nat → Alm, f = fun i : Nat => mkAlm (q + 2 * (i : Int)) := ⟨_, rfl⟩
  have HFE := Lib.hid (fun i => congrFun hf i)
  rw [← hf, HN.out]
  rw [HN.out] at hb
  clear hf
  have HST := Lib.hid (fun k (h : k < n) => mkG_step f zs k (by rw [HN.out]; exact h))
  have HLN := Lib.hid (fun k (h : k ≤ n) => (mkG_len f zs k (by rw [HN.out]; exact h)).trans HN.out)
  have HALL := Lib.hid (mkG_all f zs n HN.out)
  have HH := Lib.hid h
  clear h
  go_enter Try.func31, Try.ntmps31
  go_wp2
  go_loopw [1, 5] (fun x i wr => ∃ k : Nat, k ≤ n ∧ i = .int .i64 k ∧ x = .int .i64 (q + 2 * (k : Int)) ∧ Hid (Odt wr (flt 2 almE (mkG f zs k)) (.slice a n cap) fp) ∧ Hid (Wr w wr fp)) (fun _ i _ => n - (intOf i).toNat)
  case atStart => exact ⟨0, by omega, rfl, int_eq (by simp), by rw [mkG_zero]; exact HH.out, Wr.refl _ _⟩
  case round =>
    obtain ⟨k, hk, rfl, rfl, HO, HW⟩ := hrel
    by_cases hlt : k < n
    · have hltI : (k : Int) < (n : Int) := by omega
      obtain ⟨g, off, rfl, hcc, hfz, hset⟩ := flt_mark (enc := almE) (m := 2) (fun _ => rfl) (by omega) HO.out hn (k := k) (by rw [HLN.out k (by omega)]; exact hlt)
      obtain ⟨s1, s2⟩ := hset (f k)
      rw [HST.out k hlt] at s1
      have hfk := HFE.out k
      obtain ⟨p, hp⟩ : ∃ p : Int, p = q + 2 * (k : Int) := ⟨_, rfl⟩
      have hp1 : 0 ≤ p := by omega
      have hp2 : p ≤ 1125899940397056 := by omega
      rw [← hp] at hfk ⊢
      have HP := Lib.hid hp
      clear hp
      rw [hfk] at s1 s2
      simp only [setRow, almE, mkAlm, Nat.add_assoc (off + k * 2), Nat.reduceAdd] at s1 s2
      have HS1 := Lib.hid s1
      have HS2 := Lib.hid (HW.out.trans s2)
      obtain ⟨q0, c0⟩ := hcc 0 (by omega)
      obtain ⟨q1, c1⟩ := hcc 1 (by omega)
      have f0 := hfz (off + k * 2 + 0)
      have f1 := hfz (off + k * 2 + 1)
      simp only [Nat.add_zero] at c0 f0
      clear s1 s2 hset hcc hfz hfk
      go_wp2
      go_roundw
      case rel => exact ⟨k + 1, by omega, by go_num, int_eq (by rw [HP.out]; omega), HS1.out, HS2.out⟩
      case measure => simp [intOf]; omega
    · obtain rfl : k = n := by omega
      have ho := HO.out
      rw [HALL.out] at ho
      have HOF := Lib.hid ho
      clear HO ho
      go_wp2
      go_ret
      exact ⟨rfl, HOF.out, HW.out⟩
theorem szAlarmS_Q (v : Value) (zs : List Alm) (l : Int) (w : World) (h : Rwt w (flt 2 almE zs) v) (h0 : 0 ≤ l) (h1 : l ≤ 1048576) : Calls Try.prog 25 #[v, .int .i64 l] w (SzQ zs.length l w) := by
  refine (szAlarmS_any v zs l w h h0 h1).mono ?_
  rintro e w' ⟨rfl, rfl⟩
  by_cases hx : l < (zs.length : Int)
  · rw [if_pos hx]; exact ⟨_, rfl, Below.refl _ _, .inl ⟨rfl, hx⟩⟩
  · rw [if_neg hx]; exact ⟨_, rfl, Below.refl _ _, .inr ⟨rfl, by omega⟩⟩
theorem toAlarmS_P (v : Value) (zs : List Alm) (w : World) (h : Rwt w (flt 2 almE zs) v) (hr : zs.length ≤ 1048576) : Calls Try.prog 27 #[v] w (ToP (fun w' v' fp => Odt w' (flt 2 almE zs) v' fp) w) := by
  refine (toAlarmS_any v zs w h hr).mono ?_
  rintro e w' ⟨v', rfl, ⟨fp, h1, h2, h3⟩, hb⟩
  exact ⟨v', fp, rfl, h1, h2, h3, hb⟩
theorem markAlarmS_N (v : Value) (zs : List Alm) (fp : List Nat) (q : Nat) (w : World) (h : Odt w (flt 2 almE zs) v fp) (hn : fp.Nodup) (hb : zs.length ≤ 1048576) (hq : 0 < q) (hq2 : q ≤ 1099511627776) :
    Calls Try.prog 31 #[v, .int .i64 (q : Int)] w fun e w' => e = .returned (.int .i64 ((q + 2 * zs.length : Nat) : Int)) ∧ Odt w' (flt 2 almE ((List.range zs.length).map fun i : Nat => mkAlm ((q : Int) + 2 * (i : Int)))) v fp ∧ Wr w w' fp := by
  refine (markAlarmS_any v zs fp q w h hn (by omega) (by omega) (by omega)).mono ?_
  rintro e w' ⟨rfl, h1, h2⟩
  exact ⟨ret_int (by omega), h1, h2⟩
end Go.Proofs.Ytphhenlokbodnaa
