/- Walks: IsValidGrowth, the program's and the reference's. -/
import Derived.Test.YtphhenlokbodnaaGroF
namespace Go.Proofs.Ytphhenlokbodnaa
open Go.RowKit Go.Sort
set_option maxRecDepth 100000

theorem netOk_len {n : Net} (h : netOk n = true) : n.ns.length ≤ 8 := by have := netOk_yes h; omega
set_option maxHeartbeats 1600000 in
theorem implGrowths_any (v u : Value) (n : Net) (gs : List Gro) (w : World) (h : NetR w v n) (hg : Rdt w (flt 6 groE gs) u) :
    Calls Try.prog 12 #[v, u] w fun e w' => e = .returned (.bool (grsOk n gs)) ∧ Below w.heap.size w w' := by
  have HVN := Lib.hid (fun w' (hb : Below w.heap.size w w') => IsValidNetwork_any v n w' (h.behind hb))
  have HL := Lib.hid (@netOk_len n)
  obtain ⟨u1, u2, rfl, r1, r2, hsm⟩ := h
  obtain ⟨a1, m1, c1, rfl, HN1, hc1, hm1, -⟩ := flt_opn (m := 1) (enc := strE) (fun _ => rfl) (by omega) nilS r1
  obtain ⟨a2, m2, c2, rfl, HN2, hc2, hm2, -⟩ := flt_opn (m := 4) (enc := fibE) (fun _ => rfl) (by omega) nilB r2
  obtain ⟨a3, m3, c3, rfl, HN3, hc3, hm3, -⟩ := flt_opn (m := 6) (enc := groE) (fun _ => rfl) (by omega) nilG hg
  obtain ⟨bx, bc, blt, -⟩ := box_facts w #[.slice a1 m1 c1, .slice a2 m2 c2] 32
  have q0 := bc 0 _ rfl
  have q1 := bc 1 _ rfl
  have HBX := Lib.hid bx
  have HG := Lib.hid (hg.behind bx)
  have HF := Lib.hid (show grsOk n gs = (netOk n && decide (m3 ≤ 12) && !gs.any (fun g => !groOk m1 g)) by unfold grsOk; rw [HN1.out, HN3.out])
  rw [HN1.out] at HL
  generalize grsOk n gs = q at *
  clear r1 r2 hsm bc bx hg
  have HFN := Lib.hid (show IsFn 42 from isFn_of rfl rfl rfl)
  go_enter Try.func12, Try.ntmps12
  go_wp2_with fail
  generalize w.alloc (.cells #[.slice a1 m1 c1, .slice a2 m2 c2] 32) = w1 at *
  have HVN1 := Lib.hid (HVN.out w1 HBX.out)
  cases hok : netOk n
  · rw [hok] at HVN1 HF
    refine HVN1.out.mono ?_
    rintro e w2 ⟨rfl, b2⟩
    have HB2 := Lib.hid (HBX.out.trans (b2.mono HBX.out.size))
    clear b2
    go_wp2
    go_ret
    exact ⟨by rw [HF.out]; rfl, HB2.out⟩
  rw [hok] at HVN1 HF
  have hm := HL.out hok
  clear hok
  refine HVN1.out.mono ?_
  rintro e w2 ⟨rfl, b2⟩
  have HB2 := Lib.hid (HBX.out.trans (b2.mono HBX.out.size))
  have p0 := (b2.cell blt).trans q0
  have p1 := (b2.cell blt).trans q1
  have HG2 := Lib.hid (HG.out.behind b2)
  clear b2
  by_cases h12 : m3 ≤ 12
  case neg =>
    have hd : decide ((m3 : Int) ≤ 12) = false := decide_eq_false (by omega)
    have hd2 : decide (m3 ≤ 12) = false := decide_eq_false (by omega)
    clear h12
    go_wp2
    go_ret
    exact ⟨by rw [HF.out, hd2]; simp, HB2.out⟩
  have hd : decide ((m3 : Int) ≤ 12) = true := decide_eq_true (by omega)
  have hd2 : decide (m3 ≤ 12) = true := decide_eq_true (by omega)
  rw [hd2] at HF
  have HCF := Lib.hid (containsFuncGro_any _ gs 42 w.heap.size (fun g => !groOk m1 g) w2 HG2.out HFN.out (fun i w' _ hb z _ => growthBad_any z w.heap.size a1 a2 m1 c1 m2 c2 w' (by omega) ((hb.cell (World.block_lt_of_cell? _ _ p0)).trans p0) ((hb.cell (World.block_lt_of_cell? _ _ p1)).trans p1)))
  generalize gs.any (fun g => !groOk m1 g) = any at *
  clear h12
  go_wp2_with fail
  refine HCF.out.mono ?_
  rintro e w3 ⟨rfl, b3⟩
  have HB3 := Lib.hid (HB2.out.trans (b3.mono HB2.out.size))
  clear b3
  go_wp2
  go_ret
  exact ⟨by rw [HF.out]; rfl, HB3.out⟩
def grOkA (m : Nat) (gs : List Gro) (i : Nat) : Bool := groOk m (gs[i]?.getD nilG)
theorem grs_any_no {m : Nat} {gs : List Gro} {i : Nat} (hi : i < gs.length) (h : groOk m (gs[i]?.getD nilG) = false) : gs.any (fun g => !groOk m g) = true := by
  rw [List.any_eq_true]
  rw [List.getElem?_eq_getElem hi] at h
  exact ⟨gs[i], List.getElem_mem hi, by simpa using h⟩
set_option maxHeartbeats 3200000 in
theorem l26Good_any (v u : Value) (n : Net) (gs : List Gro) (w : World) (h : NetR w v n) (hg : Rdt w (flt 6 groE gs) u) :
    Calls Try.prog 36 #[v, u] w fun e w' => e = .returned (.bool (grsOk n gs)) ∧ Below w.heap.size w w' := by
  have HVN := Lib.hid (fun w' (hb : Below w.heap.size w w') => l2Good_any v n w' (h.behind hb))
  have HL := Lib.hid (@netOk_len n)
  obtain ⟨u1, u2, rfl, r1, r2, hsm⟩ := h
  obtain ⟨a1, m1, c1, rfl, HN1, hc1, hm1, -⟩ := flt_opn (m := 1) (enc := strE) (fun _ => rfl) (by omega) nilS r1
  obtain ⟨a2, m2, c2, rfl, HN2, hc2, hm2, -⟩ := flt_opn (m := 4) (enc := fibE) (fun _ => rfl) (by omega) nilB r2
  obtain ⟨a3, m3, c3, rfl, HN3, hc3, hm3, ha3⟩ := flt_opn (m := 6) (enc := groE) (fun _ => rfl) (by omega) nilG hg
  obtain ⟨bx, bc, blt, -⟩ := box_facts w #[.slice a1 m1 c1, .slice a2 m2 c2] 32
  have q0 := bc 0 _ rfl
  have q1 := bc 1 _ rfl
  have HBX := Lib.hid bx
  have HA := Lib.hid ha3
  have HF := Lib.hid (show grsOk n gs = (netOk n && decide (m3 ≤ 12) && !gs.any (fun g => !groOk m1 g)) by unfold grsOk; rw [HN1.out, HN3.out])
  have HNO := Lib.hid (fun i hi h => @grs_any_no m1 gs i hi h)
  have HMO := Lib.hid (fun k hk h e => anyG_more (zs := gs) (p := fun g => !groOk m1 g) (nil := nilG) (k := k) hk h e)
  rw [HN1.out] at HL
  generalize grsOk n gs = q at *
  clear r1 r2 hsm bc bx hg ha3
  go_enter Try.func36, Try.ntmps36
  go_wp2_with fail
  generalize w.alloc (.cells #[.slice a1 m1 c1, .slice a2 m2 c2] 32) = w1 at *
  have HVN1 := Lib.hid (HVN.out w1 HBX.out)
  cases hok : netOk n
  · rw [hok] at HVN1 HF
    refine HVN1.out.mono ?_
    rintro e w2 ⟨rfl, b2⟩
    have HB2 := Lib.hid (HBX.out.trans (b2.mono HBX.out.size))
    clear b2
    go_wp2
    go_ret
    exact ⟨by rw [HF.out]; rfl, HB2.out⟩
  rw [hok] at HVN1 HF
  have hm := HL.out hok
  clear hok
  refine HVN1.out.mono ?_
  rintro e w2 ⟨rfl, b2⟩
  have HB2 := Lib.hid b2
  clear b2
  by_cases h12 : m3 ≤ 12
  case neg =>
    have hd : decide (12 < (m3 : Int)) = true := decide_eq_true (by omega)
    have hd2 : decide (m3 ≤ 12) = false := decide_eq_false (by omega)
    have hd3 : decide (12 < m3) = true := decide_eq_true (by omega)
    clear h12
    go_wp2
    go_ret
    exact ⟨by rw [HF.out, hd2]; simp, HBX.out.trans (HB2.out.mono HBX.out.size)⟩
  have hd : decide (12 < (m3 : Int)) = false := decide_eq_false (by omega)
  have hd3 : decide (12 < m3) = false := decide_eq_false (by omega)
  have hd2 : decide (m3 ≤ 12) = true := decide_eq_true (by omega)
  rw [hd2] at HF
  clear h12
  go_wp2
  clear hd hd2 hd3
  go_loopw [5] (fun i wr => ∃ k : Nat, k ≤ m3 ∧ i = .int .i64 k ∧ Hid ((gs.take k).any (fun g => !groOk m1 g) = false) ∧ Hid (Below w1.heap.size w1 wr)) (fun i _ => m3 - (intOf i).toNat)
  case atStart => exact ⟨0, by omega, rfl, by simp [Hid], HB2.out⟩
  case round =>
    obtain ⟨k, hk, rfl, HT, HB⟩ := hrel
    have p0 := (HB.out.cell blt).trans q0
    have p1 := (HB.out.cell blt).trans q1
    by_cases hlt : k < m3
    · have hltI : (k : Int) < (m3 : Int) := by omega
      have hkx : k < gs.length := by rw [HN3.out]; exact hlt
      obtain ⟨b, off, rfl, hbs, hcs⟩ := HA.out (by omega)
      have hcw := fun (r : Nat) (u : Value) (hu : (groE (gs[k]?.getD nilG))[r]? = some u) => (HB.out.cell (p := ⟨b, off + k * 6 + r, none⟩) (Nat.lt_of_lt_of_le hbs HBX.out.size)).trans ((HBX.out.cell hbs).trans (hcs k hlt r u hu))
      have HNK := Lib.hid (HNO.out k hkx)
      have HMK := Lib.hid (HMO.out k hkx HT.out)
      have HD := Lib.hid (fun w => l10Demand_any a1 a2 m1 c1 m2 c2 (gs[k]?.getD nilG).d w (by omega))
      have HV := Lib.hid (show groOk m1 (gs[k]?.getD nilG) = (demOk (gs[k]?.getD nilG).d m1 && inB (gs[k]?.getD nilG).s 0 (gs[k]?.getD nilG).e && decide ((gs[k]?.getD nilG).e < 8)) from rfl)
      have c0 := hcw 0 _ rfl
      have c1 := hcw 1 _ rfl
      have c2 := hcw 2 _ rfl
      have c3 := hcw 3 _ rfl
      have c4 := hcw 4 _ rfl
      have c5 := hcw 5 _ rfl
      simp only [Nat.add_zero] at c0
      clear hcw hcs hkx
      unfold demV at HD
      generalize gs[k]?.getD nilG = g at *
      have j0 := rg c0
      have j1 := rg c1
      have j2 := rg c2
      have j3 := rg c3
      have j4 := rg c4
      have j5 := rg c5
      have j6 := rg p0
      have j7 := rg p1
      clear c0 c1 c2 c3 c4 c5
      cases h1 : demOk g.d m1
      · have HE := Lib.hid (HNK.out (by rw [HV.out, h1]; rfl))
        rw [h1] at HD
        clear h1 HV HNK HMK
        go_wp2
        clear p0 p1
        refine wp_region_quiet_below (by kernel_rfl) (by kernel_rfl) ?_
        repeat (go_big_quiet_step (first | (go_at_call 59; exact Calls.regrown_of (HD.out _)) | (go_at_call 48; exact rg_same (l1In_any _ _ _ _))))
        refine wpQuiet_nil ?_
        rintro _ ⟨⟨dq, osq⟩, rfl⟩
        go_wp2
        go_ret
        exact ⟨by rw [HF.out, HE.out]; rfl, HBX.out.trans ((HB.out.mono HBX.out.size).trans ((below_regrown _ dq osq).mono (Nat.le_trans HBX.out.size HB.out.size)))⟩
      cases h2 : inB g.s 0 g.e
      · have HE := Lib.hid (HNK.out (by rw [HV.out, h2]; simp))
        rw [h1] at HD
        clear h1 HV HNK HMK
        go_wp2
        clear p0 p1
        refine wp_region_quiet_below (by kernel_rfl) (by kernel_rfl) ?_
        repeat (go_big_quiet_step (first | (go_at_call 59; exact Calls.regrown_of (HD.out _)) | (go_at_call 48; exact rg_same (l1In_any _ _ _ _))))
        refine wpQuiet_nil ?_
        rintro _ ⟨⟨dq, osq⟩, rfl⟩
        go_wp2
        go_ret
        exact ⟨by rw [HF.out, HE.out]; rfl, HBX.out.trans ((HB.out.mono HBX.out.size).trans ((below_regrown _ dq osq).mono (Nat.le_trans HBX.out.size HB.out.size)))⟩
      rw [h1] at HD
      by_cases h8 : g.e < 8
      · have hd8 : decide (8 ≤ g.e) = false := decide_eq_false (by omega)
        have HS := Lib.hid (HMK.out (by rw [HV.out, h1, h2, decide_eq_true h8]; rfl))
        clear h1 HV HNK HMK h8
        go_wp2
        clear p0 p1
        refine wp_region_quiet_below (by kernel_rfl) (by kernel_rfl) ?_
        repeat (go_big_quiet_step (first | (go_at_call 59; exact Calls.regrown_of (HD.out _)) | (go_at_call 48; exact rg_same (l1In_any _ _ _ _))))
        refine wpQuiet_nil ?_
        rintro _ ⟨⟨dq, osq⟩, rfl⟩
        go_wp2
        go_roundw
        case rel => exact ⟨k + 1, hlt, by go_num, HS.out, HB.out.trans ((below_regrown _ dq osq).mono HB.out.size)⟩
        case measure => simp [intOf]; omega
      · have hd8 : decide (8 ≤ g.e) = true := decide_eq_true (by omega)
        have HE := Lib.hid (HNK.out (by rw [HV.out, decide_eq_false h8]; simp))
        clear h1 HV HNK HMK h8
        go_wp2
        clear p0 p1
        refine wp_region_quiet_below (by kernel_rfl) (by kernel_rfl) ?_
        repeat (go_big_quiet_step (first | (go_at_call 59; exact Calls.regrown_of (HD.out _)) | (go_at_call 48; exact rg_same (l1In_any _ _ _ _))))
        refine wpQuiet_nil ?_
        rintro _ ⟨⟨dq, osq⟩, rfl⟩
        go_wp2
        go_ret
        exact ⟨by rw [HF.out, HE.out]; rfl, HBX.out.trans ((HB.out.mono HBX.out.size).trans ((below_regrown _ dq osq).mono (Nat.le_trans HBX.out.size HB.out.size)))⟩
    · obtain rfl : m3 = k := by omega
      have hall := HT.out
      rw [← HN3.out, List.take_length] at hall
      have HE := Lib.hid hall
      clear hall
      go_wp2
      go_ret
      exact ⟨by rw [HF.out, HE.out]; rfl, HBX.out.trans (HB.out.mono HBX.out.size)⟩
end Go.Proofs.Ytphhenlokbodnaa
