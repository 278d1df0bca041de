/- Joined: XAlbS XPrb XOpa. -/
import Derived.Test.YtmkkdenhjfjmgaaGreatBz09
import Derived.Deep.RegionWith
import Derived.Test.YtmkkdenhjfjmgaaGreatBz18
import Derived.Deep.RegionHeld3
import Derived.Test.YtmkkdenhjfjmgaaGreatBz08
import Derived.Test.YtmkkdenhjfjmgaaGreatBz11
namespace Go.Proofs.YtmkkdenhjfjmgaaGreat
open Go.RowKit Go.Sort
set_option maxRecDepth 100000
theorem rwS_le (zs : List Alm) (gap : Int) (k : Nat) : (rwS zs gap k).length ≤ k := by rw [rwS_len]; exact rwA_len zs gap k
theorem rwS_pos (zs : List Alm) (gap : Int) (k : Nat) (h : 0 < k) : 0 < (rwS zs gap k).length := by rw [rwS_len]; exact rwA_pos zs gap k h
theorem made_inD (w : World) : Ofr (w.alloc (.cells #[] 3)) w.heap.size (inD []) (.slice (some ⟨w.heap.size, 0, none⟩) 0 0) := Ofr.of_row (us := []) (World.ownsRow_made (e := 3) (size := 1) w #[] 0 (Nat.le_refl _) (Nat.zero_le _) (by simp))
theorem grown_below {w w' : World} {r : Option Nat} (h : Below w.heap.size w w') : w.grownBy w' r := ⟨h.os, h.tape, h.output, h.size, fun k hk _ => h.block k hk⟩

set_option maxHeartbeats 3200000 in
theorem specAlb_any (v : Value) (zs : List Alm) (gap : Int) (w : World) (h : Rdt w (flt 2 almE zs) v) :
    Calls Tryz.prog 39 #[v, .int .i64 gap] w (AlbP zs gap w) := by
  obtain ⟨a0, n0, c0, rfl, HN, hc, hn, ha⟩ := flt_opn (m := 2) (enc := almE) (fun _ => rfl) (by omega) nilA h
  have HA := Lib.hid ha
  have HX := Lib.hid (fun w' v (o : Ofr w' w.heap.size (ssD []) v) (hb : Below w.heap.size w w') (e : albOk zs gap = false) => AlbP.no (zs := zs) (gap := gap) (w := w) (w' := w') e o hb)
  have HSZ := Lib.hid (@albOk_sz zs gap)
  have HGP := Lib.hid (@albOk_gap zs gap)
  have HAT := Lib.hid (fun i hi h => @albOk_at zs gap i hi h)
  have HAL := Lib.hid (@albOk_all zs gap)
  have HYE := Lib.hid (fun w' v e o b => @AlbP.yes zs gap w w' v e o b)
  rw [HN.out] at HSZ HAT HAL HYE
  clear ha h
  go_enter Tryz.func39, Tryz.ntmps39
  have HG0 := Lib.hid (Grw.start (w := w) (base := w.heap.size) (size := 1) 29 (Nat.le_refl _))
  have HB0 := Lib.hid ((Below.refl w.heap.size w).alloc (Nat.le_refl _) (.cells #[] 29))
  by_cases h40 : n0 ≤ 40
  case neg =>
    have hd : decide (40 < (n0 : Int)) = true := decide_eq_true (by omega)
    have hd2 : decide (40 < n0) = true := decide_eq_true (by omega)
    have HF := Lib.hid (HSZ.out h40)
    clear h40
    go_wp2
    go_ret2
    exact HX.out _ _ HG0.out.ofr HB0.out HF.out
  have hd : decide (40 < (n0 : Int)) = false := decide_eq_false (by omega)
  have hd2 : decide (40 < n0) = false := decide_eq_false (by omega)
  cases hin : inB gap 0 1000000
  · have HF := Lib.hid (HGP.out hin)
    go_wp2_with (go_at_call 86; refine (l1In_any _ _ _ _).mono ?_; rintro e w' ⟨rfl, rfl⟩; rw [hin])
    go_ret2
    exact HX.out _ _ HG0.out.ofr HB0.out HF.out
  have HAL2 := Lib.hid (HAL.out h40 hin)
  go_wp2_with (go_at_call 86; refine (l1In_any _ _ _ _).mono ?_; rintro e w' ⟨rfl, rfl⟩; rw [hin])
  generalize w.alloc (.cells #[] 29) = w1 at *
  clear hd hd2 hin HSZ HGP HAL
  go_loopw [6, 7, 8] (fun s6 i _ wr => ∃ k : Nat, k ≤ n0 ∧ i = .int .i64 k ∧ Hid (∀ i, i < k → alOk zs i = true) ∧ Hid (Below w.heap.size w wr) ∧ Hid (Grw wr w.heap.size 29 1 s6 (rwS zs gap k).length ((rwS zs gap k).map inD))) (fun _ i _ _ => n0 - (intOf i).toNat)
  case atStart => exact ⟨0, Nat.zero_le _, rfl, fun i hi => by omega, HB0.out, HG0.out⟩
  case round =>
    obtain ⟨k, hk, rfl, HK, HB, HG⟩ := hrel
    obtain ⟨-, aR, cR, rfl⟩ := HG.out.form
    by_cases hlt : k < n0
    · have hltI : (k : Int) < (n0 : Int) := by omega
      obtain ⟨b, off, rfl, hbs, hcs⟩ := HA.out (by omega)
      have HC := Lib.hid (fun i hi r u hu => (HB.out.cell (p := ⟨b, off + i * 2 + r, none⟩) hbs).trans (hcs i hi r u hu))
      have e0 := HC.out k hlt 0 _ rfl
      have e1 := HC.out k hlt 1 _ rfl
      simp only [Nat.add_zero] at e0
      have HNO := Lib.hid (HAT.out k hlt)
      have HST := Lib.hid (fun h => upto_succ HK.out (k := k) h)
      have HV := Lib.hid (show alOk zs k = (inB (zs[k]?.getD nilA).t 0 1000000 && (inB (zs[k]?.getD nilA).l 1 999 && !(decide (0 < k) && decide ((zs[k]?.getD nilA).t < (zs[k - 1]?.getD nilA).t)))) from rfl)
      have HNB := Lib.hid (show newB zs gap k = (decide (k = 0) || decide (gap < (zs[k]?.getD nilA).t - (zs[k - 1]?.getD nilA).t)) from rfl)
      have HNX := Lib.hid (show rwS zs gap (k + 1) = addL (rwB zs gap k (rwS zs gap k)) (putI (lastL (rwB zs gap k (rwS zs gap k))) (zs[k]?.getD nilA).l) from rfl)
      have HPT := Lib.hid (show ∀ j, j < k → 0 ≤ (zs[j]?.getD nilA).t ∧ (zs[j]?.getD nilA).t ≤ 1000000 from fun j hj => by
        have := HK.out j hj
        unfold alOk alA at this
        simp only [Bool.and_eq_true] at this
        exact inB_true this.1)
      have HRL := Lib.hid (rwS_le zs gap k)
      have HRP := Lib.hid (rwS_pos zs gap k)
      have HRR := Lib.hid (rwS_row zs gap k)
      generalize zs[k]?.getD nilA = z at *
      generalize rwS zs gap k = R at *
      obtain ⟨bx, bc, blt, -⟩ := box_facts wr #[.int .i64 z.t, .int .i64 z.l] 67
      have q0 := bc 0 _ rfl
      have q1 := bc 1 _ rfl
      have HB1 := Lib.hid (HB.out.trans (bx.mono HB.out.size))
      have HG1 := Lib.hid (HG.out.below bx)
      have HBX := Lib.hid bx
      have HC1 := Lib.hid (fun i hi r u hu => (bx.cell (p := ⟨b, off + i * 2 + r, none⟩) (Nat.lt_of_lt_of_le hbs HB.out.size)).trans (HC.out i hi r u hu))
      clear bx bc hcs
      have HI := Lib.hid (fun w => l1In_any z.t 0 1000000 w)
      have HJ := Lib.hid (fun w => l1In_any z.l 1 999 w)
      cases hti : inB z.t 0 1000000
      · have HF := Lib.hid (HNO.out (by rw [HV.out, hti]; rfl))
        rw [hti] at HI
        go_wp2
        generalize wr.alloc (.cells #[.int .i64 z.t, .int .i64 z.l] 67) = w2 at *
        have j0 := rg q0
        have j1 := rg q1
        clear q0 q1 e0 e1
        refine wp_region_quiet_below (by kernel_rfl) (by kernel_rfl) ?_
        repeat (go_big_quiet_step (first | (go_at_call 86; exact rg_same (HI.out _))))
        refine wpQuiet_nil ?_
        rintro _ ⟨⟨dq, osq⟩, rfl⟩
        have b3 := below_regrown w2 dq osq
        generalize grow (redrawn w2 dq) osq = w3 at *
        go_wp2
        go_ret2
        exact HX.out _ _ (Grw.start 29 (Nat.le_trans HB1.out.size b3.size)).ofr ((HB1.out.trans (b3.mono HB1.out.size)).alloc (Nat.le_trans HB1.out.size b3.size) _) HF.out
      rw [hti] at HI HV
      have hzt := inB_true hti
      clear hti
      cases hli : inB z.l 1 999
      · have HF := Lib.hid (HNO.out (by rw [HV.out, hli]; rfl))
        rw [hli] at HJ
        go_wp2
        generalize wr.alloc (.cells #[.int .i64 z.t, .int .i64 z.l] 67) = w2 at *
        have j0 := rg q0
        have j1 := rg q1
        clear q0 q1 e0 e1
        refine wp_region_quiet_below (by kernel_rfl) (by kernel_rfl) ?_
        repeat (go_big_quiet_step (first | (go_at_call 86; first | (with_reducible exact rg_same (HI.out _)) | (with_reducible exact rg_same (HJ.out _)))))
        refine wpQuiet_nil ?_
        rintro _ ⟨⟨dq, osq⟩, rfl⟩
        have b3 := below_regrown w2 dq osq
        generalize grow (redrawn w2 dq) osq = w3 at *
        go_wp2
        go_ret2
        exact HX.out _ _ (Grw.start 29 (Nat.le_trans HB1.out.size b3.size)).ofr ((HB1.out.trans (b3.mono HB1.out.size)).alloc (Nat.le_trans HB1.out.size b3.size) _) HF.out
      rw [hli] at HJ HV
      clear hli
      by_cases hk0 : k = 0
      · have hk0b : decide (0 < k) = false := decide_eq_false (by omega)
        have hk0c : decide (0 < (k : Int)) = false := decide_eq_false (by omega)
        have hk0d : decide ((k : Int) = 0) = true := decide_eq_true (by omega)
        have hk0e : decide (k = 0) = true := decide_eq_true (by omega)
        have hk0f : ((k : Int) == 0) = true := by rw [beq_iff_eq]; omega
        have HS := Lib.hid (HST.out (by rw [HV.out, hk0b]; rfl))
        have HN1 := Lib.hid (HNX.out)
        have HR1 := Lib.hid (show rwB zs gap k R = R ++ [[]] by unfold rwB; rw [HNB.out, hk0e]; rfl)
        clear hk0
        go_wp2
        generalize wr.alloc (.cells #[.int .i64 z.t, .int .i64 z.l] 67) = w2 at *
        have j0 := rg q0
        have j1 := rg q1
        have j0' := q0
        have j1' := q1
        clear q0 q1 e0 e1
        refine wp_region_quiet_below (by kernel_rfl) (by kernel_rfl) ?_
        repeat (go_big_quiet_step (first | (go_at_call 86; first | (with_reducible exact rg_same (HI.out _)) | (with_reducible exact rg_same (HJ.out _)))))
        refine wpQuiet_nil ?_
        rintro _ ⟨⟨dq, osq⟩, rfl⟩
        have b3 := below_regrown w2 dq osq
        have q0 := j0 dq osq
        have q1 := j1 dq osq
        generalize grow (redrawn w2 dq) osq = w3 at *
        clear j0 j1
        go_wp2
        have j0 := rg q0
        have j1 := rg q1
        refine wp_region_quiet_below (by kernel_rfl) (by kernel_rfl) ?_
        repeat (go_big_quiet_step (fail))
        refine wpQuiet_nil ?_
        rintro _ ⟨⟨dq2, osq2⟩, rfl⟩
        have b4 := below_regrown w3 dq2 osq2
        have q1 := j1 dq2 osq2
        generalize grow (redrawn w3 dq2) osq2 = w4 at *
        clear j0 j1 q0
        have HB4 := Lib.hid ((HB1.out.trans (b3.mono HB1.out.size)).trans (b4.mono (Nat.le_trans HB1.out.size b3.size)))
        have HG4 := Lib.hid ((HG1.out.below b3).below b4)
        go_wp2_with (at_builtin; refine StopAt.go ?_)
        unfold StopAt
        refine wpList_grow rfl (.tmp 70) (.tmp 72) 63 29 rfl Tryz.underlying63 (.slice none 0 0) 1 24 Tryz.infoRows rfl (by decide) (by decide) w.heap.size R.length (.slice aR R.length cR) _ _ (by rfl) HG4.out HB4.out.size ((Below.refl _ _).alloc (Nat.le_refl _) (.cells #[] 3)) [.slice (some ⟨w4.heap.size, 0, none⟩) 0 0] (Newd.one (d := inD []) (made_inD w4)) rfl (by simp [Value.oneCell']) (show Value.slice (some ⟨w4.heap.size + 1, 0, none⟩) 1 1 = Value.slice (some ⟨(w4.alloc (.cells #[] 3)).heap.size, 0, none⟩) 1 1 by simp) (by have := HRL.out; omega) ?_
        intro v5 w5 hG5 hgr5 hlie5
        have hgr5 := (World.grownBy_alloc w4 (.cells #[] 3) (Value.slice aR R.length cR).ownBlock).trans' hgr5
        have HG6 := Lib.hid (show Grw w5 w.heap.size 29 1 v5 (rwB zs gap k R).length ((rwB zs gap k R).map inD) by rw [HR1.out, List.map_append, List.length_append]; exact hG5)
        have HB6 := Lib.hid (HB4.out.grown hgr5 HB4.out.size (fun g hg => (HG4.out.own g hg).1))
        have hbx5 : wr.heap.size < w5.heap.size := Nat.lt_of_lt_of_le (Nat.lt_of_lt_of_le blt (Nat.le_trans b3.size b4.size)) hgr5.size
        have q5 := (hgr5.cell_far ⟨wr.heap.size, 1, none⟩ (World.block_lt_of_cell? _ _ q1) (fun e => by have := HG.out.own _ e.symm; exact Nat.lt_irrefl _ this.2)).trans q1
        have HRB := Lib.hid (show 0 < (rwB zs gap k R).length ∧ (rwB zs gap k R).length ≤ k + 1 by have h1 := HRL.out; rw [HR1.out, List.length_append]; simp only [List.length_cons, List.length_nil]; omega)
        have HRW := Lib.hid (show (lastL (rwB zs gap k R)).length ≤ k by rw [HR1.out]; simp [lastL])
        clear hG5 hgr5 hlie5 q1 b3 b4
        clear HN1 HR1 HNB HV HI HJ HRL HRP HRR hk0b hk0c hk0d hk0e hk0f HPT HC HC1
-- TAIL
        generalize rwB zs gap k R = RB at *
        obtain ⟨j, hj⟩ : ∃ j, RB.length = j + 1 := ⟨RB.length - 1, by have := HRB.out.1; omega⟩
        have hjk : j ≤ k := by have := HRB.out.2; omega
        have HJL := Lib.hid (show j < RB.length by omega)
        have HNX2 := Lib.hid (show rwS zs gap (k + 1) = RB.set j (putI (RB[j]?.getD []) z.l) by rw [HNX.out]; unfold addL lastL; rw [hj]; rfl)
        have HRW2 := Lib.hid (show (RB[j]?.getD []).length ≤ k by have := HRW.out; unfold lastL at this; rw [hj] at this; exact this)
        obtain ⟨g, cap, u, rfl, hu, hgl, ho, hne, hput⟩ := HG6.out.deepI HJL.out HB6.out.size HB6.out
        have HPUT := Lib.hid hput
        have HO := Lib.hid ho
        have HNE := Lib.hid hne
        generalize hM : RB.length = m at *
        have hm63 : m ≤ 9223372036854775807 := by omega
        have f1 : IntKind.i64.wrap ((m : Int) - 1) = (j : Int) := by rw [IntWalk.i64_in _ (by omega)]; omega
        have f2 : (j : Int) < (m : Int) := by omega
        have hjm : j < m := by omega
        have HM := Lib.hid hM
        have HJM := Lib.hid hj
        have HSZ1 := Lib.hid HB6.out.size
        clear hj hM
        clear HRB HRW HNX hput ho hne
        go_wp2
        go_region_with (first | (go_at_call 87; refine (l1Put_any u (RB[j]?.getD []) z.l w.heap.size _ (HO.out.belowAll (Below.refl _ _).drew) HSZ1.out (by have := HRW2.out; omega)).mono ?_; rintro e w7 ⟨v7, rfl, ho7, hlie7, b7⟩; obtain ⟨⟨u0, hs0⟩, hs1, hG7, hB7⟩ := HPUT.out w7 v7 _ ho7 hlie7 (grown_drew (grown_below b7)); obtain ⟨a7, n7, c7, -, rfl, -⟩ := ho7.rd.opn; have HG7 := Lib.hid hG7; have HB7 := Lib.hid hB7; clear hG7 hB7 ho7 hlie7 b7))
        all_goals
          generalize w7.setCell ⟨g, j, none⟩ (.slice a7 n7 c7) = w8 at *
          go_wp2
          go_roundw
          case rel => exact ⟨k + 1, hlt, by go_num, HS.out, HB7.out, by rw [HNX2.out, List.length_set, HM.out]; exact HG7.out⟩
          case measure => simp [intOf]; omega
      obtain ⟨k', hk'⟩ : ∃ k', k = k' + 1 := ⟨k - 1, by omega⟩
      have hkk : k - 1 = k' := by omega
      have hk0b : decide (0 < k) = true := decide_eq_true (by omega)
      have hk0c : decide (0 < (k : Int)) = true := decide_eq_true (by omega)
      have hk0d : decide ((k : Int) = 0) = false := decide_eq_false (by omega)
      have hk0e : decide (k = 0) = false := decide_eq_false (by omega)
      have hk0f : ((k : Int) == 0) = false := by rw [beq_eq_false_iff_ne]; omega
      have hkp : (0 : Int) < (k : Int) := by omega
      have f1w : IntKind.i64.wrap ((k : Int) - 1) = (k' : Int) := by rw [IntWalk.i64_in _ (by omega)]; omega
      have f2w : (k' : Int) < (n0 : Int) := by omega
      have f3w : k' < n0 := by omega
      have p0 := HC1.out k' f3w 0 _ rfl
      simp only [Nat.add_zero] at p0
      have hpt := HPT.out k' (by omega)
      have hv := HV.out
      have hnb := HNB.out
      rw [hkk, hk0b] at hv
      rw [hkk, hk0e] at hnb
      generalize (zs[k']?.getD nilA).t = tp at *
      obtain ⟨dd, hdd⟩ : ∃ dd, z.t - tp = dd := ⟨_, rfl⟩
      rw [hdd] at hnb
      have f4w : IntKind.i64.wrap (z.t - tp) = dd := by rw [← hdd]; exact IntWalk.i64_in _ (by omega)
      have f5w : wrap64 (z.t - tp) = dd := by rw [← hdd]; exact IntWalk.wrap64_in _ (by omega)
      have HV2 := Lib.hid hv
      have HNB2 := Lib.hid hnb
      clear hv hnb hdd hk' hkk hk0 HV HNB hpt HPT
      cases hgt : decide (z.t < tp)
      case true =>
        have HF := Lib.hid (HNO.out (by rw [HV2.out, hgt]; rfl))
        go_wp2
        generalize wr.alloc (.cells #[.int .i64 z.t, .int .i64 z.l] 67) = w2 at *
        have j0 := rg q0
        have j1 := rg q1
        have j2 := rg p0
        clear q0 q1 e0 e1 p0
        refine wp_region_quiet_below (by kernel_rfl) (by kernel_rfl) ?_
        repeat (go_big_quiet_step (first | (go_at_call 86; first | (with_reducible exact rg_same (HI.out _)) | (with_reducible exact rg_same (HJ.out _)))))
        refine wpQuiet_nil ?_
        rintro _ ⟨⟨dq, osq⟩, rfl⟩
        have b3 := below_regrown w2 dq osq
        generalize grow (redrawn w2 dq) osq = w3 at *
        go_wp2
        go_ret2
        exact HX.out _ _ (Grw.start 29 (Nat.le_trans HB1.out.size b3.size)).ofr ((HB1.out.trans (b3.mono HB1.out.size)).alloc (Nat.le_trans HB1.out.size b3.size) _) HF.out
      have HS := Lib.hid (HST.out (by rw [HV2.out, hgt]; rfl))
      cases hnw : decide (gap < dd)
      · have HR1 := Lib.hid (show rwB zs gap k R = R by unfold rwB; rw [HNB2.out, hnw]; rfl)
        have HN1 := Lib.hid (HNX.out)
        rw [HR1.out] at HN1
        have hR0 := HRP.out (by omega)
        go_wp2
        generalize wr.alloc (.cells #[.int .i64 z.t, .int .i64 z.l] 67) = w2 at *
        have j0 := rg q0
        have j1 := rg q1
        have j2 := rg p0
        clear q0 q1 e0 e1 p0
        refine wp_region_quiet_below (by kernel_rfl) (by kernel_rfl) ?_
        repeat (go_big_quiet_step (first | (go_at_call 86; first | (with_reducible exact rg_same (HI.out _)) | (with_reducible exact rg_same (HJ.out _)))))
        refine wpQuiet_nil ?_
        rintro _ ⟨⟨dq, osq⟩, rfl⟩
        have b3 := below_regrown w2 dq osq
        have q0 := j0 dq osq
        have q1 := j1 dq osq
        have p0 := j2 dq osq
        generalize grow (redrawn w2 dq) osq = w3 at *
        clear j0 j1 j2
        go_wp2
        have j0 := rg q0
        have j1 := rg q1
        have j2 := rg p0
        clear q0 p0
        refine wp_region_quiet_below (by kernel_rfl) (by kernel_rfl) ?_
        repeat (go_big_quiet_step (fail))
        refine wpQuiet_nil ?_
        rintro _ ⟨⟨dq2, osq2⟩, rfl⟩
        have b4 := below_regrown w3 dq2 osq2
        have q1 := j1 dq2 osq2
        generalize grow (redrawn w3 dq2) osq2 = w4 at *
        clear j0 j1 j2
        have HB4 := Lib.hid ((HB1.out.trans (b3.mono HB1.out.size)).trans (b4.mono (Nat.le_trans HB1.out.size b3.size)))
        have HG4 := Lib.hid ((HG1.out.below b3).below b4)
        have HG6 := HG4
        have HB6 := HB4
        have hbx5 : wr.heap.size < w4.heap.size := Nat.lt_of_lt_of_le blt (Nat.le_trans b3.size b4.size)
        have q5 := q1
        have HRB := Lib.hid (show 0 < R.length ∧ R.length ≤ k + 1 by have h1 := HRL.out; omega)
        have HRW := Lib.hid (show (lastL R).length ≤ k from HRR.out _)
        clear q1 b3 b4 hR0 HNX
        have HNX := HN1
        clear HN1 HR1 HNB2 HV2 HI HJ HRL HRP HRR hk0b hk0c hk0d hk0e hk0f HC HC1 hgt hnw f1w f2w f3w f4w f5w
        obtain ⟨j, hj⟩ : ∃ j, R.length = j + 1 := ⟨R.length - 1, by have := HRB.out.1; omega⟩
        have hjk : j ≤ k := by have := HRB.out.2; omega
        have HJL := Lib.hid (show j < R.length by omega)
        have HNX2 := Lib.hid (show rwS zs gap (k + 1) = R.set j (putI (R[j]?.getD []) z.l) by rw [HNX.out]; unfold addL lastL; rw [hj]; rfl)
        have HRW2 := Lib.hid (show (R[j]?.getD []).length ≤ k by have := HRW.out; unfold lastL at this; rw [hj] at this; exact this)
        obtain ⟨g, cap, u, hv6, hu, hgl, ho, hne, hput⟩ := HG6.out.deepI HJL.out HB6.out.size HB6.out
        simp only [Value.slice.injEq] at hv6
        obtain ⟨rfl, -, rfl⟩ := hv6
        have HPUT := Lib.hid hput
        have HO := Lib.hid ho
        have HNE := Lib.hid hne
        generalize hM : R.length = m at *
        have hm63 : m ≤ 9223372036854775807 := by omega
        have f1 : IntKind.i64.wrap ((m : Int) - 1) = (j : Int) := by rw [IntWalk.i64_in _ (by omega)]; omega
        have f2 : (j : Int) < (m : Int) := by omega
        have hjm : j < m := by omega
        have HM := Lib.hid hM
        have HJM := Lib.hid hj
        have HSZ1 := Lib.hid HB6.out.size
        clear hj hM
        clear HRB HRW HNX hput ho hne
        go_wp2
        go_region_with (first | (go_at_call 87; refine (l1Put_any u (R[j]?.getD []) z.l w.heap.size _ (HO.out.belowAll (Below.refl _ _).drew) HSZ1.out (by have := HRW2.out; omega)).mono ?_; rintro e w7 ⟨v7, rfl, ho7, hlie7, b7⟩; obtain ⟨⟨u0, hs0⟩, hs1, hG7, hB7⟩ := HPUT.out w7 v7 _ ho7 hlie7 (grown_drew (grown_below b7)); obtain ⟨a7, n7, c7, -, rfl, -⟩ := ho7.rd.opn; have HG7 := Lib.hid hG7; have HB7 := Lib.hid hB7; clear hG7 hB7 ho7 hlie7 b7))
        all_goals
          generalize w7.setCell ⟨g, j, none⟩ (.slice a7 n7 c7) = w8 at *
          go_wp2
          go_roundw
          case rel => exact ⟨k + 1, hlt, by go_num, HS.out, HB7.out, by rw [HNX2.out, List.length_set, HM.out]; exact HG7.out⟩
          case measure => simp [intOf]; omega
      · have HR1 := Lib.hid (show rwB zs gap k R = R ++ [[]] by unfold rwB; rw [HNB2.out, hnw]; rfl)
        have hR0 := HRP.out (by omega)
        go_wp2
        generalize wr.alloc (.cells #[.int .i64 z.t, .int .i64 z.l] 67) = w2 at *
        have j0 := rg q0
        have j1 := rg q1
        have j2 := rg p0
        clear q0 q1 e0 e1 p0
        refine wp_region_quiet_below (by kernel_rfl) (by kernel_rfl) ?_
        repeat (go_big_quiet_step (first | (go_at_call 86; first | (with_reducible exact rg_same (HI.out _)) | (with_reducible exact rg_same (HJ.out _)))))
        refine wpQuiet_nil ?_
        rintro _ ⟨⟨dq, osq⟩, rfl⟩
        have b3 := below_regrown w2 dq osq
        have q0 := j0 dq osq
        have q1 := j1 dq osq
        have p0 := j2 dq osq
        generalize grow (redrawn w2 dq) osq = w3 at *
        clear j0 j1 j2
        go_wp2
        have j0 := rg q0
        have j1 := rg q1
        have j2 := rg p0
        clear q0 p0
        refine wp_region_quiet_below (by kernel_rfl) (by kernel_rfl) ?_
        repeat (go_big_quiet_step (fail))
        refine wpQuiet_nil ?_
        rintro _ ⟨⟨dq2, osq2⟩, rfl⟩
        have b4 := below_regrown w3 dq2 osq2
        have q1 := j1 dq2 osq2
        generalize grow (redrawn w3 dq2) osq2 = w4 at *
        clear j0 j1 j2
        have HB4 := Lib.hid ((HB1.out.trans (b3.mono HB1.out.size)).trans (b4.mono (Nat.le_trans HB1.out.size b3.size)))
        have HG4 := Lib.hid ((HG1.out.below b3).below b4)
        go_wp2_with (at_builtin; refine StopAt.go ?_)
        unfold StopAt
        refine wpList_grow rfl (.tmp 70) (.tmp 72) 63 29 rfl Tryz.underlying63 (.slice none 0 0) 1 24 Tryz.infoRows rfl (by decide) (by decide) w.heap.size R.length (.slice aR R.length cR) _ _ (by rfl) HG4.out HB4.out.size ((Below.refl _ _).alloc (Nat.le_refl _) (.cells #[] 3)) [.slice (some ⟨w4.heap.size, 0, none⟩) 0 0] (Newd.one (d := inD []) (made_inD w4)) rfl (by simp [Value.oneCell']) (show Value.slice (some ⟨w4.heap.size + 1, 0, none⟩) 1 1 = Value.slice (some ⟨(w4.alloc (.cells #[] 3)).heap.size, 0, none⟩) 1 1 by simp) (by have := HRL.out; omega) ?_
        intro v5 w5 hG5 hgr5 hlie5
        have hgr5 := (World.grownBy_alloc w4 (.cells #[] 3) (Value.slice aR R.length cR).ownBlock).trans' hgr5
        have HG6 := Lib.hid (show Grw w5 w.heap.size 29 1 v5 (rwB zs gap k R).length ((rwB zs gap k R).map inD) by rw [HR1.out, List.map_append, List.length_append]; exact hG5)
        have HB6 := Lib.hid (HB4.out.grown hgr5 HB4.out.size (fun g hg => (HG4.out.own g hg).1))
        have hbx5 : wr.heap.size < w5.heap.size := Nat.lt_of_lt_of_le (Nat.lt_of_lt_of_le blt (Nat.le_trans b3.size b4.size)) hgr5.size
        have q5 := (hgr5.cell_far ⟨wr.heap.size, 1, none⟩ (World.block_lt_of_cell? _ _ q1) (fun e => by have := HG.out.own _ e.symm; exact Nat.lt_irrefl _ this.2)).trans q1
        have HRB := Lib.hid (show 0 < (rwB zs gap k R).length ∧ (rwB zs gap k R).length ≤ k + 1 by have h1 := HRL.out; rw [HR1.out, List.length_append]; simp only [List.length_cons, List.length_nil]; omega)
        have HRW := Lib.hid (show (lastL (rwB zs gap k R)).length ≤ k by rw [HR1.out]; simp [lastL])
        clear hG5 hgr5 hlie5 q1 b3 b4
        clear HR1 HNB2 HV2 HI HJ HRL HRP HRR hk0b hk0c hk0d hk0e hk0f HC HC1 hgt hnw f1w f2w f3w f4w f5w hR0
        generalize rwB zs gap k R = RB at *
        obtain ⟨j, hj⟩ : ∃ j, RB.length = j + 1 := ⟨RB.length - 1, by have := HRB.out.1; omega⟩
        have hjk : j ≤ k := by have := HRB.out.2; omega
        have HJL := Lib.hid (show j < RB.length by omega)
        have HNX2 := Lib.hid (show rwS zs gap (k + 1) = RB.set j (putI (RB[j]?.getD []) z.l) by rw [HNX.out]; unfold addL lastL; rw [hj]; rfl)
        have HRW2 := Lib.hid (show (RB[j]?.getD []).length ≤ k by have := HRW.out; unfold lastL at this; rw [hj] at this; exact this)
        obtain ⟨g, cap, u, rfl, hu, hgl, ho, hne, hput⟩ := HG6.out.deepI HJL.out HB6.out.size HB6.out
        have HPUT := Lib.hid hput
        have HO := Lib.hid ho
        have HNE := Lib.hid hne
        generalize hM : RB.length = m at *
        have hm63 : m ≤ 9223372036854775807 := by omega
        have f1 : IntKind.i64.wrap ((m : Int) - 1) = (j : Int) := by rw [IntWalk.i64_in _ (by omega)]; omega
        have f2 : (j : Int) < (m : Int) := by omega
        have hjm : j < m := by omega
        have HM := Lib.hid hM
        have HJM := Lib.hid hj
        have HSZ1 := Lib.hid HB6.out.size
        clear hj hM
        clear HRB HRW HNX hput ho hne
        go_wp2
        go_region_with (first | (go_at_call 87; refine (l1Put_any u (RB[j]?.getD []) z.l w.heap.size _ (HO.out.belowAll (Below.refl _ _).drew) HSZ1.out (by have := HRW2.out; omega)).mono ?_; rintro e w7 ⟨v7, rfl, ho7, hlie7, b7⟩; obtain ⟨⟨u0, hs0⟩, hs1, hG7, hB7⟩ := HPUT.out w7 v7 _ ho7 hlie7 (grown_drew (grown_below b7)); obtain ⟨a7, n7, c7, -, rfl, -⟩ := ho7.rd.opn; have HG7 := Lib.hid hG7; have HB7 := Lib.hid hB7; clear hG7 hB7 ho7 hlie7 b7))
        all_goals
          generalize w7.setCell ⟨g, j, none⟩ (.slice a7 n7 c7) = w8 at *
          go_wp2
          go_roundw
          case rel => exact ⟨k + 1, hlt, by go_num, HS.out, HB7.out, by rw [HNX2.out, List.length_set, HM.out]; exact HG7.out⟩
          case measure => simp [intOf]; omega
    · obtain rfl : n0 = k := by omega
      have HE := Lib.hid (HAL2.out HK.out)
      have HY := Lib.hid (HYE.out)
      go_wp2
      go_ret2
      exact HY.out _ _ HE.out HG.out.ofr HB.out
end Go.Proofs.YtmkkdenhjfjmgaaGreat
namespace Go.Proofs.YtmkkdenhjfjmgaaGreat
open Go.RowKit Go.Sort
set_option maxRecDepth 100000

def pcOk (p : Pln) (zs : List Alm) (gap : Int) : Bool := albOk zs gap && (plnOk p && (albR zs gap).all (dwOk p))
def pcR (p : Pln) (zs : List Alm) (gap : Int) : List (List Int) := if pcOk p zs gap then (albR zs gap).map (fewL p) else []
def PcP (p : Pln) (zs : List Alm) (gap : Int) (w : World) (e : Ending) (w' : World) : Prop := ∃ v, e = .returned (.tuple #[v, .bool (pcOk p zs gap)]) ∧ Ofr w' w.heap.size (ssD (pcR p zs gap)) v ∧ Below w.heap.size w w'
theorem pcR_no {p : Pln} {zs : List Alm} {gap : Int} (h : pcOk p zs gap = false) : pcR p zs gap = [] := by unfold pcR; rw [h]; rfl
theorem pcR_yes {p : Pln} {zs : List Alm} {gap : Int} (h : pcOk p zs gap = true) : pcR p zs gap = (albR zs gap).map (fewL p) := by unfold pcR; rw [if_pos h]
theorem pcOk_alb {p : Pln} {zs : List Alm} {gap : Int} (h : albOk zs gap = false) : pcOk p zs gap = false := by unfold pcOk; rw [h]; rfl
theorem pcOk_pln {p : Pln} {zs : List Alm} {gap : Int} (h : plnOk p = false) : pcOk p zs gap = false := by unfold pcOk; rw [h]; simp
theorem pcOk_at {p : Pln} {zs : List Alm} {gap : Int} {k : Nat} (hk : k < (albR zs gap).length) (h : dwOk p ((albR zs gap)[k]?.getD []) = false) : pcOk p zs gap = false := by
  have : (albR zs gap).all (dwOk p) = false := by
    rw [List.all_eq_false]
    refine ⟨(albR zs gap)[k], List.getElem_mem hk, ?_⟩
    rw [List.getElem?_eq_getElem hk] at h
    simpa using h
  unfold pcOk; rw [this]; simp
theorem pcOk_all {p : Pln} {zs : List Alm} {gap : Int} (h1 : albOk zs gap = true) (h2 : plnOk p = true) (h : ∀ k, k < (albR zs gap).length → dwOk p ((albR zs gap)[k]?.getD []) = true) : pcOk p zs gap = true := by
  have : (albR zs gap).all (dwOk p) = true := by
    rw [List.all_eq_true]
    intro x hx
    obtain ⟨k, hk, rfl⟩ := List.mem_iff_getElem.1 hx
    have := h k hk
    rwa [List.getElem?_eq_getElem hk] at this
  unfold pcOk; rw [h1, h2, this]; rfl
theorem pcT_next {p : Pln} {L : List (List Int)} {k : Nat} (hk : k < L.length) : (L.take (k + 1)).map (fewL p) = (L.take k).map (fewL p) ++ [fewL p (L[k]?.getD [])] := by
  rw [List.take_add_one, List.map_append, List.getElem?_eq_getElem hk]; rfl
theorem rwA_len40 (zs : List Alm) (gap : Int) (k : Nat) : (rwA zs gap k).length ≤ k := by
  induction k with
  | zero => simp [rwA]
  | succ k ih =>
    show (addL _ _).length ≤ k + 1
    rw [addL_len, rwB_len]
    split <;> omega
theorem albR_len40 (zs : List Alm) (gap : Int) : (albR zs gap).length ≤ 40 := by
  unfold albR
  split
  · rename_i h
    unfold albOk at h
    simp only [Bool.and_eq_true, decide_eq_true_eq] at h
    rw [← rw_map, List.length_map]
    exact Nat.le_trans (rwA_len40 _ _ _) h.1
  · simp
set_option maxHeartbeats 3200000 in
theorem implPrb_any (v va : Value) (p : Pln) (zs : List Alm) (gap : Int) (w : World) (hp : PlnR w v p) (ha : Rdt w (flt 2 almE zs) va) (hfb : ∀ i : Nat, (lgA p i).fb.length ≤ 1100000) :
    Calls Tryz.prog 41 #[v, va, .int .i64 gap] w (PcP p zs gap w) := by
  have HAL := Lib.hid (fun w' (hb : Below w.heap.size w w') => implAlb_any va zs gap w' (ha.behind hb))
  have HVP := Lib.hid (fun w' (hb : Below w.heap.size w w') => IsValidPlan_any v p w' (hp.behind hb) hfb)
  have HLS := Lib.hid (fun w' (hb : Below w.heap.size w w') vd d (hd : Rd w' vd d) => isLightSet_any v vd p d w' (hp.behind hb) hd)
  have HFE := Lib.hid (fun w' (hb : Below w.heap.size w w') vd d (hd : Rd w' vd d) (hok : dwOk p d = true) => firstExplanation_any v vd p d w' (hp.behind hb) hd hok hfb)
  obtain ⟨a1, m1, c1, a2, m2, c2, a3, m3, c3, hv⟩ : ∃ a1 m1 c1 a2 m2 c2 a3 m3 c3, v = .agg #[.slice a1 m1 c1, .slice a2 m2 c2, .slice a3 m3 c3] := by
    obtain ⟨u1, u2, u3, e, r⟩ := id hp
    obtain ⟨a1, m1, c1, a2, m2, c2, a3, m3, c3, e1, e2, e3⟩ := PlB.slices (show PlnR w (.agg #[u1, u2, u3]) p from by rw [← e]; exact hp)
    exact ⟨a1, m1, c1, a2, m2, c2, a3, m3, c3, by rw [e, e1, e2, e3]⟩
  subst hv
  obtain ⟨aa, na, ca, rfl, -, -, -, -⟩ := flt_opn (m := 2) (enc := almE) (fun _ => rfl) (by omega) nilA ha
  have HRN := Lib.hid (@pcR_no p zs gap)
  have HRY := Lib.hid (@pcR_yes p zs gap)
  have HOA := Lib.hid (@pcOk_alb p zs gap)
  have HOP := Lib.hid (@pcOk_pln p zs gap)
  have HOT := Lib.hid (fun k hk => @pcOk_at p zs gap k hk)
  have HOY := Lib.hid (@pcOk_all p zs gap)
  have HL40 := Lib.hid (albR_len40 zs gap)
  obtain ⟨bx, bc, blt, -⟩ := box_facts w #[.slice a1 m1 c1, .slice a2 m2 c2, .slice a3 m3 c3] 38
  have q0 := bc 0 _ rfl
  have q1 := bc 1 _ rfl
  have q2 := bc 2 _ rfl
  have HBX := Lib.hid bx
  unfold PcP
  unfold AlbP at HAL
  generalize pcR p zs gap = R at *
  generalize pcOk p zs gap = ok at *
  generalize albR zs gap = L at *
  generalize albOk zs gap = oka at *
  clear bx bc hp ha hfb
  go_enter Tryz.func41, Tryz.ntmps41
  go_wp2_with fail
  generalize w.alloc (.cells #[.slice a1 m1 c1, .slice a2 m2 c2, .slice a3 m3 c3] 38) = w1 at *
  refine (HAL.out w1 HBX.out).mono ?_
  rintro e w2 ⟨v2, rfl, o2, b2⟩
  obtain ⟨a7, n7, c7, rfl, HN7, -, hn7, -⟩ := ssD_opn o2.rd
  have HR2 := Lib.hid (fun wx (hk : Below w2.heap.size w2 wx) i hi => ssD_row (i := i) (o2.rd.behind hk) rfl hi)
  have f0 := (b2.cell (p := ⟨w.heap.size, 0, none⟩) blt).trans q0
  have f1 := (b2.cell (p := ⟨w.heap.size, 1, none⟩) blt).trans q1
  have f2 := (b2.cell (p := ⟨w.heap.size, 2, none⟩) blt).trans q2
  have HB2 := Lib.hid (HBX.out.trans (b2.mono HBX.out.size))
  have hl2 := Nat.lt_of_lt_of_le blt b2.size
  clear b2 o2 q0 q1 q2 blt
  cases oka
  · have HE := Lib.hid (HOA.out rfl)
    have HE2 := Lib.hid (HRN.out HE.out)
    go_wp2
    go_ret2
    exact ⟨_, by rw [HE.out]; rfl, by rw [HE2.out]; exact Ofr.nil _ _ _, HB2.out⟩
  have HV2 := Lib.hid (HVP.out w2 HB2.out)
  cases hpo : plnOk p
  · have HE := Lib.hid (HOP.out hpo)
    have HE2 := Lib.hid (HRN.out HE.out)
    rw [hpo] at HV2
    clear hpo
    go_wp2_with fail
    refine HV2.out.mono ?_
    rintro e w3 ⟨rfl, b3⟩
    have HB3 := Lib.hid (HB2.out.trans (b3.mono HB2.out.size))
    clear b3
    go_wp2
    go_ret2
    exact ⟨_, by rw [HE.out]; rfl, by rw [HE2.out]; exact Ofr.nil _ _ _, HB3.out⟩
  have HPO := Lib.hid hpo
  have HOY2 := Lib.hid (HOY.out rfl hpo)
  rw [hpo] at HV2
  rw [HN7.out] at HOT HOY2 HL40
  have h40 : n7 ≤ 40 := HL40.out
  clear hpo HOY HOA HOP
  go_wp2_with fail
  refine HV2.out.mono ?_
  rintro e w3 ⟨rfl, b3⟩
  have g0 := (b3.cell (p := ⟨w.heap.size, 0, none⟩) hl2).trans f0
  have g1 := (b3.cell (p := ⟨w.heap.size, 1, none⟩) hl2).trans f1
  have g2 := (b3.cell (p := ⟨w.heap.size, 2, none⟩) hl2).trans f2
  have HB3 := Lib.hid (HB2.out.trans (b3.mono HB2.out.size))
  have HBS3 := Lib.hid b3
  have hl3 := Nat.lt_of_lt_of_le hl2 b3.size
  have HG0 := Lib.hid (Grw.start (w := w3) (base := w3.heap.size) (size := 1) 29 (Nat.le_refl _))
  have HB4 := Lib.hid ((Below.refl w3.heap.size w3).alloc (Nat.le_refl _) (.cells #[] 29))
  clear b3 f0 f1 f2 hl2
  go_wp2
  generalize w3.alloc (.cells #[] 29) = w4 at *
  go_loopw [10, 12, 13, 14, 31] (fun s10 _ _ _ i wr => ∃ (k : Nat), k ≤ n7 ∧ i = .int .i64 k ∧ Hid (Grw wr w3.heap.size 29 1 s10 k (((L.take k).map (fewL p)).map inD)) ∧ Hid (∀ j, j < k → dwOk p (L[j]?.getD []) = true) ∧ Hid (Below w3.heap.size w3 wr)) (fun _ _ _ _ i _ => n7 - (intOf i).toNat)
  case atStart => exact ⟨0, Nat.zero_le _, rfl, HG0.out, fun j hj => absurd hj (Nat.not_lt_zero j), HB4.out⟩
  case round =>
    obtain ⟨k, hk, rfl, HG, HK, HB⟩ := hrel
    obtain ⟨-, a10, c10, rfl⟩ := HG.out.form
    have HBW := Lib.hid (HB3.out.trans (HB.out.mono HB3.out.size))
    by_cases hlt : k < n7
    · have hltI : (k : Int) < (n7 : Int) := by omega
      obtain ⟨b, off, u, rfl, hu, hru⟩ := HR2.out wr (HBS3.out.trans (HB.out.mono HBS3.out.size)) k hlt
      have t0 := (HB.out.cell (p := ⟨w.heap.size, 0, none⟩) hl3).trans g0
      have t1 := (HB.out.cell (p := ⟨w.heap.size, 1, none⟩) hl3).trans g1
      have t2 := (HB.out.cell (p := ⟨w.heap.size, 2, none⟩) hl3).trans g2
      have lt0 := World.block_lt_of_cell? _ _ t0
      have HU := Lib.hid hru
      have HL1 := Lib.hid (HLS.out wr HBW.out u (L[k]?.getD []) hru)
      have HDW := Lib.hid (show dwOk p (L[k]?.getD []) = (setOk (L[k]?.getD []) 1000 && !((L[k]?.getD []).any (noL p))) from by unfold dwOk; rw [HPO.out]; rfl)
      have HTK := Lib.hid (HOT.out k hlt)
      have HNX := Lib.hid (show k < L.length → _ from fun h => @pcT_next p L k h)
      have HST := Lib.hid (fun h => upto_succ HK.out (k := k) h)
      obtain ⟨au, cu, nu, -, rfl, -, -, -⟩ := hru.opn
      have hkl : k < L.length := by rw [HN7.out]; exact hlt
      have HNX2 := Lib.hid (HNX.out hkl)
      clear hru hkl HNX
      generalize L[k]?.getD [] = ys at *
      rw [← HDW.out] at HL1
      cases hdw : dwOk p ys
      · have HE := Lib.hid (HTK.out hdw)
        have HE2 := Lib.hid (HRN.out HE.out)
        rw [hdw] at HL1
        clear hdw
        go_wp2_with fail
        refine HL1.out.mono ?_
        rintro e w6 ⟨rfl, b6⟩
        have HB6 := Lib.hid (HBW.out.trans (b6.mono HBW.out.size))
        clear b6
        go_wp2
        go_ret2
        exact ⟨_, by rw [HE.out]; rfl, by rw [HE2.out]; exact Ofr.nil _ _ _, HB6.out⟩
      · have HS2 := Lib.hid (HST.out hdw)
        have HF := Lib.hid (fun w' (hb : Below wr.heap.size wr w') => HFE.out w' (HBW.out.trans (hb.mono HBW.out.size)) (.slice au nu cu) ys (HU.out.belowAll hb) hdw)
        rw [hdw] at HL1
        generalize fewL p ys = F at *
        clear hdw HTK HST
        go_wp2_with fail
        refine HL1.out.mono ?_
        rintro e w6 ⟨rfl, b6⟩
        have s0 := (b6.cell (p := ⟨w.heap.size, 0, none⟩) lt0).trans t0
        have s1 := (b6.cell (p := ⟨w.heap.size, 1, none⟩) lt0).trans t1
        have s2 := (b6.cell (p := ⟨w.heap.size, 2, none⟩) lt0).trans t2
        have HF6 := Lib.hid (HF.out w6 b6)
        have HB6 := Lib.hid b6
        clear b6
        go_wp2_with fail
        refine HF6.out.mono ?_
        rintro e w7 ⟨v7, rfl, o7, b7⟩
        have HB7 := Lib.hid (HB6.out.trans (b7.mono HB6.out.size))
        have HO7 := Lib.hid (Newd.one (o7.mono HB6.out.size).ofr)
        obtain ⟨au7, cu7, nu7, -, rfl, -, -, -⟩ := o7.rd.opn
        clear b7 o7
        go_wp2_with (at_builtin; go_loud (refine wpList_grow rfl (.tmp 45) (.tmp 47) 63 29 rfl Tryz.underlying63 (.slice none 0 0) 1 24 Tryz.infoRows rfl (by decide) (by decide) w3.heap.size k (.slice a10 k c10) _ _ rfl HG.out HB.out.size HB7.out [.slice au7 nu7 cu7] HO7.out rfl (by simp [Value.oneCell']) rfl (by omega) ?_); intro v8 w8 G8 gr8 l8; have HG8 := Lib.hid G8; have HB8 := Lib.hid ((HB.out.trans (HB7.out.mono HB.out.size)).grown gr8 (Nat.le_trans HB.out.size HB7.out.size) (fun q hq => (HG.out.own q hq).1)); clear G8 gr8 l8)
        have HG9 := Lib.hid (show Grw w8 w3.heap.size 29 1 v8 (k + 1) (((L.take (k + 1)).map (fewL p)).map inD) from by rw [HNX2.out, List.map_append]; exact HG8.out)
        go_roundw
        case rel => exact ⟨k + 1, hlt, by go_num, HG9.out, HS2.out, HB8.out⟩
        case measure => simp [intOf]; omega
    · obtain rfl : n7 = k := by omega
      have HE := Lib.hid (HOY2.out HK.out)
      have HE2 := Lib.hid (show R = (L.take n7).map (fewL p) from by rw [HRY.out HE.out, List.take_of_length_le (Nat.le_of_eq HN7.out)])
      go_wp2
      go_ret2
      exact ⟨_, by rw [HE.out]; rfl, by rw [HE2.out]; exact HG.out.ofr.mono HB3.out.size, HBW.out⟩
set_option maxHeartbeats 3200000 in
theorem specPrb_any (v va : Value) (p : Pln) (zs : List Alm) (gap : Int) (w : World) (hp : PlnR w v p) (ha : Rdt w (flt 2 almE zs) va) (hfb : ∀ i : Nat, (lgA p i).fb.length ≤ 1100000) :
    Calls Tryz.prog 42 #[v, va, .int .i64 gap] w (PcP p zs gap w) := by
  have HAL := Lib.hid (fun w' (hb : Below w.heap.size w w') => specAlb_any va zs gap w' (ha.behind hb))
  have HVP := Lib.hid (fun w' (hb : Below w.heap.size w w') => l9Good_any v p w' (hp.behind hb) hfb)
  have HFE := Lib.hid (fun w' (hb : Below w.heap.size w w') vd d (hd : Rd w' vd d) => specFew_any v vd p d w' (hp.behind hb) hd hfb)
  obtain ⟨a1, m1, c1, a2, m2, c2, a3, m3, c3, hv⟩ : ∃ a1 m1 c1 a2 m2 c2 a3 m3 c3, v = .agg #[.slice a1 m1 c1, .slice a2 m2 c2, .slice a3 m3 c3] := by
    obtain ⟨u1, u2, u3, e, r⟩ := id hp
    obtain ⟨a1, m1, c1, a2, m2, c2, a3, m3, c3, e1, e2, e3⟩ := PlB.slices (show PlnR w (.agg #[u1, u2, u3]) p from by rw [← e]; exact hp)
    exact ⟨a1, m1, c1, a2, m2, c2, a3, m3, c3, by rw [e, e1, e2, e3]⟩
  subst hv
  obtain ⟨aa, na, ca, rfl, -, -, -, -⟩ := flt_opn (m := 2) (enc := almE) (fun _ => rfl) (by omega) nilA ha
  have HRN := Lib.hid (@pcR_no p zs gap)
  have HRY := Lib.hid (@pcR_yes p zs gap)
  have HOA := Lib.hid (@pcOk_alb p zs gap)
  have HOP := Lib.hid (@pcOk_pln p zs gap)
  have HOT := Lib.hid (fun k hk => @pcOk_at p zs gap k hk)
  have HOY := Lib.hid (@pcOk_all p zs gap)
  have HL40 := Lib.hid (albR_len40 zs gap)
  have HFY := Lib.hid (fun d (h : dwOk p d = true) => show ffR p d = fewL p d from by unfold ffR; rw [if_pos h])
  obtain ⟨bx, bc, blt, -⟩ := box_facts w #[.slice a1 m1 c1, .slice a2 m2 c2, .slice a3 m3 c3] 38
  have q0 := bc 0 _ rfl
  have q1 := bc 1 _ rfl
  have q2 := bc 2 _ rfl
  have HBX := Lib.hid bx
  unfold PcP
  unfold AlbP at HAL
  generalize pcR p zs gap = R at *
  generalize pcOk p zs gap = ok at *
  generalize albR zs gap = L at *
  generalize albOk zs gap = oka at *
  clear bx bc hp ha hfb
  go_enter Tryz.func42, Tryz.ntmps42
  go_wp2_with fail
  generalize w.alloc (.cells #[.slice a1 m1 c1, .slice a2 m2 c2, .slice a3 m3 c3] 38) = w1 at *
  refine (HAL.out w1 HBX.out).mono ?_
  rintro e w2 ⟨v2, rfl, o2, b2⟩
  obtain ⟨a7, n7, c7, rfl, HN7, -, hn7, -⟩ := ssD_opn o2.rd
  have HR2 := Lib.hid (fun wx (hk : Below w2.heap.size w2 wx) i hi => ssD_row (i := i) (o2.rd.behind hk) rfl hi)
  have HB2 := Lib.hid (HBX.out.trans (b2.mono HBX.out.size))
  have b3 := (Below.refl w2.heap.size w2).alloc (Nat.le_refl _) (.cells #[] 29)
  have hl2 := Nat.lt_of_lt_of_le blt b2.size
  have f0 := (b3.cell (p := ⟨w.heap.size, 0, none⟩) hl2).trans ((b2.cell (p := ⟨w.heap.size, 0, none⟩) blt).trans q0)
  have f1 := (b3.cell (p := ⟨w.heap.size, 1, none⟩) hl2).trans ((b2.cell (p := ⟨w.heap.size, 1, none⟩) blt).trans q1)
  have f2 := (b3.cell (p := ⟨w.heap.size, 2, none⟩) hl2).trans ((b2.cell (p := ⟨w.heap.size, 2, none⟩) blt).trans q2)
  have HG0 := Lib.hid (Grw.start (w := w2) (base := w2.heap.size) (size := 1) 29 (Nat.le_refl _))
  have HB3 := Lib.hid b3
  have HBW3 := Lib.hid (HB2.out.trans (b3.mono HB2.out.size))
  clear b2 b3 o2 q0 q1 q2 blt
  cases oka
  · have HE := Lib.hid (HOA.out rfl)
    have HE2 := Lib.hid (HRN.out HE.out)
    go_wp2
    go_ret2
    exact ⟨_, by rw [HE.out]; rfl, by rw [HE2.out]; exact HG0.out.ofr.mono HB2.out.size, HBW3.out⟩
  have HV2 := Lib.hid (HVP.out _ HBW3.out)
  have hl3 := World.block_lt_of_cell? _ _ f0
  cases hpo : plnOk p
  · have HE := Lib.hid (HOP.out hpo)
    have HE2 := Lib.hid (HRN.out HE.out)
    rw [hpo] at HV2
    clear hpo
    go_wp2_with fail
    generalize w2.alloc (.cells #[] 29) = w3 at *
    refine HV2.out.mono ?_
    rintro e w4 ⟨rfl, b4⟩
    have HB4 := Lib.hid (HBW3.out.trans (b4.mono HBW3.out.size))
    have HG4 := Lib.hid (HG0.out.below b4)
    clear b4
    go_wp2
    go_ret2
    exact ⟨_, by rw [HE.out]; rfl, by rw [HE2.out]; exact HG4.out.ofr.mono HB2.out.size, HB4.out⟩
  have HPO := Lib.hid hpo
  have HOY2 := Lib.hid (HOY.out rfl hpo)
  rw [hpo] at HV2
  rw [HN7.out] at HOT HOY2 HL40
  have h40 : n7 ≤ 40 := HL40.out
  clear hpo HOY HOA HOP
  go_wp2_with fail
  generalize w2.alloc (.cells #[] 29) = w3 at *
  refine HV2.out.mono ?_
  rintro e w4 ⟨rfl, b4⟩
  have g0 := (b4.cell (p := ⟨w.heap.size, 0, none⟩) hl3).trans f0
  have g1 := (b4.cell (p := ⟨w.heap.size, 1, none⟩) hl3).trans f1
  have g2 := (b4.cell (p := ⟨w.heap.size, 2, none⟩) hl3).trans f2
  have HG4 := Lib.hid (HG0.out.below b4)
  have HB4 := Lib.hid (HB3.out.trans (b4.mono HB3.out.size))
  clear b4 f0 f1 f2 hl3
  go_wp2
  go_loopw [10, 11, 12, 13, 14] (fun s10 i _ _ _ wr => ∃ (k : Nat), k ≤ n7 ∧ i = .int .i64 k ∧ Hid (Grw wr w2.heap.size 29 1 s10 k (((L.take k).map (fewL p)).map inD)) ∧ Hid (∀ j, j < k → dwOk p (L[j]?.getD []) = true) ∧ Hid (Below w2.heap.size w2 wr) ∧ wr.cell? ⟨w.heap.size, 0, none⟩ = some (.slice a1 m1 c1) ∧ wr.cell? ⟨w.heap.size, 1, none⟩ = some (.slice a2 m2 c2) ∧ wr.cell? ⟨w.heap.size, 2, none⟩ = some (.slice a3 m3 c3)) (fun _ i _ _ _ _ => n7 - (intOf i).toNat)
  case atStart => exact ⟨0, Nat.zero_le _, rfl, HG4.out, fun j hj => absurd hj (Nat.not_lt_zero j), HB4.out, g0, g1, g2⟩
  case round =>
    clear g0 g1 g2
    obtain ⟨k, hk, rfl, HG, HK, HB, t0, t1, t2⟩ := hrel
    obtain ⟨-, a10, c10, rfl⟩ := HG.out.form
    have HBW := Lib.hid (HB2.out.trans (HB.out.mono HB2.out.size))
    by_cases hlt : k < n7
    · have hltI : (k : Int) < (n7 : Int) := by omega
      obtain ⟨b, off, u, rfl, hu, hru⟩ := HR2.out wr HB.out k hlt
      have lt0 := World.block_lt_of_cell? _ _ t0
      have ltb := World.block_lt_of_cell? _ _ hu
      have HTK := Lib.hid (HOT.out k hlt)
      have HST := Lib.hid (fun h => upto_succ HK.out (k := k) h)
      have hkl : k < L.length := by rw [HN7.out]; exact hlt
      have HNX2 := Lib.hid (@pcT_next p L k hkl)
      have HFP := Lib.hid (fun w' (hb : Below wr.heap.size wr w') => (HFE.out w' (HBW.out.trans (hb.mono HBW.out.size)) u (L[k]?.getD []) (hru.belowAll hb)).mono (show ∀ (e : Ending) (w5 : World), FfP p (L[k]?.getD []) w' e w5 → (∃ v', e = .returned (.tuple #[v', .bool (ffB p (L[k]?.getD [])), .bool (dwOk p (L[k]?.getD []))]) ∧ Ofr w5 wr.heap.size (inD (ffR p (L[k]?.getD []))) v' ∧ Below wr.heap.size wr w5) from fun e w5 ⟨v', h1, h2, h3⟩ => ⟨v', h1, h2.mono hb.size, hb.trans (h3.mono hb.size)⟩))
      have HFL := Lib.hid (HFY.out (L[k]?.getD []))
      obtain ⟨au, cu, nu, -, rfl, -, -, -⟩ := hru.opn
      have HS := Lib.hid (fun (w' : World) (hb : Below wr.heap.size wr w') => show Below wr.heap.size wr w' ∧ w'.cell? ⟨w.heap.size, 0, none⟩ = some (.slice a1 m1 c1) ∧ w'.cell? ⟨w.heap.size, 1, none⟩ = some (.slice a2 m2 c2) ∧ w'.cell? ⟨w.heap.size, 2, none⟩ = some (.slice a3 m3 c3) ∧ w'.cell? ⟨b, off + k, none⟩ = some (.slice au nu cu) from
        ⟨hb, (hb.cell (p := ⟨w.heap.size, 0, none⟩) lt0).trans t0, (hb.cell (p := ⟨w.heap.size, 1, none⟩) lt0).trans t1, (hb.cell (p := ⟨w.heap.size, 2, none⟩) lt0).trans t2, (hb.cell (p := ⟨b, off + k, none⟩) ltb).trans hu⟩)
      have s0 : Below wr.heap.size wr wr.drew := (Below.refl wr.heap.size wr).drew
      clear hru hkl t0 t1 t2 hu
      generalize L[k]?.getD [] = ys at *
      generalize ffB p ys = FB at *
      generalize fewL p ys = F at *
      generalize hfr : ffR p ys = FR at *
      cases hdw : dwOk p ys
      · have HE := Lib.hid (HTK.out hdw)
        have HE2 := Lib.hid (HRN.out HE.out)
        rw [hdw] at HFP
        clear hdw hfr
        go_wp2
        go_region_held3 (fun w' => Below wr.heap.size wr w' ∧ w'.cell? ⟨w.heap.size, 0, none⟩ = some (.slice a1 m1 c1) ∧ w'.cell? ⟨w.heap.size, 1, none⟩ = some (.slice a2 m2 c2) ∧ w'.cell? ⟨w.heap.size, 2, none⟩ = some (.slice a3 m3 c3) ∧ w'.cell? ⟨b, off + k, none⟩ = some (.slice au nu cu))
          (first | exact HS.out _ (by assumption))
          (first | (go_at_call 35; (with_reducible refine (HFP.out _ (And.left (by assumption))).mono ?_); rintro e w9 ⟨v9, rfl, o9, s9⟩; obtain ⟨a9, c9, n9, -, rfl, -, -, -⟩ := o9.own.rd.opn))
        have HB9 := Lib.hid (HBW.out.trans (s9.mono HBW.out.size))
        have HG9 := Lib.hid (Grw.start (w := w9) (base := w.heap.size) (size := 1) 29 HB9.out.size)
        have HB10 := Lib.hid (HB9.out.alloc HB9.out.size (.cells #[] 29))
        clear o9 s9 s0
        go_wp2
        go_ret2
        exact ⟨_, by rw [HE.out]; rfl, by rw [HE2.out]; exact HG9.out.ofr, HB10.out⟩
      · have HS2 := Lib.hid (HST.out hdw)
        have HFE2 := Lib.hid (show FR = F from HFL.out hdw)
        rw [hdw] at HFP
        clear hdw HTK HST hfr
        go_wp2
        go_region_held3 (fun w' => Below wr.heap.size wr w' ∧ w'.cell? ⟨w.heap.size, 0, none⟩ = some (.slice a1 m1 c1) ∧ w'.cell? ⟨w.heap.size, 1, none⟩ = some (.slice a2 m2 c2) ∧ w'.cell? ⟨w.heap.size, 2, none⟩ = some (.slice a3 m3 c3) ∧ w'.cell? ⟨b, off + k, none⟩ = some (.slice au nu cu))
          (first | exact HS.out _ (by assumption))
          (first | (go_at_call 35; (with_reducible refine (HFP.out _ (And.left (by assumption))).mono ?_); rintro e w9 ⟨v9, rfl, o9, s9⟩; obtain ⟨a9, c9, n9, -, rfl, -, -, -⟩ := o9.own.rd.opn))
        have HB7 := Lib.hid s9
        have HO7 := Lib.hid (Newd.one o9)
        obtain ⟨k0, k1, k2, -⟩ := (HS.out _ s9).2
        clear o9 s9 s0
        go_wp2_with (at_builtin; go_loud (refine wpList_grow rfl (.tmp 49) (.tmp 51) 63 29 rfl Tryz.underlying63 (.slice none 0 0) 1 24 Tryz.infoRows rfl (by decide) (by decide) w2.heap.size k (.slice a10 k c10) _ _ rfl HG.out HB.out.size HB7.out [.slice a9 n9 c9] HO7.out rfl (by simp [Value.oneCell']) rfl (by omega) ?_); intro v8 w8 G8 gr8 l8; have HG8 := Lib.hid G8; have HB8 := Lib.hid ((HB.out.trans (HB7.out.mono HB.out.size)).grown gr8 (Nat.le_trans HB.out.size HB7.out.size) (fun q hq => (HG.out.own q hq).1)); have i0 := (gr8.cell_far ⟨w.heap.size, 0, none⟩ (World.block_lt_of_cell? _ _ k0) (fun e => Nat.lt_irrefl _ (Nat.lt_of_lt_of_le hl2 (HG.out.own _ e.symm).1))).trans k0; have i1 := (gr8.cell_far ⟨w.heap.size, 1, none⟩ (World.block_lt_of_cell? _ _ k1) (fun e => Nat.lt_irrefl _ (Nat.lt_of_lt_of_le hl2 (HG.out.own _ e.symm).1))).trans k1; have i2 := (gr8.cell_far ⟨w.heap.size, 2, none⟩ (World.block_lt_of_cell? _ _ k2) (fun e => Nat.lt_irrefl _ (Nat.lt_of_lt_of_le hl2 (HG.out.own _ e.symm).1))).trans k2; clear G8 gr8 l8)
        have HG9 := Lib.hid (show Grw w8 w2.heap.size 29 1 v8 (k + 1) (((L.take (k + 1)).map (fewL p)).map inD) from by rw [HNX2.out, List.map_append, ← HFE2.out]; exact HG8.out)
        go_roundw
        case rel => exact ⟨k + 1, hlt, by go_num, HG9.out, HS2.out, HB8.out, i0, i1, i2⟩
        case measure => simp [intOf]; omega
    · obtain rfl : n7 = k := by omega
      have HE := Lib.hid (HOY2.out HK.out)
      have HE2 := Lib.hid (show R = (L.take n7).map (fewL p) from by rw [HRY.out HE.out, List.take_of_length_le (Nat.le_of_eq HN7.out)])
      go_wp2
      go_ret2
      exact ⟨_, by rw [HE.out]; rfl, by rw [HE2.out]; exact HG.out.ofr.mono HB2.out.size, HBW.out⟩
theorem pcR_tot {p : Pln} {zs : List Alm} {gap : Int} : tot (pcR p zs gap) ≤ 1048576 := by
  unfold pcR
  split
  · rename_i h
    unfold pcOk at h
    simp only [Bool.and_eq_true, List.all_eq_true] at h
    have h1 := albR_len40 zs gap
    have h2 : ∀ L : List (List Int), (∀ x ∈ L, dwOk p x = true) → tot (L.map (fewL p)) ≤ L.length * 23 := fun L => by
      induction L with
      | nil => intro _; simp [tot]
      | cons x L ih =>
        intro hL
        have e1 := ih fun y hy => hL y (List.mem_cons_of_mem _ hy)
        have e2 : (fewL p x).length ≤ 23 := by
          have := @ffR_len p x
          unfold ffR at this
          rwa [if_pos (hL x (List.mem_cons_self ..))] at this
        unfold tot at *
        rw [List.map_cons, List.map_cons, List.sum_cons, List.length_cons, Nat.succ_mul]
        omega
    have := h2 (albR zs gap) h.2.2
    omega
  · simp [tot]
end Go.Proofs.YtmkkdenhjfjmgaaGreat
namespace Go.Proofs.YtmkkdenhjfjmgaaGreat
open Go.RowKit Go.Sort Go.WideShapes
set_option maxRecDepth 100000
section
variable {H : Type} {enc : TypeId × Value → H} {W : World} {r : Reach} {b0 : Nat} {v : Value} {d : DataW H} {ps : List MemPlace}
instance : Inhabited Alm := ⟨nilA⟩
theorem opens_alm : Opens enc Tryz.prog W 123 (fun f : Alm => (almE f).map Dt.leaf) :=
  opens_map' (opens_struct2 (k0 := 1) (k1 := 1) Tryz.underlying123 (by kernel_rfl) rfl rfl (by kernel_rfl) (by kernel_rfl) opens_int_ opens_int_) (fun p => ⟨p.1, p.2⟩) (fun _ => rfl)
theorem open_alarms (hval : Value.okWide Tryz.prog W r b0 77 v) (h : DataW.Trod enc Tryz.prog W 0 (fun _ => true) true 77 v d ps) : ∃ zs : List Alm, Rwt W (flt 2 almE zs) v :=
  opens_val Tryz.underlying77 hval (opens_flt (m := 2) (en := almE) (fun _ => rfl) (by decide) Tryz.underlying77 (by kernel_rfl) opens_alm) h
end
end Go.Proofs.YtmkkdenhjfjmgaaGreat
