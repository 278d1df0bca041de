/- Walk: the reference's AlarmBursts. -/
import Derived.Test.YtphhenlokbodnaaAlbV
import Derived.Deep.RegionWith
namespace Go.Proofs.Ytphhenlokbodnaa
open Go.RowKit Go.Sort
set_option maxRecDepth 100000
theorem rwS_le (zs : List Alm) (gap : Int) (k : Nat) : (rwS zs gap k).length ≤ k := by rw [rwS_len]; exact rwA_len zs gap k
theorem rwS_pos (zs : List Alm) (gap : Int) (k : Nat) (h : 0 < k) : 0 < (rwS zs gap k).length := by rw [rwS_len]; exact rwA_pos zs gap k h
theorem made_inD (w : World) : Ofr (w.alloc (.cells #[] 3)) w.heap.size (inD []) (.slice (some ⟨w.heap.size, 0, none⟩) 0 0) := Ofr.of_row (us := []) (World.ownsRow_made (e := 3) (size := 1) w #[] 0 (Nat.le_refl _) (Nat.zero_le _) (by simp))
theorem grown_below {w w' : World} {r : Option Nat} (h : Below w.heap.size w w') : w.grownBy w' r := ⟨h.os, h.tape, h.output, h.size, fun k hk _ => h.block k hk⟩

set_option maxHeartbeats 3200000 in
theorem specAlb_any (v : Value) (zs : List Alm) (gap : Int) (w : World) (h : Rdt w (flt 2 almE zs) v) :
    Calls Try.prog 26 #[v, .int .i64 gap] w (AlbP zs gap w) := by
  obtain ⟨a0, n0, c0, rfl, HN, hc, hn, ha⟩ := flt_opn (m := 2) (enc := almE) (fun _ => rfl) (by omega) nilA h
  have HA := Lib.hid ha
  have HX := Lib.hid (fun w' v (o : Ofr w' w.heap.size (ssD []) v) (hb : Below w.heap.size w w') (e : albOk zs gap = false) => AlbP.no (zs := zs) (gap := gap) (w := w) (w' := w') e o hb)
  have HSZ := Lib.hid (@albOk_sz zs gap)
  have HGP := Lib.hid (@albOk_gap zs gap)
  have HAT := Lib.hid (fun i hi h => @albOk_at zs gap i hi h)
  have HAL := Lib.hid (@albOk_all zs gap)
  have HYE := Lib.hid (fun w' v e o b => @AlbP.yes zs gap w w' v e o b)
  rw [HN.out] at HSZ HAT HAL HYE
  clear ha h
  go_enter Try.func26, Try.ntmps26
  have HG0 := Lib.hid (Grw.start (w := w) (base := w.heap.size) (size := 1) 39 (Nat.le_refl _))
  have HB0 := Lib.hid ((Below.refl w.heap.size w).alloc (Nat.le_refl _) (.cells #[] 39))
  by_cases h40 : n0 ≤ 40
  case neg =>
    have hd : decide (40 < (n0 : Int)) = true := decide_eq_true (by omega)
    have hd2 : decide (40 < n0) = true := decide_eq_true (by omega)
    have HF := Lib.hid (HSZ.out h40)
    clear h40
    go_wp2
    go_ret2
    exact HX.out _ _ HG0.out.ofr HB0.out HF.out
  have hd : decide (40 < (n0 : Int)) = false := decide_eq_false (by omega)
  have hd2 : decide (40 < n0) = false := decide_eq_false (by omega)
  cases hin : inB gap 0 1000000
  · have HF := Lib.hid (HGP.out hin)
    go_wp2_with (go_at_call 48; refine (l1In_any _ _ _ _).mono ?_; rintro e w' ⟨rfl, rfl⟩; rw [hin])
    go_ret2
    exact HX.out _ _ HG0.out.ofr HB0.out HF.out
  have HAL2 := Lib.hid (HAL.out h40 hin)
  go_wp2_with (go_at_call 48; refine (l1In_any _ _ _ _).mono ?_; rintro e w' ⟨rfl, rfl⟩; rw [hin])
  generalize w.alloc (.cells #[] 39) = w1 at *
  clear hd hd2 hin HSZ HGP HAL
  go_loopw [6, 7, 8] (fun s6 i _ wr => ∃ k : Nat, k ≤ n0 ∧ i = .int .i64 k ∧ Hid (∀ i, i < k → alOk zs i = true) ∧ Hid (Below w.heap.size w wr) ∧ Hid (Grw wr w.heap.size 39 1 s6 (rwS zs gap k).length ((rwS zs gap k).map inD))) (fun _ i _ _ => n0 - (intOf i).toNat)
  case atStart => exact ⟨0, Nat.zero_le _, rfl, fun i hi => by omega, HB0.out, HG0.out⟩
  case round =>
    obtain ⟨k, hk, rfl, HK, HB, HG⟩ := hrel
    obtain ⟨-, aR, cR, rfl⟩ := HG.out.form
    by_cases hlt : k < n0
    · have hltI : (k : Int) < (n0 : Int) := by omega
      obtain ⟨b, off, rfl, hbs, hcs⟩ := HA.out (by omega)
      have HC := Lib.hid (fun i hi r u hu => (HB.out.cell (p := ⟨b, off + i * 2 + r, none⟩) hbs).trans (hcs i hi r u hu))
      have e0 := HC.out k hlt 0 _ rfl
      have e1 := HC.out k hlt 1 _ rfl
      simp only [Nat.add_zero] at e0
      have HNO := Lib.hid (HAT.out k hlt)
      have HST := Lib.hid (fun h => upto_succ HK.out (k := k) h)
      have HV := Lib.hid (show alOk zs k = (inB (zs[k]?.getD nilA).t 0 1000000 && (inB (zs[k]?.getD nilA).l 1 999 && !(decide (0 < k) && decide ((zs[k]?.getD nilA).t < (zs[k - 1]?.getD nilA).t)))) from rfl)
      have HNB := Lib.hid (show newB zs gap k = (decide (k = 0) || decide (gap < (zs[k]?.getD nilA).t - (zs[k - 1]?.getD nilA).t)) from rfl)
      have HNX := Lib.hid (show rwS zs gap (k + 1) = addL (rwB zs gap k (rwS zs gap k)) (putI (lastL (rwB zs gap k (rwS zs gap k))) (zs[k]?.getD nilA).l) from rfl)
      have HPT := Lib.hid (show ∀ j, j < k → 0 ≤ (zs[j]?.getD nilA).t ∧ (zs[j]?.getD nilA).t ≤ 1000000 from fun j hj => by
        have := HK.out j hj
        unfold alOk alA at this
        simp only [Bool.and_eq_true] at this
        exact inB_true this.1)
      have HRL := Lib.hid (rwS_le zs gap k)
      have HRP := Lib.hid (rwS_pos zs gap k)
      have HRR := Lib.hid (rwS_row zs gap k)
      generalize zs[k]?.getD nilA = z at *
      generalize rwS zs gap k = R at *
      obtain ⟨bx, bc, blt, -⟩ := box_facts wr #[.int .i64 z.t, .int .i64 z.l] 86
      have q0 := bc 0 _ rfl
      have q1 := bc 1 _ rfl
      have HB1 := Lib.hid (HB.out.trans (bx.mono HB.out.size))
      have HG1 := Lib.hid (HG.out.below bx)
      have HBX := Lib.hid bx
      have HC1 := Lib.hid (fun i hi r u hu => (bx.cell (p := ⟨b, off + i * 2 + r, none⟩) (Nat.lt_of_lt_of_le hbs HB.out.size)).trans (HC.out i hi r u hu))
      clear bx bc hcs
      have HI := Lib.hid (fun w => l1In_any z.t 0 1000000 w)
      have HJ := Lib.hid (fun w => l1In_any z.l 1 999 w)
      cases hti : inB z.t 0 1000000
      · have HF := Lib.hid (HNO.out (by rw [HV.out, hti]; rfl))
        rw [hti] at HI
        go_wp2
        generalize wr.alloc (.cells #[.int .i64 z.t, .int .i64 z.l] 86) = w2 at *
        have j0 := rg q0
        have j1 := rg q1
        clear q0 q1 e0 e1
        refine wp_region_quiet_below (by kernel_rfl) (by kernel_rfl) ?_
        repeat (go_big_quiet_step (first | (go_at_call 48; exact rg_same (HI.out _))))
        refine wpQuiet_nil ?_
        rintro _ ⟨⟨dq, osq⟩, rfl⟩
        have b3 := below_regrown w2 dq osq
        generalize grow (redrawn w2 dq) osq = w3 at *
        go_wp2
        go_ret2
        exact HX.out _ _ (Grw.start 39 (Nat.le_trans HB1.out.size b3.size)).ofr ((HB1.out.trans (b3.mono HB1.out.size)).alloc (Nat.le_trans HB1.out.size b3.size) _) HF.out
      rw [hti] at HI HV
      have hzt := inB_true hti
      clear hti
      cases hli : inB z.l 1 999
      · have HF := Lib.hid (HNO.out (by rw [HV.out, hli]; rfl))
        rw [hli] at HJ
        go_wp2
        generalize wr.alloc (.cells #[.int .i64 z.t, .int .i64 z.l] 86) = w2 at *
        have j0 := rg q0
        have j1 := rg q1
        clear q0 q1 e0 e1
        refine wp_region_quiet_below (by kernel_rfl) (by kernel_rfl) ?_
        repeat (go_big_quiet_step (first | (go_at_call 48; first | (with_reducible exact rg_same (HI.out _)) | (with_reducible exact rg_same (HJ.out _)))))
        refine wpQuiet_nil ?_
        rintro _ ⟨⟨dq, osq⟩, rfl⟩
        have b3 := below_regrown w2 dq osq
        generalize grow (redrawn w2 dq) osq = w3 at *
        go_wp2
        go_ret2
        exact HX.out _ _ (Grw.start 39 (Nat.le_trans HB1.out.size b3.size)).ofr ((HB1.out.trans (b3.mono HB1.out.size)).alloc (Nat.le_trans HB1.out.size b3.size) _) HF.out
      rw [hli] at HJ HV
      clear hli
      by_cases hk0 : k = 0
      · have hk0b : decide (0 < k) = false := decide_eq_false (by omega)
        have hk0c : decide (0 < (k : Int)) = false := decide_eq_false (by omega)
        have hk0d : decide ((k : Int) = 0) = true := decide_eq_true (by omega)
        have hk0e : decide (k = 0) = true := decide_eq_true (by omega)
        have hk0f : ((k : Int) == 0) = true := by rw [beq_iff_eq]; omega
        have HS := Lib.hid (HST.out (by rw [HV.out, hk0b]; rfl))
        have HN1 := Lib.hid (HNX.out)
        have HR1 := Lib.hid (show rwB zs gap k R = R ++ [[]] by unfold rwB; rw [HNB.out, hk0e]; rfl)
        clear hk0
        go_wp2
        generalize wr.alloc (.cells #[.int .i64 z.t, .int .i64 z.l] 86) = w2 at *
        have j0 := rg q0
        have j1 := rg q1
        have j0' := q0
        have j1' := q1
        clear q0 q1 e0 e1
        refine wp_region_quiet_below (by kernel_rfl) (by kernel_rfl) ?_
        repeat (go_big_quiet_step (first | (go_at_call 48; first | (with_reducible exact rg_same (HI.out _)) | (with_reducible exact rg_same (HJ.out _)))))
        refine wpQuiet_nil ?_
        rintro _ ⟨⟨dq, osq⟩, rfl⟩
        have b3 := below_regrown w2 dq osq
        have q0 := j0 dq osq
        have q1 := j1 dq osq
        generalize grow (redrawn w2 dq) osq = w3 at *
        clear j0 j1
        go_wp2
        have j0 := rg q0
        have j1 := rg q1
        refine wp_region_quiet_below (by kernel_rfl) (by kernel_rfl) ?_
        repeat (go_big_quiet_step (fail))
        refine wpQuiet_nil ?_
        rintro _ ⟨⟨dq2, osq2⟩, rfl⟩
        have b4 := below_regrown w3 dq2 osq2
        have q1 := j1 dq2 osq2
        generalize grow (redrawn w3 dq2) osq2 = w4 at *
        clear j0 j1 q0
        have HB4 := Lib.hid ((HB1.out.trans (b3.mono HB1.out.size)).trans (b4.mono (Nat.le_trans HB1.out.size b3.size)))
        have HG4 := Lib.hid ((HG1.out.below b3).below b4)
        go_wp2_with (at_builtin; refine StopAt.go ?_)
        unfold StopAt
        refine wpList_grow rfl (.tmp 70) (.tmp 72) 52 39 rfl Try.underlying52 (.slice none 0 0) 1 24 Try.infoRows rfl (by decide) (by decide) w.heap.size R.length (.slice aR R.length cR) _ _ (by rfl) HG4.out HB4.out.size ((Below.refl _ _).alloc (Nat.le_refl _) (.cells #[] 3)) [.slice (some ⟨w4.heap.size, 0, none⟩) 0 0] (Newd.one (d := inD []) (made_inD w4)) rfl (by simp [Value.oneCell']) (show Value.slice (some ⟨w4.heap.size + 1, 0, none⟩) 1 1 = Value.slice (some ⟨(w4.alloc (.cells #[] 3)).heap.size, 0, none⟩) 1 1 by simp) (by have := HRL.out; omega) ?_
        intro v5 w5 hG5 hgr5 hlie5
        have hgr5 := (World.grownBy_alloc w4 (.cells #[] 3) (Value.slice aR R.length cR).ownBlock).trans' hgr5
        have HG6 := Lib.hid (show Grw w5 w.heap.size 39 1 v5 (rwB zs gap k R).length ((rwB zs gap k R).map inD) by rw [HR1.out, List.map_append, List.length_append]; exact hG5)
        have HB6 := Lib.hid (HB4.out.grown hgr5 HB4.out.size (fun g hg => (HG4.out.own g hg).1))
        have hbx5 : wr.heap.size < w5.heap.size := Nat.lt_of_lt_of_le (Nat.lt_of_lt_of_le blt (Nat.le_trans b3.size b4.size)) hgr5.size
        have q5 := (hgr5.cell_far ⟨wr.heap.size, 1, none⟩ (World.block_lt_of_cell? _ _ q1) (fun e => by have := HG.out.own _ e.symm; exact Nat.lt_irrefl _ this.2)).trans q1
        have HRB := Lib.hid (show 0 < (rwB zs gap k R).length ∧ (rwB zs gap k R).length ≤ k + 1 by have h1 := HRL.out; rw [HR1.out, List.length_append]; simp only [List.length_cons, List.length_nil]; omega)
        have HRW := Lib.hid (show (lastL (rwB zs gap k R)).length ≤ k by rw [HR1.out]; simp [lastL])
        clear hG5 hgr5 hlie5 q1 b3 b4
        clear HN1 HR1 HNB HV HI HJ HRL HRP HRR hk0b hk0c hk0d hk0e hk0f HPT HC HC1
-- TAIL
        generalize rwB zs gap k R = RB at *
        obtain ⟨j, hj⟩ : ∃ j, RB.length = j + 1 := ⟨RB.length - 1, by have := HRB.out.1; omega⟩
        have hjk : j ≤ k := by have := HRB.out.2; omega
        have HJL := Lib.hid (show j < RB.length by omega)
        have HNX2 := Lib.hid (show rwS zs gap (k + 1) = RB.set j (putI (RB[j]?.getD []) z.l) by rw [HNX.out]; unfold addL lastL; rw [hj]; rfl)
        have HRW2 := Lib.hid (show (RB[j]?.getD []).length ≤ k by have := HRW.out; unfold lastL at this; rw [hj] at this; exact this)
        obtain ⟨g, cap, u, rfl, hu, hgl, ho, hne, hput⟩ := HG6.out.deepI HJL.out HB6.out.size HB6.out
        have HPUT := Lib.hid hput
        have HO := Lib.hid ho
        have HNE := Lib.hid hne
        generalize hM : RB.length = m at *
        have hm63 : m ≤ 9223372036854775807 := by omega
        have f1 : IntKind.i64.wrap ((m : Int) - 1) = (j : Int) := by rw [IntWalk.i64_in _ (by omega)]; omega
        have f2 : (j : Int) < (m : Int) := by omega
        have hjm : j < m := by omega
        have HM := Lib.hid hM
        have HJM := Lib.hid hj
        have HSZ1 := Lib.hid HB6.out.size
        clear hj hM
        clear HRB HRW HNX hput ho hne
        go_wp2
        go_region_with (first | (go_at_call 53; refine (l1Put_any u (RB[j]?.getD []) z.l w.heap.size _ (HO.out.belowAll (Below.refl _ _).drew) HSZ1.out (by have := HRW2.out; omega)).mono ?_; rintro e w7 ⟨v7, rfl, ho7, hlie7, b7⟩; obtain ⟨⟨u0, hs0⟩, hs1, hG7, hB7⟩ := HPUT.out w7 v7 _ ho7 hlie7 (grown_drew (grown_below b7)); obtain ⟨a7, n7, c7, -, rfl, -⟩ := ho7.rd.opn; have HG7 := Lib.hid hG7; have HB7 := Lib.hid hB7; clear hG7 hB7 ho7 hlie7 b7))
        all_goals
          generalize w7.setCell ⟨g, j, none⟩ (.slice a7 n7 c7) = w8 at *
          go_wp2
          go_roundw
          case rel => exact ⟨k + 1, hlt, by go_num, HS.out, HB7.out, by rw [HNX2.out, List.length_set, HM.out]; exact HG7.out⟩
          case measure => simp [intOf]; omega
      obtain ⟨k', hk'⟩ : ∃ k', k = k' + 1 := ⟨k - 1, by omega⟩
      have hkk : k - 1 = k' := by omega
      have hk0b : decide (0 < k) = true := decide_eq_true (by omega)
      have hk0c : decide (0 < (k : Int)) = true := decide_eq_true (by omega)
      have hk0d : decide ((k : Int) = 0) = false := decide_eq_false (by omega)
      have hk0e : decide (k = 0) = false := decide_eq_false (by omega)
      have hk0f : ((k : Int) == 0) = false := by rw [beq_eq_false_iff_ne]; omega
      have hkp : (0 : Int) < (k : Int) := by omega
      have f1w : IntKind.i64.wrap ((k : Int) - 1) = (k' : Int) := by rw [IntWalk.i64_in _ (by omega)]; omega
      have f2w : (k' : Int) < (n0 : Int) := by omega
      have f3w : k' < n0 := by omega
      have p0 := HC1.out k' f3w 0 _ rfl
      simp only [Nat.add_zero] at p0
      have hpt := HPT.out k' (by omega)
      have hv := HV.out
      have hnb := HNB.out
      rw [hkk, hk0b] at hv
      rw [hkk, hk0e] at hnb
      generalize (zs[k']?.getD nilA).t = tp at *
      obtain ⟨dd, hdd⟩ : ∃ dd, z.t - tp = dd := ⟨_, rfl⟩
      rw [hdd] at hnb
      have f4w : IntKind.i64.wrap (z.t - tp) = dd := by rw [← hdd]; exact IntWalk.i64_in _ (by omega)
      have f5w : wrap64 (z.t - tp) = dd := by rw [← hdd]; exact IntWalk.wrap64_in _ (by omega)
      have HV2 := Lib.hid hv
      have HNB2 := Lib.hid hnb
      clear hv hnb hdd hk' hkk hk0 HV HNB hpt HPT
      cases hgt : decide (z.t < tp)
      case true =>
        have HF := Lib.hid (HNO.out (by rw [HV2.out, hgt]; rfl))
        go_wp2
        generalize wr.alloc (.cells #[.int .i64 z.t, .int .i64 z.l] 86) = w2 at *
        have j0 := rg q0
        have j1 := rg q1
        have j2 := rg p0
        clear q0 q1 e0 e1 p0
        refine wp_region_quiet_below (by kernel_rfl) (by kernel_rfl) ?_
        repeat (go_big_quiet_step (first | (go_at_call 48; first | (with_reducible exact rg_same (HI.out _)) | (with_reducible exact rg_same (HJ.out _)))))
        refine wpQuiet_nil ?_
        rintro _ ⟨⟨dq, osq⟩, rfl⟩
        have b3 := below_regrown w2 dq osq
        generalize grow (redrawn w2 dq) osq = w3 at *
        go_wp2
        go_ret2
        exact HX.out _ _ (Grw.start 39 (Nat.le_trans HB1.out.size b3.size)).ofr ((HB1.out.trans (b3.mono HB1.out.size)).alloc (Nat.le_trans HB1.out.size b3.size) _) HF.out
      have HS := Lib.hid (HST.out (by rw [HV2.out, hgt]; rfl))
      cases hnw : decide (gap < dd)
      · have HR1 := Lib.hid (show rwB zs gap k R = R by unfold rwB; rw [HNB2.out, hnw]; rfl)
        have HN1 := Lib.hid (HNX.out)
        rw [HR1.out] at HN1
        have hR0 := HRP.out (by omega)
        go_wp2
        generalize wr.alloc (.cells #[.int .i64 z.t, .int .i64 z.l] 86) = w2 at *
        have j0 := rg q0
        have j1 := rg q1
        have j2 := rg p0
        clear q0 q1 e0 e1 p0
        refine wp_region_quiet_below (by kernel_rfl) (by kernel_rfl) ?_
        repeat (go_big_quiet_step (first | (go_at_call 48; first | (with_reducible exact rg_same (HI.out _)) | (with_reducible exact rg_same (HJ.out _)))))
        refine wpQuiet_nil ?_
        rintro _ ⟨⟨dq, osq⟩, rfl⟩
        have b3 := below_regrown w2 dq osq
        have q0 := j0 dq osq
        have q1 := j1 dq osq
        have p0 := j2 dq osq
        generalize grow (redrawn w2 dq) osq = w3 at *
        clear j0 j1 j2
        go_wp2
        have j0 := rg q0
        have j1 := rg q1
        have j2 := rg p0
        clear q0 p0
        refine wp_region_quiet_below (by kernel_rfl) (by kernel_rfl) ?_
        repeat (go_big_quiet_step (fail))
        refine wpQuiet_nil ?_
        rintro _ ⟨⟨dq2, osq2⟩, rfl⟩
        have b4 := below_regrown w3 dq2 osq2
        have q1 := j1 dq2 osq2
        generalize grow (redrawn w3 dq2) osq2 = w4 at *
        clear j0 j1 j2
        have HB4 := Lib.hid ((HB1.out.trans (b3.mono HB1.out.size)).trans (b4.mono (Nat.le_trans HB1.out.size b3.size)))
        have HG4 := Lib.hid ((HG1.out.below b3).below b4)
        have HG6 := HG4
        have HB6 := HB4
        have hbx5 : wr.heap.size < w4.heap.size := Nat.lt_of_lt_of_le blt (Nat.le_trans b3.size b4.size)
        have q5 := q1
        have HRB := Lib.hid (show 0 < R.length ∧ R.length ≤ k + 1 by have h1 := HRL.out; omega)
        have HRW := Lib.hid (show (lastL R).length ≤ k from HRR.out _)
        clear q1 b3 b4 hR0 HNX
        have HNX := HN1
        clear HN1 HR1 HNB2 HV2 HI HJ HRL HRP HRR hk0b hk0c hk0d hk0e hk0f HC HC1 hgt hnw f1w f2w f3w f4w f5w
        obtain ⟨j, hj⟩ : ∃ j, R.length = j + 1 := ⟨R.length - 1, by have := HRB.out.1; omega⟩
        have hjk : j ≤ k := by have := HRB.out.2; omega
        have HJL := Lib.hid (show j < R.length by omega)
        have HNX2 := Lib.hid (show rwS zs gap (k + 1) = R.set j (putI (R[j]?.getD []) z.l) by rw [HNX.out]; unfold addL lastL; rw [hj]; rfl)
        have HRW2 := Lib.hid (show (R[j]?.getD []).length ≤ k by have := HRW.out; unfold lastL at this; rw [hj] at this; exact this)
        obtain ⟨g, cap, u, hv6, hu, hgl, ho, hne, hput⟩ := HG6.out.deepI HJL.out HB6.out.size HB6.out
        simp only [Value.slice.injEq] at hv6
        obtain ⟨rfl, -, rfl⟩ := hv6
        have HPUT := Lib.hid hput
        have HO := Lib.hid ho
        have HNE := Lib.hid hne
        generalize hM : R.length = m at *
        have hm63 : m ≤ 9223372036854775807 := by omega
        have f1 : IntKind.i64.wrap ((m : Int) - 1) = (j : Int) := by rw [IntWalk.i64_in _ (by omega)]; omega
        have f2 : (j : Int) < (m : Int) := by omega
        have hjm : j < m := by omega
        have HM := Lib.hid hM
        have HJM := Lib.hid hj
        have HSZ1 := Lib.hid HB6.out.size
        clear hj hM
        clear HRB HRW HNX hput ho hne
        go_wp2
        go_region_with (first | (go_at_call 53; refine (l1Put_any u (R[j]?.getD []) z.l w.heap.size _ (HO.out.belowAll (Below.refl _ _).drew) HSZ1.out (by have := HRW2.out; omega)).mono ?_; rintro e w7 ⟨v7, rfl, ho7, hlie7, b7⟩; obtain ⟨⟨u0, hs0⟩, hs1, hG7, hB7⟩ := HPUT.out w7 v7 _ ho7 hlie7 (grown_drew (grown_below b7)); obtain ⟨a7, n7, c7, -, rfl, -⟩ := ho7.rd.opn; have HG7 := Lib.hid hG7; have HB7 := Lib.hid hB7; clear hG7 hB7 ho7 hlie7 b7))
        all_goals
          generalize w7.setCell ⟨g, j, none⟩ (.slice a7 n7 c7) = w8 at *
          go_wp2
          go_roundw
          case rel => exact ⟨k + 1, hlt, by go_num, HS.out, HB7.out, by rw [HNX2.out, List.length_set, HM.out]; exact HG7.out⟩
          case measure => simp [intOf]; omega
      · have HR1 := Lib.hid (show rwB zs gap k R = R ++ [[]] by unfold rwB; rw [HNB2.out, hnw]; rfl)
        have hR0 := HRP.out (by omega)
        go_wp2
        generalize wr.alloc (.cells #[.int .i64 z.t, .int .i64 z.l] 86) = w2 at *
        have j0 := rg q0
        have j1 := rg q1
        have j2 := rg p0
        clear q0 q1 e0 e1 p0
        refine wp_region_quiet_below (by kernel_rfl) (by kernel_rfl) ?_
        repeat (go_big_quiet_step (first | (go_at_call 48; first | (with_reducible exact rg_same (HI.out _)) | (with_reducible exact rg_same (HJ.out _)))))
        refine wpQuiet_nil ?_
        rintro _ ⟨⟨dq, osq⟩, rfl⟩
        have b3 := below_regrown w2 dq osq
        have q0 := j0 dq osq
        have q1 := j1 dq osq
        have p0 := j2 dq osq
        generalize grow (redrawn w2 dq) osq = w3 at *
        clear j0 j1 j2
        go_wp2
        have j0 := rg q0
        have j1 := rg q1
        have j2 := rg p0
        clear q0 p0
        refine wp_region_quiet_below (by kernel_rfl) (by kernel_rfl) ?_
        repeat (go_big_quiet_step (fail))
        refine wpQuiet_nil ?_
        rintro _ ⟨⟨dq2, osq2⟩, rfl⟩
        have b4 := below_regrown w3 dq2 osq2
        have q1 := j1 dq2 osq2
        generalize grow (redrawn w3 dq2) osq2 = w4 at *
        clear j0 j1 j2
        have HB4 := Lib.hid ((HB1.out.trans (b3.mono HB1.out.size)).trans (b4.mono (Nat.le_trans HB1.out.size b3.size)))
        have HG4 := Lib.hid ((HG1.out.below b3).below b4)
        go_wp2_with (at_builtin; refine StopAt.go ?_)
        unfold StopAt
        refine wpList_grow rfl (.tmp 70) (.tmp 72) 52 39 rfl Try.underlying52 (.slice none 0 0) 1 24 Try.infoRows rfl (by decide) (by decide) w.heap.size R.length (.slice aR R.length cR) _ _ (by rfl) HG4.out HB4.out.size ((Below.refl _ _).alloc (Nat.le_refl _) (.cells #[] 3)) [.slice (some ⟨w4.heap.size, 0, none⟩) 0 0] (Newd.one (d := inD []) (made_inD w4)) rfl (by simp [Value.oneCell']) (show Value.slice (some ⟨w4.heap.size + 1, 0, none⟩) 1 1 = Value.slice (some ⟨(w4.alloc (.cells #[] 3)).heap.size, 0, none⟩) 1 1 by simp) (by have := HRL.out; omega) ?_
        intro v5 w5 hG5 hgr5 hlie5
        have hgr5 := (World.grownBy_alloc w4 (.cells #[] 3) (Value.slice aR R.length cR).ownBlock).trans' hgr5
        have HG6 := Lib.hid (show Grw w5 w.heap.size 39 1 v5 (rwB zs gap k R).length ((rwB zs gap k R).map inD) by rw [HR1.out, List.map_append, List.length_append]; exact hG5)
        have HB6 := Lib.hid (HB4.out.grown hgr5 HB4.out.size (fun g hg => (HG4.out.own g hg).1))
        have hbx5 : wr.heap.size < w5.heap.size := Nat.lt_of_lt_of_le (Nat.lt_of_lt_of_le blt (Nat.le_trans b3.size b4.size)) hgr5.size
        have q5 := (hgr5.cell_far ⟨wr.heap.size, 1, none⟩ (World.block_lt_of_cell? _ _ q1) (fun e => by have := HG.out.own _ e.symm; exact Nat.lt_irrefl _ this.2)).trans q1
        have HRB := Lib.hid (show 0 < (rwB zs gap k R).length ∧ (rwB zs gap k R).length ≤ k + 1 by have h1 := HRL.out; rw [HR1.out, List.length_append]; simp only [List.length_cons, List.length_nil]; omega)
        have HRW := Lib.hid (show (lastL (rwB zs gap k R)).length ≤ k by rw [HR1.out]; simp [lastL])
        clear hG5 hgr5 hlie5 q1 b3 b4
        clear HR1 HNB2 HV2 HI HJ HRL HRP HRR hk0b hk0c hk0d hk0e hk0f HC HC1 hgt hnw f1w f2w f3w f4w f5w hR0
        generalize rwB zs gap k R = RB at *
        obtain ⟨j, hj⟩ : ∃ j, RB.length = j + 1 := ⟨RB.length - 1, by have := HRB.out.1; omega⟩
        have hjk : j ≤ k := by have := HRB.out.2; omega
        have HJL := Lib.hid (show j < RB.length by omega)
        have HNX2 := Lib.hid (show rwS zs gap (k + 1) = RB.set j (putI (RB[j]?.getD []) z.l) by rw [HNX.out]; unfold addL lastL; rw [hj]; rfl)
        have HRW2 := Lib.hid (show (RB[j]?.getD []).length ≤ k by have := HRW.out; unfold lastL at this; rw [hj] at this; exact this)
        obtain ⟨g, cap, u, rfl, hu, hgl, ho, hne, hput⟩ := HG6.out.deepI HJL.out HB6.out.size HB6.out
        have HPUT := Lib.hid hput
        have HO := Lib.hid ho
        have HNE := Lib.hid hne
        generalize hM : RB.length = m at *
        have hm63 : m ≤ 9223372036854775807 := by omega
        have f1 : IntKind.i64.wrap ((m : Int) - 1) = (j : Int) := by rw [IntWalk.i64_in _ (by omega)]; omega
        have f2 : (j : Int) < (m : Int) := by omega
        have hjm : j < m := by omega
        have HM := Lib.hid hM
        have HJM := Lib.hid hj
        have HSZ1 := Lib.hid HB6.out.size
        clear hj hM
        clear HRB HRW HNX hput ho hne
        go_wp2
        go_region_with (first | (go_at_call 53; refine (l1Put_any u (RB[j]?.getD []) z.l w.heap.size _ (HO.out.belowAll (Below.refl _ _).drew) HSZ1.out (by have := HRW2.out; omega)).mono ?_; rintro e w7 ⟨v7, rfl, ho7, hlie7, b7⟩; obtain ⟨⟨u0, hs0⟩, hs1, hG7, hB7⟩ := HPUT.out w7 v7 _ ho7 hlie7 (grown_drew (grown_below b7)); obtain ⟨a7, n7, c7, -, rfl, -⟩ := ho7.rd.opn; have HG7 := Lib.hid hG7; have HB7 := Lib.hid hB7; clear hG7 hB7 ho7 hlie7 b7))
        all_goals
          generalize w7.setCell ⟨g, j, none⟩ (.slice a7 n7 c7) = w8 at *
          go_wp2
          go_roundw
          case rel => exact ⟨k + 1, hlt, by go_num, HS.out, HB7.out, by rw [HNX2.out, List.length_set, HM.out]; exact HG7.out⟩
          case measure => simp [intOf]; omega
    · obtain rfl : n0 = k := by omega
      have HE := Lib.hid (HAL2.out HK.out)
      have HY := Lib.hid (HYE.out)
      go_wp2
      go_ret2
      exact HY.out _ _ HE.out HG.out.ofr HB.out
end Go.Proofs.Ytphhenlokbodnaa
