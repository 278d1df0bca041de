/- Joined: XAlbW XAlbV. -/
import Derived.Test.YtmkkdenhjfjmgaaGreatBf04
import Derived.Lib.QuietBelow
import Derived.StillTailTactics
import Derived.Deep.RegionLaw
import Derived.Laws.AppendOwnNone
namespace Go.Proofs.YtmkkdenhjfjmgaaGreat
open Go.RowKit Go.Sort
set_option maxRecDepth 100000
theorem Tryz.infoRows : (Tryz.prog.info? 29).map (fun i => (i.zero, i.size, i.bytes)) = some (some (.slice none 0 0), 1, 24) := by kernel_rfl

def StopAt (p : Prop) : Prop := p
theorem StopAt.go {p : Prop} (h : StopAt p) : p := h
set_option maxHeartbeats 3200000 in
theorem implAlb_any (v : Value) (zs : List Alm) (gap : Int) (w : World) (h : Rdt w (flt 2 almE zs) v) :
    Calls Tryz.prog 38 #[v, .int .i64 gap] w (AlbP zs gap w) := by
  obtain ⟨a0, n0, c0, rfl, HN, hc, hn, ha⟩ := flt_opn (m := 2) (enc := almE) (fun _ => rfl) (by omega) nilA h
  have HA := Lib.hid ha
  have HX := Lib.hid (fun w' (hb : Below w.heap.size w w') (e : albOk zs gap = false) => AlbP.nil (zs := zs) (gap := gap) (w := w) (w' := w') e hb)
  have HSZ := Lib.hid (@albOk_sz zs gap)
  have HGP := Lib.hid (@albOk_gap zs gap)
  have HAT := Lib.hid (fun i hi h => @albOk_at zs gap i hi h)
  have HAL := Lib.hid (@albOk_all zs gap)
  have HYE := Lib.hid (fun w' v e o b => @AlbP.yes zs gap w w' v e o b)
  rw [HN.out] at HSZ HAT HAL HYE
  clear ha h
  go_enter Tryz.func38, Tryz.ntmps38
  by_cases h40 : n0 ≤ 40
  case neg =>
    have hd : decide (40 < (n0 : Int)) = true := decide_eq_true (by omega)
    have hd2 : decide (40 < n0) = true := decide_eq_true (by omega)
    have HF := Lib.hid (HSZ.out h40)
    clear h40
    go_wp2
    go_ret2
    exact HX.out _ (Below.refl _ _) HF.out
  have hd : decide (40 < (n0 : Int)) = false := decide_eq_false (by omega)
  have hd2 : decide (40 < n0) = false := decide_eq_false (by omega)
  cases hin : inB gap 0 1000000
  · have HF := Lib.hid (HGP.out hin)
    go_wp2_with (go_at_call 83; refine (within_any _ _ _ _).mono ?_; rintro e w' ⟨rfl, rfl⟩; rw [hin])
    go_ret2
    exact HX.out _ (Below.refl _ _) HF.out
  have HAL2 := Lib.hid (HAL.out h40 hin)
  go_wp2_with (go_at_call 83; refine (within_any _ _ _ _).mono ?_; rintro e w' ⟨rfl, rfl⟩; rw [hin])
  have HG0 := Lib.hid (Grw.start (w := w) (base := w.heap.size) (size := 1) 29 (Nat.le_refl _))
  have HB0 := Lib.hid ((Below.refl w.heap.size w).alloc (Nat.le_refl _) (.cells #[] 29))
  generalize w.alloc (.cells #[] 29) = w1 at *
  clear hd hd2 hin HSZ HGP HAL
  go_loopw [6, 7, 8, 9, 22] (fun s6 _ _ _ i wr => ∃ k : Nat, k ≤ n0 ∧ i = .int .i64 k ∧ Hid (∀ i, i < k → alOk zs i = true) ∧ Hid (Below w.heap.size w wr) ∧ Hid (Grw wr w.heap.size 29 1 s6 (rwA zs gap k).length ((rwA zs gap k).map inD))) (fun _ _ _ _ i _ => n0 - (intOf i).toNat)
  case atStart => exact ⟨0, Nat.zero_le _, rfl, fun i hi => by omega, HB0.out, HG0.out⟩
  case round =>
    obtain ⟨k, hk, rfl, HK, HB, HG⟩ := hrel
    obtain ⟨-, aR, cR, rfl⟩ := HG.out.form
    by_cases hlt : k < n0
    · have hltI : (k : Int) < (n0 : Int) := by omega
      obtain ⟨b, off, rfl, hbs, hcs⟩ := HA.out (by omega)
      have HC := Lib.hid (fun i hi r u hu => (HB.out.cell (p := ⟨b, off + i * 2 + r, none⟩) hbs).trans (hcs i hi r u hu))
      have e0 := HC.out k hlt 0 _ rfl
      have e1 := HC.out k hlt 1 _ rfl
      simp only [Nat.add_zero] at e0
      have HNO := Lib.hid (HAT.out k hlt)
      have HST := Lib.hid (fun h => upto_succ HK.out (k := k) h)
      have HV := Lib.hid (show alOk zs k = (inB (zs[k]?.getD nilA).t 0 1000000 && (inB (zs[k]?.getD nilA).l 1 999 && !(decide (0 < k) && decide ((zs[k]?.getD nilA).t < (zs[k - 1]?.getD nilA).t)))) from rfl)
      have HNB := Lib.hid (show newB zs gap k = (decide (k = 0) || decide (gap < (zs[k]?.getD nilA).t - (zs[k - 1]?.getD nilA).t)) from rfl)
      have HNX := Lib.hid (show rwA zs gap (k + 1) = addL (rwB zs gap k (rwA zs gap k)) (lastL (rwB zs gap k (rwA zs gap k)) ++ [(zs[k]?.getD nilA).l]) from rfl)
      have HPT := Lib.hid (show ∀ j, j < k → 0 ≤ (zs[j]?.getD nilA).t ∧ (zs[j]?.getD nilA).t ≤ 1000000 from fun j hj => by
        have := HK.out j hj
        unfold alOk alA at this
        simp only [Bool.and_eq_true] at this
        exact inB_true this.1)
      have HRL := Lib.hid (rwA_len zs gap k)
      have HRP := Lib.hid (rwA_pos zs gap k)
      have HRR := Lib.hid (rwA_row zs gap k)
      generalize zs[k]?.getD nilA = z at *
      generalize rwA zs gap k = R at *
      obtain ⟨bx, bc, blt, -⟩ := box_facts wr #[.int .i64 z.t, .int .i64 z.l] 67
      have q0 := bc 0 _ rfl
      have q1 := bc 1 _ rfl
      have HB1 := Lib.hid (HB.out.trans (bx.mono HB.out.size))
      have HG1 := Lib.hid (HG.out.below bx)
      have HBX := Lib.hid bx
      have HC1 := Lib.hid (fun i hi r u hu => (bx.cell (p := ⟨b, off + i * 2 + r, none⟩) (Nat.lt_of_lt_of_le hbs HB.out.size)).trans (HC.out i hi r u hu))
      clear bx bc hcs
      have HI := Lib.hid (fun w => within_any z.t 0 1000000 w)
      have HJ := Lib.hid (fun w => within_any z.l 1 999 w)
      cases hti : inB z.t 0 1000000
      · have HF := Lib.hid (HNO.out (by rw [HV.out, hti]; rfl))
        rw [hti] at HI
        go_wp2
        generalize wr.alloc (.cells #[.int .i64 z.t, .int .i64 z.l] 67) = w2 at *
        have j0 := rg q0
        have j1 := rg q1
        clear q0 q1 e0 e1
        refine wp_region_quiet_below (by kernel_rfl) (by kernel_rfl) ?_
        repeat (go_big_quiet_step (first | (go_at_call 83; exact rg_same (HI.out _))))
        refine wpQuiet_nil ?_
        rintro _ ⟨⟨dq, osq⟩, rfl⟩
        go_wp2
        go_ret2
        exact HX.out _ (HB1.out.trans ((below_regrown _ dq osq).mono HB1.out.size)) HF.out
      rw [hti] at HI HV
      have hzt := inB_true hti
      clear hti
      cases hli : inB z.l 1 999
      · have HF := Lib.hid (HNO.out (by rw [HV.out, hli]; rfl))
        rw [hli] at HJ
        go_wp2
        generalize wr.alloc (.cells #[.int .i64 z.t, .int .i64 z.l] 67) = w2 at *
        have j0 := rg q0
        have j1 := rg q1
        clear q0 q1 e0 e1
        refine wp_region_quiet_below (by kernel_rfl) (by kernel_rfl) ?_
        repeat (go_big_quiet_step (first | (go_at_call 83; first | (with_reducible exact rg_same (HI.out _)) | (with_reducible exact rg_same (HJ.out _)))))
        refine wpQuiet_nil ?_
        rintro _ ⟨⟨dq, osq⟩, rfl⟩
        go_wp2
        go_ret2
        exact HX.out _ (HB1.out.trans ((below_regrown _ dq osq).mono HB1.out.size)) HF.out
      rw [hli] at HJ HV
      clear hli
      by_cases hk0 : k = 0
      · have hk0b : decide (0 < k) = false := decide_eq_false (by omega)
        have hk0c : decide (0 < (k : Int)) = false := decide_eq_false (by omega)
        have hk0d : decide ((k : Int) = 0) = true := decide_eq_true (by omega)
        have hk0e : decide (k = 0) = true := decide_eq_true (by omega)
        have hk0f : ((k : Int) == 0) = true := by rw [beq_iff_eq]; omega
        have HS := Lib.hid (HST.out (by rw [HV.out, hk0b]; rfl))
        have HN1 := Lib.hid (HNX.out)
        have HR1 := Lib.hid (show rwB zs gap k R = R ++ [[]] by unfold rwB; rw [HNB.out, hk0e]; rfl)
        clear hk0
        go_wp2
        generalize wr.alloc (.cells #[.int .i64 z.t, .int .i64 z.l] 67) = w2 at *
        have j0 := rg q0
        have j1 := rg q1
        have j0' := q0
        have j1' := q1
        clear q0 q1 e0 e1
        refine wp_region_quiet_below (by kernel_rfl) (by kernel_rfl) ?_
        repeat (go_big_quiet_step (first | (go_at_call 83; first | (with_reducible exact rg_same (HI.out _)) | (with_reducible exact rg_same (HJ.out _)))))
        refine wpQuiet_nil ?_
        rintro _ ⟨⟨dq, osq⟩, rfl⟩
        have b3 := below_regrown w2 dq osq
        have q0 := j0 dq osq
        have q1 := j1 dq osq
        generalize grow (redrawn w2 dq) osq = w3 at *
        clear j0 j1
        go_wp2
        have j0 := rg q0
        have j1 := rg q1
        refine wp_region_quiet_below (by kernel_rfl) (by kernel_rfl) ?_
        repeat (go_big_quiet_step (fail))
        refine wpQuiet_nil ?_
        rintro _ ⟨⟨dq2, osq2⟩, rfl⟩
        have b4 := below_regrown w3 dq2 osq2
        have q1 := j1 dq2 osq2
        generalize grow (redrawn w3 dq2) osq2 = w4 at *
        clear j0 j1 q0
        have HB4 := Lib.hid ((HB1.out.trans (b3.mono HB1.out.size)).trans (b4.mono (Nat.le_trans HB1.out.size b3.size)))
        have HG4 := Lib.hid ((HG1.out.below b3).below b4)
        go_wp2_with (at_builtin; refine StopAt.go ?_)
        unfold StopAt
        refine wpList_grow rfl (.tmp 67) (.tmp 68) 63 29 rfl Tryz.underlying63 (.slice none 0 0) 1 24 Tryz.infoRows rfl (by decide) (by decide) w.heap.size R.length (.slice aR R.length cR) _ _ rfl HG4.out HB4.out.size (Below.refl _ _) [.slice none 0 0] (Newd.one (Ofr.nil _ _ 1)) rfl (by simp [Value.oneCell']) rfl (by have := HRL.out; omega) ?_
        intro v5 w5 hG5 hgr5 hlie5
        have HG6 := Lib.hid (show Grw w5 w.heap.size 29 1 v5 (rwB zs gap k R).length ((rwB zs gap k R).map inD) by rw [HR1.out, List.map_append, List.length_append]; exact hG5)
        have HB6 := Lib.hid (HB4.out.grown hgr5 HB4.out.size (fun g hg => (HG4.out.own g hg).1))
        have hbx5 : wr.heap.size < w5.heap.size := Nat.lt_of_lt_of_le (Nat.lt_of_lt_of_le blt (Nat.le_trans b3.size b4.size)) hgr5.size
        have q5 := (hgr5.cell_far ⟨wr.heap.size, 1, none⟩ (World.block_lt_of_cell? _ _ q1) (fun e => by have := HG.out.own _ e.symm; exact Nat.lt_irrefl _ this.2)).trans q1
        have HRB := Lib.hid (show 0 < (rwB zs gap k R).length ∧ (rwB zs gap k R).length ≤ k + 1 by have h1 := HRL.out; rw [HR1.out, List.length_append]; simp only [List.length_cons, List.length_nil]; omega)
        have HRW := Lib.hid (show (lastL (rwB zs gap k R)).length ≤ k by rw [HR1.out]; simp [lastL])
        clear hG5 hgr5 hlie5 q1 b3 b4
        clear HN1 HR1 HNB HV HI HJ HRL HRP HRR hk0b hk0c hk0d hk0e hk0f HPT HC HC1
-- TAIL
        generalize rwB zs gap k R = RB at *
        obtain ⟨j, hj⟩ : ∃ j, RB.length = j + 1 := ⟨RB.length - 1, by have := HRB.out.1; omega⟩
        have hjk : j ≤ k := by have := HRB.out.2; omega
        have HJL := Lib.hid (show j < RB.length by omega)
        have HNX2 := Lib.hid (show rwA zs gap (k + 1) = RB.set j (RB[j]?.getD [] ++ [z.l]) by rw [HNX.out]; unfold addL lastL; rw [hj]; rfl)
        have HRW2 := Lib.hid (show (RB[j]?.getD []).length ≤ k by have := HRW.out; unfold lastL at this; rw [hj] at this; exact this)
        obtain ⟨g, cap, u, rfl, hu, hgl, ho, hne, hput⟩ := HG6.out.deepI HJL.out HB6.out.size HB6.out
        have HPUT := Lib.hid hput
        have HO := Lib.hid ho
        have HNE := Lib.hid hne
        generalize hM : RB.length = m at *
        have hm63 : m ≤ 9223372036854775807 := by omega
        have f1 : IntKind.i64.wrap ((m : Int) - 1) = (j : Int) := by rw [IntWalk.i64_in _ (by omega)]; omega
        have f2 : (j : Int) < (m : Int) := by omega
        have hjm : j < m := by omega
        have HM := Lib.hid hM
        have HJM := Lib.hid hj
        clear hj hM
        clear HRB HRW HNX hput ho hne
        go_wp2
        go_region_law ((refine step_of_list rfl ?_); (go_loud (refine wpList_pushI rfl (.tmp 78) (.tmp 81) 29 rfl Tryz.underlying29 Tryz.infoInt w.heap.size u (RB[j]?.getD []) rfl (HO.out.belowAll (Below.refl _ _).drew) rfl (by have := HRW2.out; omega) (Nat.le_trans HB6.out.size (by simp)) ?_)); (intro v7 w7 ho7 hgr7 hlie7); (obtain ⟨⟨u0, hs0⟩, hs1, hG7, hB7⟩ := HPUT.out w7 v7 _ ho7 (fun k hk => (hlie7 k hk).imp id (fun e => e)) (grown_drew hgr7)); (obtain ⟨a7, n7, c7, -, rfl, -⟩ := ho7.rd.opn); (have HG7 := Lib.hid hG7); (have HB7 := Lib.hid hB7); (clear hG7 hB7 ho7 hgr7 hlie7); (unfold wpList); (refine ⟨rfl, ?_⟩))
        all_goals
          generalize w7.setCell ⟨g, j, none⟩ (.slice a7 n7 c7) = w8 at *
          go_wp2
          go_roundw
          case rel => exact ⟨k + 1, hlt, by go_num, HS.out, HB7.out, by rw [HNX2.out, List.length_set, HM.out]; exact HG7.out⟩
          case measure => simp [intOf]; omega
      obtain ⟨k', hk'⟩ : ∃ k', k = k' + 1 := ⟨k - 1, by omega⟩
      have hkk : k - 1 = k' := by omega
      have hk0b : decide (0 < k) = true := decide_eq_true (by omega)
      have hk0c : decide (0 < (k : Int)) = true := decide_eq_true (by omega)
      have hk0d : decide ((k : Int) = 0) = false := decide_eq_false (by omega)
      have hk0e : decide (k = 0) = false := decide_eq_false (by omega)
      have hk0f : ((k : Int) == 0) = false := by rw [beq_eq_false_iff_ne]; omega
      have hkp : (0 : Int) < (k : Int) := by omega
      have f1w : IntKind.i64.wrap ((k : Int) - 1) = (k' : Int) := by rw [IntWalk.i64_in _ (by omega)]; omega
      have f2w : (k' : Int) < (n0 : Int) := by omega
      have f3w : k' < n0 := by omega
      have p0 := HC1.out k' f3w 0 _ rfl
      simp only [Nat.add_zero] at p0
      have hpt := HPT.out k' (by omega)
      have hv := HV.out
      have hnb := HNB.out
      rw [hkk, hk0b] at hv
      rw [hkk, hk0e] at hnb
      generalize (zs[k']?.getD nilA).t = tp at *
      obtain ⟨dd, hdd⟩ : ∃ dd, z.t - tp = dd := ⟨_, rfl⟩
      rw [hdd] at hnb
      have f4w : IntKind.i64.wrap (z.t - tp) = dd := by rw [← hdd]; exact IntWalk.i64_in _ (by omega)
      have f5w : wrap64 (z.t - tp) = dd := by rw [← hdd]; exact IntWalk.wrap64_in _ (by omega)
      have HV2 := Lib.hid hv
      have HNB2 := Lib.hid hnb
      clear hv hnb hdd hk' hkk hk0 HV HNB hpt HPT
      cases hgt : decide (z.t < tp)
      case true =>
        have HF := Lib.hid (HNO.out (by rw [HV2.out, hgt]; rfl))
        go_wp2
        generalize wr.alloc (.cells #[.int .i64 z.t, .int .i64 z.l] 67) = w2 at *
        have j0 := rg q0
        have j1 := rg q1
        have j2 := rg p0
        clear q0 q1 e0 e1 p0
        refine wp_region_quiet_below (by kernel_rfl) (by kernel_rfl) ?_
        repeat (go_big_quiet_step (first | (go_at_call 83; first | (with_reducible exact rg_same (HI.out _)) | (with_reducible exact rg_same (HJ.out _)))))
        refine wpQuiet_nil ?_
        rintro _ ⟨⟨dq, osq⟩, rfl⟩
        go_wp2
        go_ret2
        exact HX.out _ (HB1.out.trans ((below_regrown _ dq osq).mono HB1.out.size)) HF.out
      have HS := Lib.hid (HST.out (by rw [HV2.out, hgt]; rfl))
      cases hnw : decide (gap < dd)
      · have HR1 := Lib.hid (show rwB zs gap k R = R by unfold rwB; rw [HNB2.out, hnw]; rfl)
        have HN1 := Lib.hid (HNX.out)
        rw [HR1.out] at HN1
        have hR0 := HRP.out (by omega)
        go_wp2
        generalize wr.alloc (.cells #[.int .i64 z.t, .int .i64 z.l] 67) = w2 at *
        have j0 := rg q0
        have j1 := rg q1
        have j2 := rg p0
        clear q0 q1 e0 e1 p0
        refine wp_region_quiet_below (by kernel_rfl) (by kernel_rfl) ?_
        repeat (go_big_quiet_step (first | (go_at_call 83; first | (with_reducible exact rg_same (HI.out _)) | (with_reducible exact rg_same (HJ.out _)))))
        refine wpQuiet_nil ?_
        rintro _ ⟨⟨dq, osq⟩, rfl⟩
        have b3 := below_regrown w2 dq osq
        have q0 := j0 dq osq
        have q1 := j1 dq osq
        have p0 := j2 dq osq
        generalize grow (redrawn w2 dq) osq = w3 at *
        clear j0 j1 j2
        go_wp2
        have j0 := rg q0
        have j1 := rg q1
        have j2 := rg p0
        clear q0 p0
        refine wp_region_quiet_below (by kernel_rfl) (by kernel_rfl) ?_
        repeat (go_big_quiet_step (fail))
        refine wpQuiet_nil ?_
        rintro _ ⟨⟨dq2, osq2⟩, rfl⟩
        have b4 := below_regrown w3 dq2 osq2
        have q1 := j1 dq2 osq2
        generalize grow (redrawn w3 dq2) osq2 = w4 at *
        clear j0 j1 j2
        have HB4 := Lib.hid ((HB1.out.trans (b3.mono HB1.out.size)).trans (b4.mono (Nat.le_trans HB1.out.size b3.size)))
        have HG4 := Lib.hid ((HG1.out.below b3).below b4)
        have HG6 := HG4
        have HB6 := HB4
        have hbx5 : wr.heap.size < w4.heap.size := Nat.lt_of_lt_of_le blt (Nat.le_trans b3.size b4.size)
        have q5 := q1
        have HRB := Lib.hid (show 0 < R.length ∧ R.length ≤ k + 1 by have h1 := HRL.out; omega)
        have HRW := Lib.hid (show (lastL R).length ≤ k from HRR.out _)
        clear q1 b3 b4 hR0 HNX
        have HNX := HN1
        clear HN1 HR1 HNB2 HV2 HI HJ HRL HRP HRR hk0b hk0c hk0d hk0e hk0f HC HC1 hgt hnw f1w f2w f3w f4w f5w
        obtain ⟨j, hj⟩ : ∃ j, R.length = j + 1 := ⟨R.length - 1, by have := HRB.out.1; omega⟩
        have hjk : j ≤ k := by have := HRB.out.2; omega
        have HJL := Lib.hid (show j < R.length by omega)
        have HNX2 := Lib.hid (show rwA zs gap (k + 1) = R.set j (R[j]?.getD [] ++ [z.l]) by rw [HNX.out]; unfold addL lastL; rw [hj]; rfl)
        have HRW2 := Lib.hid (show (R[j]?.getD []).length ≤ k by have := HRW.out; unfold lastL at this; rw [hj] at this; exact this)
        obtain ⟨g, cap, u, hv6, hu, hgl, ho, hne, hput⟩ := HG6.out.deepI HJL.out HB6.out.size HB6.out
        simp only [Value.slice.injEq] at hv6
        obtain ⟨rfl, -, rfl⟩ := hv6
        have HPUT := Lib.hid hput
        have HO := Lib.hid ho
        have HNE := Lib.hid hne
        generalize hM : R.length = m at *
        have hm63 : m ≤ 9223372036854775807 := by omega
        have f1 : IntKind.i64.wrap ((m : Int) - 1) = (j : Int) := by rw [IntWalk.i64_in _ (by omega)]; omega
        have f2 : (j : Int) < (m : Int) := by omega
        have hjm : j < m := by omega
        have HM := Lib.hid hM
        have HJM := Lib.hid hj
        clear hj hM
        clear HRB HRW HNX hput ho hne
        go_wp2
        go_region_law ((refine step_of_list rfl ?_); (go_loud (refine wpList_pushI rfl (.tmp 78) (.tmp 81) 29 rfl Tryz.underlying29 Tryz.infoInt w.heap.size u (R[j]?.getD []) rfl (HO.out.belowAll (Below.refl _ _).drew) rfl (by have := HRW2.out; omega) (Nat.le_trans HB6.out.size (by simp)) ?_)); (intro v7 w7 ho7 hgr7 hlie7); (obtain ⟨⟨u0, hs0⟩, hs1, hG7, hB7⟩ := HPUT.out w7 v7 _ ho7 (fun k hk => (hlie7 k hk).imp id (fun e => e)) (grown_drew hgr7)); (obtain ⟨a7, n7, c7, -, rfl, -⟩ := ho7.rd.opn); (have HG7 := Lib.hid hG7); (have HB7 := Lib.hid hB7); (clear hG7 hB7 ho7 hgr7 hlie7); (unfold wpList); (refine ⟨rfl, ?_⟩))
        all_goals
          generalize w7.setCell ⟨g, j, none⟩ (.slice a7 n7 c7) = w8 at *
          go_wp2
          go_roundw
          case rel => exact ⟨k + 1, hlt, by go_num, HS.out, HB7.out, by rw [HNX2.out, List.length_set, HM.out]; exact HG7.out⟩
          case measure => simp [intOf]; omega
      · have HR1 := Lib.hid (show rwB zs gap k R = R ++ [[]] by unfold rwB; rw [HNB2.out, hnw]; rfl)
        have hR0 := HRP.out (by omega)
        go_wp2
        generalize wr.alloc (.cells #[.int .i64 z.t, .int .i64 z.l] 67) = w2 at *
        have j0 := rg q0
        have j1 := rg q1
        have j2 := rg p0
        clear q0 q1 e0 e1 p0
        refine wp_region_quiet_below (by kernel_rfl) (by kernel_rfl) ?_
        repeat (go_big_quiet_step (first | (go_at_call 83; first | (with_reducible exact rg_same (HI.out _)) | (with_reducible exact rg_same (HJ.out _)))))
        refine wpQuiet_nil ?_
        rintro _ ⟨⟨dq, osq⟩, rfl⟩
        have b3 := below_regrown w2 dq osq
        have q0 := j0 dq osq
        have q1 := j1 dq osq
        have p0 := j2 dq osq
        generalize grow (redrawn w2 dq) osq = w3 at *
        clear j0 j1 j2
        go_wp2
        have j0 := rg q0
        have j1 := rg q1
        have j2 := rg p0
        clear q0 p0
        refine wp_region_quiet_below (by kernel_rfl) (by kernel_rfl) ?_
        repeat (go_big_quiet_step (fail))
        refine wpQuiet_nil ?_
        rintro _ ⟨⟨dq2, osq2⟩, rfl⟩
        have b4 := below_regrown w3 dq2 osq2
        have q1 := j1 dq2 osq2
        generalize grow (redrawn w3 dq2) osq2 = w4 at *
        clear j0 j1 j2
        have HB4 := Lib.hid ((HB1.out.trans (b3.mono HB1.out.size)).trans (b4.mono (Nat.le_trans HB1.out.size b3.size)))
        have HG4 := Lib.hid ((HG1.out.below b3).below b4)
        go_wp2_with (at_builtin; refine StopAt.go ?_)
        unfold StopAt
        refine wpList_grow rfl (.tmp 67) (.tmp 68) 63 29 rfl Tryz.underlying63 (.slice none 0 0) 1 24 Tryz.infoRows rfl (by decide) (by decide) w.heap.size R.length (.slice aR R.length cR) _ _ rfl HG4.out HB4.out.size (Below.refl _ _) [.slice none 0 0] (Newd.one (Ofr.nil _ _ 1)) rfl (by simp [Value.oneCell']) rfl (by have := HRL.out; omega) ?_
        intro v5 w5 hG5 hgr5 hlie5
        have HG6 := Lib.hid (show Grw w5 w.heap.size 29 1 v5 (rwB zs gap k R).length ((rwB zs gap k R).map inD) by rw [HR1.out, List.map_append, List.length_append]; exact hG5)
        have HB6 := Lib.hid (HB4.out.grown hgr5 HB4.out.size (fun g hg => (HG4.out.own g hg).1))
        have hbx5 : wr.heap.size < w5.heap.size := Nat.lt_of_lt_of_le (Nat.lt_of_lt_of_le blt (Nat.le_trans b3.size b4.size)) hgr5.size
        have q5 := (hgr5.cell_far ⟨wr.heap.size, 1, none⟩ (World.block_lt_of_cell? _ _ q1) (fun e => by have := HG.out.own _ e.symm; exact Nat.lt_irrefl _ this.2)).trans q1
        have HRB := Lib.hid (show 0 < (rwB zs gap k R).length ∧ (rwB zs gap k R).length ≤ k + 1 by have h1 := HRL.out; rw [HR1.out, List.length_append]; simp only [List.length_cons, List.length_nil]; omega)
        have HRW := Lib.hid (show (lastL (rwB zs gap k R)).length ≤ k by rw [HR1.out]; simp [lastL])
        clear hG5 hgr5 hlie5 q1 b3 b4
        clear HR1 HNB2 HV2 HI HJ HRL HRP HRR hk0b hk0c hk0d hk0e hk0f HC HC1 hgt hnw f1w f2w f3w f4w f5w hR0
        generalize rwB zs gap k R = RB at *
        obtain ⟨j, hj⟩ : ∃ j, RB.length = j + 1 := ⟨RB.length - 1, by have := HRB.out.1; omega⟩
        have hjk : j ≤ k := by have := HRB.out.2; omega
        have HJL := Lib.hid (show j < RB.length by omega)
        have HNX2 := Lib.hid (show rwA zs gap (k + 1) = RB.set j (RB[j]?.getD [] ++ [z.l]) by rw [HNX.out]; unfold addL lastL; rw [hj]; rfl)
        have HRW2 := Lib.hid (show (RB[j]?.getD []).length ≤ k by have := HRW.out; unfold lastL at this; rw [hj] at this; exact this)
        obtain ⟨g, cap, u, rfl, hu, hgl, ho, hne, hput⟩ := HG6.out.deepI HJL.out HB6.out.size HB6.out
        have HPUT := Lib.hid hput
        have HO := Lib.hid ho
        have HNE := Lib.hid hne
        generalize hM : RB.length = m at *
        have hm63 : m ≤ 9223372036854775807 := by omega
        have f1 : IntKind.i64.wrap ((m : Int) - 1) = (j : Int) := by rw [IntWalk.i64_in _ (by omega)]; omega
        have f2 : (j : Int) < (m : Int) := by omega
        have hjm : j < m := by omega
        have HM := Lib.hid hM
        have HJM := Lib.hid hj
        clear hj hM
        clear HRB HRW HNX hput ho hne
        go_wp2
        go_region_law ((refine step_of_list rfl ?_); (go_loud (refine wpList_pushI rfl (.tmp 78) (.tmp 81) 29 rfl Tryz.underlying29 Tryz.infoInt w.heap.size u (RB[j]?.getD []) rfl (HO.out.belowAll (Below.refl _ _).drew) rfl (by have := HRW2.out; omega) (Nat.le_trans HB6.out.size (by simp)) ?_)); (intro v7 w7 ho7 hgr7 hlie7); (obtain ⟨⟨u0, hs0⟩, hs1, hG7, hB7⟩ := HPUT.out w7 v7 _ ho7 (fun k hk => (hlie7 k hk).imp id (fun e => e)) (grown_drew hgr7)); (obtain ⟨a7, n7, c7, -, rfl, -⟩ := ho7.rd.opn); (have HG7 := Lib.hid hG7); (have HB7 := Lib.hid hB7); (clear hG7 hB7 ho7 hgr7 hlie7); (unfold wpList); (refine ⟨rfl, ?_⟩))
        all_goals
          generalize w7.setCell ⟨g, j, none⟩ (.slice a7 n7 c7) = w8 at *
          go_wp2
          go_roundw
          case rel => exact ⟨k + 1, hlt, by go_num, HS.out, HB7.out, by rw [HNX2.out, List.length_set, HM.out]; exact HG7.out⟩
          case measure => simp [intOf]; omega
    · obtain rfl : n0 = k := by omega
      have HE := Lib.hid (HAL2.out HK.out)
      have HMP := Lib.hid (show (rwA zs gap n0).map ust = rwS zs gap n0 from rw_map zs gap n0)
      have HRL := Lib.hid (rwA_len zs gap n0)
      have HRR := Lib.hid (rwA_row zs gap n0)
      have HY := Lib.hid (HYE.out)
      clear hlt
      generalize rwA zs gap n0 = R at *
      generalize rwS zs gap n0 = S at *
      generalize hM : R.length = m at *
      have hm40 : m ≤ 40 := by have := HRL.out; omega
      have hm63 : m ≤ 9223372036854775807 := by omega
      have HM := Lib.hid hM
      have HU := Lib.hid (Grw.startU HG.out)
      clear hM HRL
      go_wp2
      go_loopw [10, 87] (fun _ i wr => ∃ k : Nat, k ≤ m ∧ i = .int .i64 k ∧ Hid (RowKit.Below w.heap.size w wr) ∧ Hid (Grw wr w.heap.size 29 1 (.slice aR m cR) m ((updU R k).map inD))) (fun _ i _ => m - (intOf i).toNat)
      case atStart => exact ⟨0, Nat.zero_le _, rfl, HB.out, HU.out⟩
      case round =>
        obtain ⟨k, hk, rfl, HB2, HG2⟩ := hrel
        by_cases hlt : k < m
        · have hltI : (k : Int) < (m : Int) := by omega
          have HKL := Lib.hid (show k < (updU R k).length by rw [updU_len, HM.out]; exact hlt)
          have HUA := Lib.hid (updU_at (R := R) (k := k) (by rw [HM.out]; exact hlt))
          have HUS := Lib.hid (updU_succ (R := R) (k := k) (by rw [HM.out]; exact hlt))
          have HLK := Lib.hid (HRR.out k)
          obtain ⟨g, cap, u, hv6, hu, hgl, ho, hne, hput⟩ := HG2.out.deepI HKL.out HB2.out.size HB2.out
          simp only [Value.slice.injEq] at hv6
          obtain ⟨rfl, -, rfl⟩ := hv6
          rw [HUA.out] at ho
          have HPUT := Lib.hid hput
          have HO := Lib.hid ho
          have HNE := Lib.hid hne
          clear hput ho hne
          generalize R[k]?.getD [] = xs at *
          go_wp2_with fail
          refine (sortI_own u xs w.heap.size _ HO.out (by have := HLK.out; omega)).mono ?_
          rintro e w2 ⟨rfl, o2, g2⟩
          have hu2 := (g2.cell_far ⟨g, k, none⟩ hgl (fun e => HNE.out _ e.symm rfl)).trans hu
          have HCP := Lib.hid (compactI_own u (srt xs) w.heap.size w2 o2 (by rw [srt_len]; have := HLK.out; omega))
          have G2 := Lib.hid g2
          clear g2 o2 hu
          go_wp2_with fail
          refine HCP.out.mono ?_
          rintro e w3 ⟨v3, rfl, hv3, o3, g3⟩
          obtain ⟨⟨u0, hs0⟩, hs1, hG3, hB3⟩ := HPUT.out w3 v3 (ust xs) o3 (fun k hk => .inl (by rw [← hv3]; exact hk)) (G2.out.trans' g3)
          obtain ⟨a3, n3, c3, -, rfl, -⟩ := o3.rd.opn
          have HG3 := Lib.hid hG3
          have HB3 := Lib.hid hB3
          clear hG3 hB3 hv3 o3 g3 hu2
          go_wp2
          go_roundw
          case rel => exact ⟨k + 1, hlt, by go_num, HB3.out, by rw [← HUS.out]; exact HG3.out⟩
          case measure => simp [intOf]; omega
        · obtain rfl : m = k := by omega
          have HG3 := Lib.hid (show Grw wr w.heap.size 29 1 (.slice aR m cR) m (S.map inD) by have := HG2.out; rw [updU_all (by rw [HM.out]; exact Nat.le_refl _), HMP.out] at this; exact this)
          go_wp2
          go_ret2
          exact HY.out _ _ HE.out (HG3.out.ofr) HB2.out
end Go.Proofs.YtmkkdenhjfjmgaaGreat
namespace Go.Proofs.YtmkkdenhjfjmgaaGreat
open Go.RowKit Go.Sort
set_option maxRecDepth 100000

/-- append of a part of a row to an own row, the part may be empty. -/
theorem wpList_catA {P : Program} {ops : Array Oper} {rest : List Oper} {o : Oper} {a : Act} {Q : Exit → Act → World → Prop} {w : World} (hgd : o.guard = none) (s x : Operand) (T : TypeId)
    (ho : o.op = .call { callee := .builtin .append, args := #[s, x], argTypes := #[T, T] }) (ht : P.underlying T = some (.slice 3))
    (hinfo : (P.info? 3).map (fun i => (i.zero, i.size, i.bytes)) = some (some (.int .i64 0), 1, 8))
    (base : Nat) (v : Value) (n : Nat) (xs : List Int) (hs : a.eval s = v) (hown : w.ownsRow base 3 1 v n (ints xs))
    (ao : Option Addr) (m c : Nat) (ys : List Int) (hx : a.eval x = .slice ao m c) (hm : ys.length = m) (hy : ao = none → m = 0 ∧ c = 0) (hc : 0 < m → ∃ b off, ao = some ⟨b, off, none⟩ ∧ ∀ j, j < m → w.cell? ⟨b, off + j, none⟩ = some (.int .i64 (ys[j]?.getD 0))) (hn : n + m ≤ 1000000) (hbase : base ≤ w.heap.size)
    (h : ∀ v' w', w'.ownsRow base 3 1 v' (n + m) (ints (xs ++ ys)) → w.grownBy w' v.ownBlock → wpList P ops Q rest (a.put o.dst v') w') :
    wpList P ops Q (o :: rest) a w := by
  obtain ⟨i0, hi, hz0, hz1, hz2⟩ := info_parts hinfo
  rcases ao with _ | ad
  · obtain ⟨rfl, rfl⟩ := hy rfl
    have : ys = [] := List.eq_nil_of_length_eq_zero hm
    subst this
    refine wpList_append_own_none hgd s x T ho base 3 i0 1 ht hi v n (ints xs) hs hown hx ?_
    exact h v w (by simpa using hown) ⟨rfl, rfl, rfl, Nat.le_refl _, fun _ _ _ => rfl⟩
  · refine wpList_append_own _ hgd s x T ho base 3 i0 (.int .i64 0) 1 8 ht hi hz0 hz1 hz2 rfl (by decide) v n (ints xs) hs hown ad m c (ints ys) hx (by simpa using hm) ?_ (ints_oneCell _ _) (by unfold maxLen; omega) (by omega) hbase ?_
    · intro j u hu
      have hj : j < ys.length := by have := (List.getElem?_eq_some_iff.1 hu).1; simpa using this
      obtain ⟨b, off, e1, e2⟩ := hc (by omega)
      simp only [Option.some.injEq] at e1
      subst e1
      have e : (⟨b, off, none⟩ : Addr).add j = ⟨b, off + j, none⟩ := by unfold Addr.add; split <;> simp_all
      rw [e, e2 j (by omega), ← hu]
      simp [hj]
    · intro v' w' g1 g2 _
      exact h v' w' (by simpa [ints] using g1) g2
theorem putI_new {xs : List Int} {n : Int} {k : Nat} (hk : k ≤ xs.length) (hl : ∀ i, i < k → xs[i]?.getD 0 < n) (hg : k < xs.length → n < xs[k]?.getD 0) : putI xs n = xs.take k ++ [n] ++ xs.drop k := by
  rw [putI_at k hk hl (fun h => by have := hg h; omega), if_neg (fun h => by have := hg h.1; omega)]; simp
theorem putI_old {xs : List Int} {n : Int} {k : Nat} (hk : k < xs.length) (hl : ∀ i, i < k → xs[i]?.getD 0 < n) (hg : xs[k]?.getD 0 = n) : putI xs n = xs := by
  rw [putI_at k (Nat.le_of_lt hk) hl (fun h => by omega), if_pos ⟨hk, hg⟩]
theorem one_cell {W : World} {c : Nat} {n : Int} (h : W.cell? ⟨c, 0, none⟩ = some (.int .i64 n)) : ∀ j, j < 1 → W.cell? ⟨c, 0 + j, none⟩ = some (.int .i64 (([n] : List Int)[j]?.getD 0)) := fun j hj => by
  obtain rfl : j = 0 := by omega
  exact h
section
variable {w : World} {X Y : Obj} {T : TypeId} {n : Int}
theorem own_made1 : (w.drew.alloc (.cells #[] T)).ownsRow w.heap.size T 1 (.slice (some ⟨w.heap.size, 0, none⟩) 0 0) 0 (ints []) := World.ownsRow_made w.drew #[] 0 (Nat.le_refl _) (Nat.zero_le _) (by simp)
theorem own_made2 : ((w.drew.alloc (.cells #[] T)).alloc X).ownsRow w.heap.size T 1 (.slice (some ⟨w.heap.size, 0, none⟩) 0 0) 0 (ints []) := own_made1.alloc _
theorem own_made3 : ((w.drew.alloc X).alloc (.cells #[] T)).ownsRow w.heap.size T 1 (.slice (some ⟨w.heap.size + 1, 0, none⟩) 0 0) 0 (ints []) := by
  have := World.ownsRow_made (base := w.heap.size) (e := T) (size := 1) (w.drew.alloc X) #[] 0 (by simp) (Nat.zero_le _) (by simp)
  simpa using this
theorem bel1 : Below w.heap.size w (w.drew.alloc X) := (Below.refl w.heap.size w).drew.alloc (Nat.le_refl _) _
theorem bel2 : Below w.heap.size w ((w.drew.alloc X).alloc Y) := bel1.alloc (by simp) _
theorem cn1 : (w.alloc (.cells #[.int .i64 n] T)).cell? ⟨w.heap.size, 0, none⟩ = some (.int .i64 n) := by simp
theorem cn2 : ((w.drew.alloc X).alloc (.cells #[.int .i64 n] T)).cell? ⟨w.heap.size + 1, 0, none⟩ = some (.int .i64 n) := by
  have := cn1 (w := w.drew.alloc X) (T := T) (n := n)
  simpa using this
theorem cn3 : ((w.drew.alloc (.cells #[.int .i64 n] T)).alloc Y).cell? ⟨w.heap.size, 0, none⟩ = some (.int .i64 n) :=
  (World.cell?_of_block (heap_alloc_old _ Y (by simp))).trans (cn1 (w := w.drew))
theorem size_alloc {B : Nat} (h : B ≤ w.heap.size) : B ≤ (w.alloc X).heap.size := Nat.le_trans h (by simp)
theorem lt2 : w.heap.size + 1 < ((w.drew.alloc X).alloc Y).heap.size := by simp
theorem lt3 : w.heap.size < ((w.drew.alloc X).alloc Y).heap.size := by simp; omega
theorem ne2 : some (w.heap.size + 1) ≠ (Value.slice (some ⟨w.heap.size, 0, none⟩) 0 0).ownBlock := by simp [Value.ownBlock]
theorem ne3 : some w.heap.size ≠ (Value.slice (some ⟨w.heap.size + 1, 0, none⟩) 0 0).ownBlock := by simp [Value.ownBlock]
end
/-- What l1Put hands back. -/
def PutP (u : Value) (xs : List Int) (n : Int) (base : Nat) (w : World) (e : Ending) (w' : World) : Prop := ∃ v', e = .returned v' ∧ Own w' base v' (putI xs n) ∧ (∀ k, v'.ownBlock = some k → u.ownBlock = some k ∨ w.heap.size ≤ k) ∧ Below w.heap.size w w'
set_option maxHeartbeats 3200000 in
theorem l1Put_any (u : Value) (xs : List Int) (n : Int) (base : Nat) (w : World) (h : Own w base u xs) (hb : base ≤ w.heap.size) (hl : xs.length ≤ 1000) :
    Calls Tryz.prog 87 #[u, .int .i64 n] w (PutP u xs n base w) := by
  obtain ⟨a, cap, m, HM, rfl, hmc, hm63, ha⟩ := h.rd.opn
  have HO := Lib.hid h
  have HA := Lib.hid ha
  have HPN := Lib.hid (fun k h1 h2 h3 => @putI_new xs n k h1 h2 h3)
  have HPO := Lib.hid (fun k h1 h2 h3 => @putI_old xs n k h1 h2 h3)
  have HAN := Lib.hid (show (a = none ∧ m = 0 ∧ cap = 0) ∨ ∃ g off, a = some ⟨g, off, none⟩ from by
    rcases h with ⟨e, _⟩ | ⟨g, off, cap', cur, e, _⟩
    · simp only [Value.slice.injEq] at e; exact .inl e
    · simp only [Value.slice.injEq] at e; exact .inr ⟨g, off, e.1⟩)
  have hm1 : m ≤ 1000 := by have := HM.out; omega
  rw [HM.out] at HPN HPO
  generalize hp : putI xs n = ps at *
  have HP := Lib.hid hp
  clear hp h ha
  go_enter Tryz.func87, Tryz.ntmps87
  go_wp2
  go_loopw [5] (fun i wr => ∃ k : Nat, k ≤ m ∧ i = .int .i64 k ∧ wr = w ∧ Hid (∀ i, i < k → xs[i]?.getD 0 < n)) (fun i _ => m - (intOf i).toNat)
  case atStart => exact ⟨0, Nat.zero_le _, rfl, rfl, fun i hi => by omega⟩
  case round =>
    obtain ⟨k, hk, rfl, rfl, HL⟩ := hrel
    by_cases hlt : k < m
    · have hltI : (k : Int) < (m : Int) := by omega
      obtain ⟨b, off, rfl, hbs, hcs⟩ := HA.out (by omega)
      have c0 := hcs k hlt
      have HST := Lib.hid (fun (h : xs[k]?.getD 0 < n) => show ∀ i, i < k + 1 → xs[i]?.getD 0 < n from fun i hi => by
        rcases Nat.lt_or_ge i k with e | e
        · exact HL.out i e
        · have : i = k := by omega
          rw [this]; exact h)
      have HPN1 := Lib.hid (HPN.out k hk HL.out)
      have HPO1 := Lib.hid (HPO.out k hlt HL.out)
      have HC := Lib.hid hcs
      clear hcs
      generalize xs[k]?.getD 0 = y at *
      cases hd : decide (y < n)
      case true =>
        have HS := Lib.hid (HST.out (by simpa using hd))
        go_wp2
        go_roundw
        case rel => exact ⟨k + 1, hlt, by go_num, trivial, HS.out⟩
        case measure => simp [intOf]; omega
      have hyn : n ≤ y := by simpa using hd
      by_cases he : y = n
      · have HE := Lib.hid (HPO1.out he)
        have hb1 : (y == n) = true := by simp [he]
        have hb2 : decide (y = n) = true := by simp [he]
        clear he hyn
        go_wp2
        go_ret
        exact ⟨_, rfl, by rw [HP.out, HE.out]; exact HO.out, fun k hk => .inl hk, Below.refl _ _⟩
      · have HE := Lib.hid (HPN1.out (fun _ => by omega))
        have hb1 : (y == n) = false := by simp [he]
        have hb2 : decide (y = n) = false := by simp [he]
        clear he hyn
        go_wp2
        have HC0 := HC.out
        have HTL := Lib.hid (show (xs.take k).length = k by rw [List.length_take, HM.out]; omega)
        have HDL := Lib.hid (show (xs.drop k).length = m - k by rw [List.length_drop, HM.out])
        have HTK := Lib.hid (fun (W : World) (hW : Below wr.heap.size wr W) j (hj : j < k) => show W.cell? ⟨b, off + j, none⟩ = some (.int .i64 ((xs.take k)[j]?.getD 0)) by
          rw [List.getElem?_take, if_pos hj]; exact (hW.cell hbs).trans (HC0 j (by omega)))
        have HDK := Lib.hid (fun (W : World) (hW : Below wr.heap.size wr W) j (hj : j < m - k) => show W.cell? ⟨b, off + k + j, none⟩ = some (.int .i64 ((xs.drop k)[j]?.getD 0)) by
          rw [List.getElem?_drop, Nat.add_assoc]; exact (hW.cell hbs).trans (HC0 (k + j) (by omega)))
        clear HC0
        generalize xs.take k = ts at *
        generalize xs.drop k = ds at *
        have hkc : ¬ cap = k := by omega
        have i1 : (0 : Int) ≤ (k : Int) := by omega
        have i2 : (k : Int) ≤ (cap : Int) := by omega
        have i3 : k ≤ cap := by omega
        have i4 : (k : Int) ≤ (m : Int) := by omega
        have hck : ¬ cap - k = 0 := by omega
        go_region_law (first
          | ((refine step_of_list rfl ?_); (go_loud (refine wpList_catA rfl (.tmp 33) (.tmp 36) 29 rfl Tryz.underlying29 Tryz.infoInt wr.heap.size _ 0 [] (by rfl) (by first | exact own_made1 | exact own_made2 | exact own_made3) _ k _ ts (by rfl) HTL.out (fun e => by cases e) (fun _ => ⟨b, off, rfl, HTK.out _ (by first | exact bel1 | exact bel2)⟩) (by omega) (by first | exact bel1.size | exact bel2.size) ?_)); (intro v1 w1 o1 g1); (have B1 : Below wr.heap.size wr w1 := Below.grown (by first | exact bel1 | exact bel2) g1 (by first | exact bel1.size | exact bel2.size) (fun q hq => (by have hq2 := Option.some.inj hq; rw [← hq2]; first | exact Nat.le_refl _ | exact Nat.le_succ _))); (have NN1 := fun c h1 h2 => g1.cell_far ⟨c, 0, none⟩ h1 h2); (unfold wpList); (refine ⟨rfl, ?_⟩))
          | ((refine step_of_list rfl ?_); (go_loud (refine wpList_catA rfl (.tmp 40) (.tmp 43) 29 rfl Tryz.underlying29 Tryz.infoInt wr.heap.size v2 (0 + k + 1) _ (by rfl) o2 _ (m - k) _ ds (by rfl) HDL.out (fun e => by cases e) (fun _ => ⟨b, off + k, rfl, HDK.out _ B2⟩) (by omega) B2.size ?_)); (intro v3 w3 o3 g3); (have B3 : Below wr.heap.size wr w3 := Below.grown B2 g3 B2.size (fun q hq => (o2.lt q hq).1)); (have O3 := own_of_row o3); (obtain ⟨a3, c3, n3, -, rfl, -⟩ := O3.rd.opn); (unfold wpList); (refine ⟨rfl, ?_⟩))
          | ((refine step_of_list rfl ?_); (go_loud (refine wpList_catA rfl (.tmp 37) (.tmp 39) 29 rfl Tryz.underlying29 Tryz.infoInt wr.heap.size v1 (0 + k) _ (by rfl) (by first | exact o1 | exact o1.alloc _) _ 1 _ [n] (by rfl) rfl (fun e => by cases e) (fun _ => ⟨_, 0, rfl, one_cell (by first | exact cn1 | exact (NN1 _ lt2 ne2).trans cn2 | exact (NN1 _ lt3 ne3).trans cn3)⟩) (by omega) (by first | exact B1.size | exact size_alloc B1.size) ?_)); (intro v2 w2 o2 g2); (have B2 : Below wr.heap.size wr w2 := Below.grown (by first | exact B1 | exact B1.alloc B1.size _) g2 (by first | exact B1.size | exact size_alloc B1.size) (fun q hq => (o1.lt q hq).1)); (unfold wpList); (refine ⟨rfl, ?_⟩)))
        all_goals
          have OO := Lib.hid (O3.mono hb)
          have OL := Lib.hid (fun q hq => (O3.lt q hq).1)
          have HB3 := Lib.hid B3
          clear o3 O3 B3
          go_wp2
          go_ret
          exact ⟨_, rfl, by rw [HP.out, HE.out]; simpa using OO.out, fun q hq => .inr (OL.out q hq), HB3.out⟩
    · obtain rfl : m = k := by omega
      have HE := Lib.hid (HPN.out m (Nat.le_refl _) HL.out (fun h => absurd h (Nat.lt_irrefl m)))
      rw [List.take_of_length_le (Nat.le_of_eq HM.out), List.drop_of_length_le (Nat.le_of_eq HM.out)] at HE
      rcases HAN.out with ⟨rfl, rfl, rfl⟩ | ⟨b, off, rfl⟩
      · have HXE := Lib.hid (show xs = [] from List.eq_nil_of_length_eq_zero HM.out)
        rw [HXE.out] at HE
        go_wp2
        go_region_law (first
          | ((refine step_of_list rfl ?_); (go_loud (refine wpList_catA rfl (.tmp 33) (.tmp 36) 29 rfl Tryz.underlying29 Tryz.infoInt wr.heap.size _ 0 [] (by rfl) (by first | exact own_made1 | exact own_made2 | exact own_made3) none 0 0 [] (by rfl) rfl (fun _ => ⟨rfl, rfl⟩) (fun h => absurd h (Nat.lt_irrefl 0)) (by omega) (by first | exact bel1.size | exact bel2.size) ?_)); (intro v1 w1 o1 g1); (have B1 : Below wr.heap.size wr w1 := Below.grown (by first | exact bel1 | exact bel2) g1 (by first | exact bel1.size | exact bel2.size) (fun q hq => (by have hq2 := Option.some.inj hq; rw [← hq2]; first | exact Nat.le_refl _ | exact Nat.le_succ _))); (have NN1 := fun c h1 h2 => g1.cell_far ⟨c, 0, none⟩ h1 h2); (unfold wpList); (refine ⟨rfl, ?_⟩))
          | ((refine step_of_list rfl ?_); (go_loud (refine wpList_catA rfl (.tmp 40) (.tmp 43) 29 rfl Tryz.underlying29 Tryz.infoInt wr.heap.size v2 (0 + 0 + 1) _ (by rfl) o2 none 0 0 [] (by rfl) rfl (fun _ => ⟨rfl, rfl⟩) (fun h => absurd h (Nat.lt_irrefl 0)) (by omega) B2.size ?_)); (intro v3 w3 o3 g3); (have B3 : Below wr.heap.size wr w3 := Below.grown B2 g3 B2.size (fun q hq => (o2.lt q hq).1)); (have O3 := own_of_row o3); (obtain ⟨a3, c3, n3, -, rfl, -⟩ := O3.rd.opn); (unfold wpList); (refine ⟨rfl, ?_⟩))
          | ((refine step_of_list rfl ?_); (go_loud (refine wpList_catA rfl (.tmp 37) (.tmp 39) 29 rfl Tryz.underlying29 Tryz.infoInt wr.heap.size v1 (0 + 0) _ (by rfl) (by first | exact o1 | exact o1.alloc _) _ 1 _ [n] (by rfl) rfl (fun e => by cases e) (fun _ => ⟨_, 0, rfl, one_cell (by first | exact cn1 | exact (NN1 _ lt2 ne2).trans cn2 | exact (NN1 _ lt3 ne3).trans cn3)⟩) (by omega) (by first | exact B1.size | exact size_alloc B1.size) ?_)); (intro v2 w2 o2 g2); (have B2 : Below wr.heap.size wr w2 := Below.grown (by first | exact B1 | exact B1.alloc B1.size _) g2 (by first | exact B1.size | exact size_alloc B1.size) (fun q hq => (o1.lt q hq).1)); (unfold wpList); (refine ⟨rfl, ?_⟩)))
        all_goals
          have OO := Lib.hid (O3.mono hb)
          have OL := Lib.hid (fun q hq => (O3.lt q hq).1)
          have HB3 := Lib.hid B3
          clear o3 O3 B3
          go_wp2
          go_ret
          exact ⟨_, rfl, by rw [HP.out, HE.out]; simpa using OO.out, fun q hq => .inr (OL.out q hq), HB3.out⟩
      · have HTK := Lib.hid (fun (h0 : 0 < m) (W : World) (hW : Below wr.heap.size wr W) => show ∀ j, j < m → W.cell? ⟨b, off + j, none⟩ = some (.int .i64 (xs[j]?.getD 0)) from by
          obtain ⟨b', off', e, hbs, hcs⟩ := HA.out h0
          simp only [Option.some.injEq, Addr.mk.injEq, and_true] at e
          obtain ⟨rfl, rfl⟩ := e
          exact fun j hj => (hW.cell hbs).trans (hcs j hj))
        have i1 : (0 : Int) ≤ (m : Int) := by omega
        have i2 : (m : Int) ≤ (cap : Int) := by omega
        have i5 : ¬ m < m := by omega
        clear HA hlt HAN
        by_cases hcm : cap = m
        · obtain rfl : m = cap := hcm.symm
          clear hcm
          go_wp2
          go_region_law (first
            | ((refine step_of_list rfl ?_); (go_loud (refine wpList_catA rfl (.tmp 33) (.tmp 36) 29 rfl Tryz.underlying29 Tryz.infoInt wr.heap.size _ 0 [] (by rfl) (by first | exact own_made1 | exact own_made2 | exact own_made3) _ m _ xs (by rfl) HM.out (fun e => by cases e) (fun h0 => ⟨b, off, rfl, HTK.out h0 _ (by first | exact bel1 | exact bel2)⟩) (by omega) (by first | exact bel1.size | exact bel2.size) ?_)); (intro v1 w1 o1 g1); (have B1 : Below wr.heap.size wr w1 := Below.grown (by first | exact bel1 | exact bel2) g1 (by first | exact bel1.size | exact bel2.size) (fun q hq => (by have hq2 := Option.some.inj hq; rw [← hq2]; first | exact Nat.le_refl _ | exact Nat.le_succ _))); (have NN1 := fun c h1 h2 => g1.cell_far ⟨c, 0, none⟩ h1 h2); (unfold wpList); (refine ⟨rfl, ?_⟩))
            | ((refine step_of_list rfl ?_); (go_loud (refine wpList_catA rfl (.tmp 40) (.tmp 43) 29 rfl Tryz.underlying29 Tryz.infoInt wr.heap.size v2 (0 + m + 1) _ (by rfl) o2 _ 0 _ [] (by rfl) rfl (fun e => by cases e) (fun h => absurd h (Nat.lt_irrefl 0)) (by omega) B2.size ?_)); (intro v3 w3 o3 g3); (have B3 : Below wr.heap.size wr w3 := Below.grown B2 g3 B2.size (fun q hq => (o2.lt q hq).1)); (have O3 := own_of_row o3); (obtain ⟨a3, c3, n3, -, rfl, -⟩ := O3.rd.opn); (unfold wpList); (refine ⟨rfl, ?_⟩))
            | ((refine step_of_list rfl ?_); (go_loud (refine wpList_catA rfl (.tmp 37) (.tmp 39) 29 rfl Tryz.underlying29 Tryz.infoInt wr.heap.size v1 (0 + m) _ (by rfl) (by first | exact o1 | exact o1.alloc _) _ 1 _ [n] (by rfl) rfl (fun e => by cases e) (fun _ => ⟨_, 0, rfl, one_cell (by first | exact cn1 | exact (NN1 _ lt2 ne2).trans cn2 | exact (NN1 _ lt3 ne3).trans cn3)⟩) (by omega) (by first | exact B1.size | exact size_alloc B1.size) ?_)); (intro v2 w2 o2 g2); (have B2 : Below wr.heap.size wr w2 := Below.grown (by first | exact B1 | exact B1.alloc B1.size _) g2 (by first | exact B1.size | exact size_alloc B1.size) (fun q hq => (o1.lt q hq).1)); (unfold wpList); (refine ⟨rfl, ?_⟩)))
          all_goals
            have OO := Lib.hid (O3.mono hb)
            have OL := Lib.hid (fun q hq => (O3.lt q hq).1)
            have HB3 := Lib.hid B3
            clear o3 O3 B3
            go_wp2
            go_ret
            exact ⟨_, rfl, by rw [HP.out, HE.out]; simpa using OO.out, fun q hq => .inr (OL.out q hq), HB3.out⟩
        · have hck : ¬ cap - m = 0 := by omega
          go_wp2
          go_region_law (first
            | ((refine step_of_list rfl ?_); (go_loud (refine wpList_catA rfl (.tmp 33) (.tmp 36) 29 rfl Tryz.underlying29 Tryz.infoInt wr.heap.size _ 0 [] (by rfl) (by first | exact own_made1 | exact own_made2 | exact own_made3) _ m _ xs (by rfl) HM.out (fun e => by cases e) (fun h0 => ⟨b, off, rfl, HTK.out h0 _ (by first | exact bel1 | exact bel2)⟩) (by omega) (by first | exact bel1.size | exact bel2.size) ?_)); (intro v1 w1 o1 g1); (have B1 : Below wr.heap.size wr w1 := Below.grown (by first | exact bel1 | exact bel2) g1 (by first | exact bel1.size | exact bel2.size) (fun q hq => (by have hq2 := Option.some.inj hq; rw [← hq2]; first | exact Nat.le_refl _ | exact Nat.le_succ _))); (have NN1 := fun c h1 h2 => g1.cell_far ⟨c, 0, none⟩ h1 h2); (unfold wpList); (refine ⟨rfl, ?_⟩))
            | ((refine step_of_list rfl ?_); (go_loud (refine wpList_catA rfl (.tmp 40) (.tmp 43) 29 rfl Tryz.underlying29 Tryz.infoInt wr.heap.size v2 (0 + m + 1) _ (by rfl) o2 _ 0 _ [] (by rfl) rfl (fun e => by cases e) (fun h => absurd h (Nat.lt_irrefl 0)) (by omega) B2.size ?_)); (intro v3 w3 o3 g3); (have B3 : Below wr.heap.size wr w3 := Below.grown B2 g3 B2.size (fun q hq => (o2.lt q hq).1)); (have O3 := own_of_row o3); (obtain ⟨a3, c3, n3, -, rfl, -⟩ := O3.rd.opn); (unfold wpList); (refine ⟨rfl, ?_⟩))
            | ((refine step_of_list rfl ?_); (go_loud (refine wpList_catA rfl (.tmp 37) (.tmp 39) 29 rfl Tryz.underlying29 Tryz.infoInt wr.heap.size v1 (0 + m) _ (by rfl) (by first | exact o1 | exact o1.alloc _) _ 1 _ [n] (by rfl) rfl (fun e => by cases e) (fun _ => ⟨_, 0, rfl, one_cell (by first | exact cn1 | exact (NN1 _ lt2 ne2).trans cn2 | exact (NN1 _ lt3 ne3).trans cn3)⟩) (by omega) (by first | exact B1.size | exact size_alloc B1.size) ?_)); (intro v2 w2 o2 g2); (have B2 : Below wr.heap.size wr w2 := Below.grown (by first | exact B1 | exact B1.alloc B1.size _) g2 (by first | exact B1.size | exact size_alloc B1.size) (fun q hq => (o1.lt q hq).1)); (unfold wpList); (refine ⟨rfl, ?_⟩)))
          all_goals
            have OO := Lib.hid (O3.mono hb)
            have OL := Lib.hid (fun q hq => (O3.lt q hq).1)
            have HB3 := Lib.hid B3
            clear o3 O3 B3
            go_wp2
            go_ret
            exact ⟨_, rfl, by rw [HP.out, HE.out]; simpa using OO.out, fun q hq => .inr (OL.out q hq), HB3.out⟩
end Go.Proofs.YtmkkdenhjfjmgaaGreat
