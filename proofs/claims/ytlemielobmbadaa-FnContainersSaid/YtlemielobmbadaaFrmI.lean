/- Walks: reading a frame, the program's. -/
import Derived.Test.YtlemielobmbadaaFrmS
namespace Go.Proofs.Ytlemielobmbadaa
open Go.RowKit
set_option maxRecDepth 100000

set_option maxHeartbeats 3200000 in
theorem implPrs_any (v : Value) (xs : List Int) (w : World) (h : Rd w v xs) :
    Calls Try.prog 41 #[v] w (PrsP w xs) := by
  have h0 := h
  obtain ⟨a, cap, n, HX, rfl, hnc, hla, ha⟩ := h.opn
  by_cases hn : n = 17
  case neg =>
    have hne : ((n : Int) != 17) = true := by rw [bne_iff_ne]; omega
    have HO := Lib.hid (show prsOk xs = false by unfold prsOk; rw [HX.out]; simp [hn])
    clear hn
    go_enter Try.func41, Try.ntmps41
    go_wp2
    exact bodyPost_ret (v := .tuple #[.agg #[.int .i64 0, .int .i64 0, .slice none 0 0], .bool false]) (by simp [results, Try.results41, go_sem]) rfl (PrsP.no HO.out ((Below.refl _ _).alloc (Nat.le_refl _) _))
  subst hn
  obtain ⟨b, off, rfl, hbs, -⟩ := ha (by omega)
  have HRD := Lib.hid (fun w' (hp : Ps w w') => h0.belowAll hp.below)
  have HC := Lib.hid (fun w' (hp : Ps w w') => show Ps w w' ∧ w'.cell? ⟨b, off + 2, none⟩ = some (.int .i64 (xs[2]?.getD 0)) ∧ w'.cell? ⟨b, off + 3, none⟩ = some (.int .i64 (xs[3]?.getD 0)) ∧ Rd w' (.slice (some ⟨b, off + 4, none⟩) 12 (cap - 4)) (sub xs 4 12) from by
    obtain ⟨a2, cap2, n2, HX2, e2, hnc2, hla2, ha2⟩ := (HRD.out w' hp).opnc
    obtain ⟨HCM, ha2⟩ := ha2
    obtain rfl : n2 = 17 := by rw [← HX2.out, HX.out]
    obtain ⟨b2, o2, e3, hb2, hc2⟩ := ha2 (by omega)
    subst e3
    simp only [Value.slice.injEq, Option.some.injEq, Addr.mk.injEq, and_true, true_and] at e2
    obtain ⟨⟨rfl, rfl⟩, rfl⟩ := e2
    exact ⟨hp, hc2 2 (by omega), hc2 3 (by omega), rd_sub HX.out hnc HCM.out hb2 hc2 4 12 (by omega)⟩)
  have hsl : (sub xs 4 12).length = 12 := sub_len (by rw [HX.out]; omega)
  have HSL := Lib.hid hsl
  have HOW := Lib.hid (fun w' (hp : Ps w w') => clone_any _ (sub xs 4 12) w' (HC.out _ hp).2.2.2 (by rw [hsl]; decide) (by rw [hsl]; decide))
  have h16 : (16 : Int) ≤ (cap : Int) := by omega
  have h16' : ¬ (cap : Int) < 16 := by omega
  have h16n : 16 ≤ cap := by omega
  have h4 : ¬ cap = 4 := by omega
  have hpz : Ps w (Wz w) := Below.refl _ _
  have HPZ := Lib.hid hpz
  have HNO := Lib.hid (fun w' => @PrsP.no w w' xs)
  clear hsl hpz h0 ha
  go_enter Try.func41, Try.ntmps41
  go_upto_region 3 with fail
  have hS0 : Ps w (w.alloc (.cells #[.int .i64 0, .int .i64 0, .slice none 0 0] 50)) := HPZ.out
  generalize w.alloc (.cells #[.int .i64 0, .int .i64 0, .slice none 0 0] 50) = W0 at *
  have HS0 := Lib.hid hS0
  clear hS0 HPZ
  go_cut [4] from 9 to 18 (fun s4 wx => ∃ b4 u, s4 = .pointer (some ⟨b4, 0, none⟩) ∧ Hid (b4 < wx.heap.size) ∧ Hid (w.heap.size + 1 ≤ b4) ∧ wx.cell? ⟨b4, 0, none⟩ = some (.int .i64 (xs[2]?.getD 0)) ∧ wx.cell? ⟨b4, 1, none⟩ = some (.int .i64 (xs[3]?.getD 0)) ∧ wx.cell? ⟨b4, 2, none⟩ = some u ∧ Hid (Own wx (w.heap.size + 1) u (sub xs 4 12)) ∧ Hid (Ps w wx))
  case first =>
    have S0 : Ps w W0.drew := HS0.out.drew
    have z0 := HS0.out.size
    go_region_held3 (fun w' => Ps w w' ∧ w'.cell? ⟨b, off + 2, none⟩ = some (.int .i64 (xs[2]?.getD 0)) ∧ w'.cell? ⟨b, off + 3, none⟩ = some (.int .i64 (xs[3]?.getD 0)) ∧ Rd w' (.slice (some ⟨b, off + 4, none⟩) 12 (cap - 4)) (sub xs 4 12))
      (first
        | exact HC.out _ (by assumption)
        | exact HC.out _ (Ps.alloc (And.left (by assumption)) _)
        | exact HC.out _ (Ps.alloc (by assumption) _)
        | exact HC.out _ (Ps.set (Ps.set (Ps.set (And.left (by assumption)) (by omega)) (by omega)) (by omega)))
      (first
        | (go_at_call 88; go_loud (refine (HOW.out _ (And.left (by assumption))).mono ?_; rintro e w5 ⟨u5, rfl, o5, b5⟩; obtain ⟨a5, c5, n5, HX5, rfl, -⟩ := o5.rd.opn; have s5 : Ps w w5 := Ps.call (And.left (by assumption)) b5; have z5 := s5.size; have HO5 := Lib.hid o5; (try have k5 := kept_newD' b5); (try have k5 := kept_new' b5); clear b5 o5; (try (have l0 := blk3 k5; obtain ⟨l1, l2, l3, l4, l5, l6, l7⟩ := l0)))))
    · have HO6 := Lib.hid (HO5.out.mono (show w.heap.size + 1 ≤ W0.drew.heap.size from z0))
      go_wp2_with fail
      go_meet
      exact ⟨_, _, rfl, by show _ < (_ : World).heap.size; simp, z5, by simp [go_sem], by simp [go_sem], by simp [go_sem], HO6.out.alloc _, Ps.alloc s5 _⟩
    · have HO5' := Lib.hid (HO5.out.mono (show W0.heap.size + 1 ≤ _ by simp))
      have HO6 := Lib.hid ((HO5'.out.set3 (b := W0.heap.size) (u1 := .int .i64 (xs[2]?.getD 0)) (u2 := .int .i64 (xs[3]?.getD 0)) (u3 := .slice a5 n5 c5) (Nat.lt_succ_self _)).mono (show w.heap.size + 1 ≤ W0.heap.size + 1 by omega))
      clear HO5 HO5'
      go_wp2_with fail
      go_meet
      exact ⟨_, _, rfl, by show _ < (_ : World).heap.size; simp; exact l7, z0, by simp [go_sem, l1], by simp [go_sem, l2], by simp [go_sem, l3], HO6.out, Ps.set (Ps.set (Ps.set s5 (by omega)) (by omega)) (by omega)⟩
  case rest =>
  obtain ⟨b4, u, rfl, hb4, hb4', r1, r2, r3, HOU, HPS⟩ := hcut
  obtain ⟨a5, c5, n5, HX5, rfl, -⟩ := HOU.out.rd.opn
  have hrf : RdF wc (.agg #[.int .i64 (xs[2]?.getD 0), .int .i64 (xs[3]?.getD 0), .slice a5 n5 c5]) (prsF xs) := ⟨_, rfl, HOU.out.rd⟩
  have HRF := Lib.hid hrf
  have hv := implValid_any _ (prsF xs) _ hrf
  unfold FrmOkP at hv
  have HV := Lib.hid hv
  have HPO := Lib.hid (show prsOk xs = (frmOk (prsF xs) && eqL (frmL (prsF xs)) xs) by unfold prsOk; rw [HX.out]; simp)
  have HYES := Lib.hid (fun w' u => @PrsP.yes w w' xs u)
  have HL12 := Lib.hid (show (prsF xs).l.length = 12 from HSL.out)
  clear hrf hv
  generalize frmOk (prsF xs) = ok at *
  cases ok
  · have HF := Lib.hid (show prsOk xs = false from HPO.out)
    go_wp2_with fail
    refine HV.out.mono ?_
    rintro e w6 ⟨rfl, b6⟩
    have hp6 := HPS.out.call b6
    have HB6 := Lib.hid hp6.below
    obtain ⟨c0, c1, c2, c3, c4, c5', c6⟩ := blk3 hp6.blk
    clear b6 hp6
    go_wp2
    exact bodyPost_ret (v := .tuple #[.agg #[.int .i64 0, .int .i64 0, .slice none 0 0], .bool false]) (by simp [results, Try.results41, go_sem, c0, c1, c2]) rfl (HNO.out _ HF.out (((HB6.out.setCell (p := ⟨w.heap.size, 0, none⟩) (Nat.le_refl _) _).setCell (p := ⟨w.heap.size, 1, none⟩) (Nat.le_refl _) _).setCell (p := ⟨w.heap.size, 2, none⟩) (Nat.le_refl _) _))
  go_wp2_with fail
  refine HV.out.mono ?_
  rintro e w6 ⟨rfl, b6⟩
  have HP6 := Lib.hid (HPS.out.call b6)
  have HU6 := Lib.hid (HOU.out.belowAll b6)
  have HRF6 := Lib.hid (HRF.out.belowAll b6)
  have r1 := (b6.cell (p := ⟨b4, 0, none⟩) hb4.out).trans r1
  have r2 := (b6.cell (p := ⟨b4, 1, none⟩) hb4.out).trans r2
  have r3 := (b6.cell (p := ⟨b4, 2, none⟩) hb4.out).trans r3
  have hb6 := Lib.hid (show b4 < w6.heap.size from Nat.lt_of_lt_of_le hb4.out b6.size)
  clear b6 HPS HOU HRF HV
  go_wp2_with fail
  refine (bytesOf_any _ (prsF xs) _ HRF6.out HL12.out).mono ?_
  rintro e w7 ⟨v7, rfl, o7, b7⟩
  have HP7 := Lib.hid (HP6.out.call b7)
  have HU7 := Lib.hid (HU6.out.belowAll b7)
  have HO7 := Lib.hid o7.rd
  have r1 := (b7.cell (p := ⟨b4, 0, none⟩) hb6.out).trans r1
  have r2 := (b7.cell (p := ⟨b4, 1, none⟩) hb6.out).trans r2
  have r3 := (b7.cell (p := ⟨b4, 2, none⟩) hb6.out).trans r3
  clear b7 HP6 HU6 HRF6 o7
  have hv := slEqual_any v7 _ _ _ _ HO7.out (HRD.out _ HP7.out)
  have HV := Lib.hid hv
  clear hv
  generalize eqL (frmL (prsF xs)) xs = sm at *
  go_wp2_with fail
  refine HV.out.mono ?_
  rintro e w8 ⟨rfl, n8, rfl⟩
  have hp8 : Ps w (w7.drewN n8) := Below.trans HP7.out ⟨rfl, rfl, rfl, Nat.le_refl _, fun _ _ => rfl⟩
  have HB8 := Lib.hid hp8.below
  have HU8 := Lib.hid (show Own (w7.drewN n8) (w.heap.size + 1) (.slice a5 n5 c5) (sub xs 4 12) from HU7.out)
  have r1 : (w7.drewN n8).cell? ⟨b4, 0, none⟩ = some (.int .i64 (xs[2]?.getD 0)) := r1
  have r2 : (w7.drewN n8).cell? ⟨b4, 1, none⟩ = some (.int .i64 (xs[3]?.getD 0)) := r2
  have r3 : (w7.drewN n8).cell? ⟨b4, 2, none⟩ = some (.slice a5 n5 c5) := r3
  obtain ⟨c0, c1, c2, c3, c4, c5', c6⟩ := blk3 hp8.blk
  clear hp8 HP7 HU7 HO7 HV
  generalize w7.drewN n8 = W8 at *
  cases sm
  · have HF := Lib.hid (show prsOk xs = false from HPO.out)
    go_wp2
    exact bodyPost_ret (v := .tuple #[.agg #[.int .i64 0, .int .i64 0, .slice none 0 0], .bool false]) (by simp [results, Try.results41, go_sem, c0, c1, c2]) rfl (HNO.out _ HF.out (((HB8.out.setCell (p := ⟨w.heap.size, 0, none⟩) (Nat.le_refl _) _).setCell (p := ⟨w.heap.size, 1, none⟩) (Nat.le_refl _) _).setCell (p := ⟨w.heap.size, 2, none⟩) (Nat.le_refl _) _))
  · have HF := Lib.hid (show prsOk xs = true from HPO.out)
    go_wp2
    exact bodyPost_ret (v := .tuple #[.agg #[.int .i64 (xs[2]?.getD 0), .int .i64 (xs[3]?.getD 0), .slice a5 n5 c5], .bool true]) (by simp [results, Try.results41, go_sem, c0, c1, c2]) rfl (HYES.out _ _ HF.out ((HU8.out.set3 (Nat.lt_succ_self _)).mono (Nat.le_succ _)) (((HB8.out.setCell (p := ⟨w.heap.size, 0, none⟩) (Nat.le_refl _) _).setCell (p := ⟨w.heap.size, 1, none⟩) (Nat.le_refl _) _).setCell (p := ⟨w.heap.size, 2, none⟩) (Nat.le_refl _) _))
end Go.Proofs.Ytlemielobmbadaa
