/- Walks: JustifyBuffer, the reference's. -/
import Derived.Test.YtlemielobmbadaaMovW
namespace Go.Proofs.Ytlemielobmbadaa
open Go.RowKit
set_option maxRecDepth 100000
set_option maxHeartbeats 3200000 in
theorem specJus_any (f : Int) (v : Value) (ws : List Int) (size lo hi : Int) (w : World) (h : Rd w v ws) :
    Calls Try.prog 59 #[.int .i64 f, v, .int .i64 size, .int .i64 lo, .int .i64 hi] w (JusP w f ws size lo hi) := by
  obtain ⟨a, cap, n, HN, rfl, hnc, hnl, ha⟩ := h.opn
  have HNO := Lib.hid (fun w' v1 v2 => @JusP.no w w' f ws size lo hi v1 v2)
  have HYES := Lib.hid (fun w' v1 v2 n => @JusP.yes w w' f ws size lo hi v1 v2 n)
  have HOK := Lib.hid (show jusOk f ws size lo hi = (jusPre f n size lo hi && jusTo f ws size lo hi n) by rw [jusOk, HN.out])
  have HPRE := Lib.hid (show jusPre f n size lo hi = (inB size 1 100 && inB f 0 size && inB lo 0 hi && decide (hi ≤ size) && decide (n ≤ 40)) from rfl)
  have HPP := Lib.hid (@jusPre_parts f n size lo hi)
  have HA := Lib.hid ha
  clear ha h
  have HL0 := Lib.hid (@two_lit w)
  cases h1 : inB size 1 100
  · have HF := Lib.hid (show jusOk f ws size lo hi = false by rw [HOK.out, HPRE.out, h1]; rfl)
    go_enter Try.func59, Try.ntmps59
    go_wp2_with (go_at_call 71; refine (l1In_any _ _ _ _).mono ?_; rintro e w' ⟨rfl, rfl⟩)
    refine bodyPost_ret (results_tmp3 rfl _ _ _) rfl ?_
    exact (HNO.out _ _ _ HF.out (own_of_row HL0.out.1) (own_of_row HL0.out.2.1) HL0.out.2.2.2)
  cases h2 : inB f 0 size
  · have HF := Lib.hid (show jusOk f ws size lo hi = false by rw [HOK.out, HPRE.out, h1, h2]; rfl)
    go_enter Try.func59, Try.ntmps59
    go_wp2_with (go_at_call 71; refine (l1In_any _ _ _ _).mono ?_; rintro e w' ⟨rfl, rfl⟩)
    refine bodyPost_ret (results_tmp3 rfl _ _ _) rfl ?_
    exact (HNO.out _ _ _ HF.out (own_of_row HL0.out.1) (own_of_row HL0.out.2.1) HL0.out.2.2.2)
  cases h3 : inB lo 0 hi
  · have HF := Lib.hid (show jusOk f ws size lo hi = false by rw [HOK.out, HPRE.out, h1, h2, h3]; rfl)
    go_enter Try.func59, Try.ntmps59
    go_wp2_with (go_at_call 71; refine (l1In_any _ _ _ _).mono ?_; rintro e w' ⟨rfl, rfl⟩)
    refine bodyPost_ret (results_tmp3 rfl _ _ _) rfl ?_
    exact (HNO.out _ _ _ HF.out (own_of_row HL0.out.1) (own_of_row HL0.out.2.1) HL0.out.2.2.2)
  by_cases h4 : size < hi
  · have HF := Lib.hid (show jusOk f ws size lo hi = false by rw [HOK.out, HPRE.out, decide_eq_false (show ¬ hi ≤ size by omega)]; simp)
    have h4b : decide (size < hi) = true := by simpa using h4
    go_enter Try.func59, Try.ntmps59
    go_wp2_with (go_at_call 71; refine (l1In_any _ _ _ _).mono ?_; rintro e w' ⟨rfl, rfl⟩)
    refine bodyPost_ret (results_tmp3 rfl _ _ _) rfl ?_
    exact (HNO.out _ _ _ HF.out (own_of_row HL0.out.1) (own_of_row HL0.out.2.1) HL0.out.2.2.2)
  have h4b : decide (size < hi) = false := by simpa using h4
  by_cases h5 : 40 < n
  · have HF := Lib.hid (show jusOk f ws size lo hi = false by rw [HOK.out, HPRE.out, decide_eq_false (show ¬ n ≤ 40 by omega)]; simp)
    have h5I : (40 : Int) < (n : Int) := by omega
    have h5b : decide ((40 : Int) < (n : Int)) = true := by simpa using h5I
    clear h5
    go_enter Try.func59, Try.ntmps59
    go_wp2_with (go_at_call 71; refine (l1In_any _ _ _ _).mono ?_; rintro e w' ⟨rfl, rfl⟩)
    refine bodyPost_ret (results_tmp3 rfl _ _ _) rfl ?_
    exact (HNO.out _ _ _ HF.out (own_of_row HL0.out.1) (own_of_row HL0.out.2.1) HL0.out.2.2.2)
  have h5I : ¬ (40 : Int) < (n : Int) := by omega
  have h5b : decide ((40 : Int) < (n : Int)) = false := by simpa using h5I
  have hpre : jusPre f n size lo hi = true := by
    rw [HPRE.out, h1, h2, h3, decide_eq_true (show hi ≤ size by omega), decide_eq_true (show n ≤ 40 by omega)]; rfl
  obtain ⟨hs, hf, hlo, hhi, hn40⟩ := HPP.out hpre
  have HO2 := Lib.hid (show jusOk f ws size lo hi = jusTo f ws size lo hi n by rw [HOK.out, hpre]; rfl)
  clear HPP hpre HPRE HOK
  go_enter Try.func59, Try.ntmps59
  go_wp2_with (go_at_call 71; refine (l1In_any _ _ _ _).mono ?_; rintro e w' ⟨rfl, rfl⟩)
  have HTS := Lib.hid (fun k => @jusTo_step f ws size lo hi k)
  have HTN := Lib.hid (fun k n (h : k < n) => @jusTo_no f ws size lo hi k n h)
  have HT0 := Lib.hid (@two_lit w)
  go_loopw [0, 13, 14, 15, 16] (fun fv mv lv iv _ wr => ∃ (k : Nat) (fa : Int) (a1 : Option Addr) (c1 : Nat) (a2 : Option Addr) (c2 : Nat), k ≤ n ∧ iv = .int .i64 (k : Int) ∧ fv = .int .i64 fa ∧ mv = .slice a1 k c1 ∧ lv = .slice a2 k c2 ∧ (0 ≤ fa ∧ fa ≤ 200) ∧ Hid (fillAt f ws lo hi k = fa) ∧ Hid (jusTo f ws size lo hi k = true) ∧ Hid (Two w wr w.heap.size (.slice a1 k c1) (.slice a2 k c2) k (movTo f ws lo hi k) (filTo f ws lo hi k))) (fun _ _ _ iv _ _ => 100 - (intOf iv).toNat)
  case atStart => exact ⟨0, f, _, _, _, _, by omega, rfl, rfl, rfl, rfl, by omega, rfl, rfl, HT0.out⟩
  case round =>
    clear HT0
    obtain ⟨k, fa, a1, c1, a2, c2, hk, rfl, rfl, rfl, rfl, hfa, HFA, HT, HTW⟩ := hrel
    by_cases hlt : k < n
    · have hltI : (k : Int) < (n : Int) := by omega
      obtain ⟨b, off, rfl, hbs, hcs⟩ := HA.out (by omega)
      have hck := (HTW.out.2.2.2.cell (p := ⟨b, off + k, none⟩) hbs).trans (hcs k hlt)
      have HG := Lib.hid (show jusGood f ws size lo hi k = (inB (ws[k]?.getD 0) 0 14 && decide (fa + ws[k]?.getD 0 ≤ size) && decide (0 ≤ fa + ws[k]?.getD 0 - 12 - mvt (fa + ws[k]?.getD 0) lo hi)) by rw [← HFA.out]; rfl)
      have HFN := Lib.hid (show fillAt f ws lo hi (k + 1) = fa + ws[k]?.getD 0 - 12 - mvt (fa + ws[k]?.getD 0) lo hi by rw [← HFA.out]; rfl)
      have HMS := Lib.hid (show movTo f ws lo hi (k + 1) = movTo f ws lo hi k ++ [mvt (fa + ws[k]?.getD 0) lo hi] by rw [← HFA.out]; exact movTo_step f ws lo hi k)
      have HFS := Lib.hid (filTo_step f ws lo hi k)
      have HNK := Lib.hid (HTN.out k n hlt)
      have HSK := Lib.hid (HTS.out k HT.out)
      have HNO2 := Lib.hid (fun (h : jusGood f ws size lo hi k = false) => HNO.out _ _ _ (HO2.out.trans (HNK.out h)) ((own_of_row (@two_lit wr).1).mono HTW.out.2.2.2.size) ((own_of_row (@two_lit wr).2.1).mono HTW.out.2.2.2.size) (HTW.out.2.2.2.trans ((@two_lit wr).2.2.2.mono HTW.out.2.2.2.size)))
      clear hcs HNK HFA HT
      generalize ws[k]?.getD 0 = x at *
      cases hx : inB x 0 14
      · have HF := Lib.hid (HNO2.out (by rw [HG.out, hx]; rfl))
        go_wp2_with (go_at_call 71; refine (l1In_any _ _ _ _).mono ?_; rintro e w' ⟨rfl, rfl⟩)
        refine bodyPost_ret (results_tmp3 rfl _ _ _) rfl ?_
        exact HF.out
      have hxb := inB_true hx
      obtain ⟨m, HM, hm⟩ : ∃ m, Hid (mvt (fa + x) lo hi = m) ∧ ((m = -1 ∧ (fa + x < lo ∧ decide (fa + x < lo) = true) ∧ ¬ hi < fa + x ∧ decide (hi < fa + x) = false) ∨ (m = 1 ∧ (¬ (fa + x < lo) ∧ decide (fa + x < lo) = false) ∧ hi < fa + x ∧ decide (hi < fa + x) = true) ∨ (m = 0 ∧ (¬ (fa + x < lo) ∧ decide (fa + x < lo) = false) ∧ ¬ hi < fa + x ∧ decide (hi < fa + x) = false)) := by
        refine ⟨_, rfl, ?_⟩
        unfold mvt
        by_cases e1 : fa + x < lo
        · rw [if_pos e1]; exact .inl ⟨rfl, ⟨e1, decide_eq_true e1⟩, by omega, decide_eq_false (by omega)⟩
        · rw [if_neg e1]
          by_cases e2 : hi < fa + x
          · rw [if_pos e2]; exact .inr (.inl ⟨rfl, ⟨e1, decide_eq_false e1⟩, e2, decide_eq_true e2⟩)
          · rw [if_neg e2]; exact .inr (.inr ⟨rfl, ⟨e1, decide_eq_false e1⟩, e2, decide_eq_false e2⟩)
      rw [HM.out] at HG HFN HMS
      clear HM
      have hmb : -1 ≤ m ∧ m ≤ 1 := by omega
      have HMB := Lib.hid hmb
      by_cases hg : size < fa + x ∨ fa + x < 12 + m
      · have HF := Lib.hid (HNO2.out (by rw [HG.out, hx]; rcases hg with h | h; (· rw [decide_eq_false (show ¬ fa + x ≤ size by omega)]; simp); (· rw [decide_eq_false (show ¬ 0 ≤ fa + x - 12 - m by omega)]; simp)))
        by_cases g1 : size < fa + x
        · have g2 : decide (size < fa + x) = true := decide_eq_true g1
          clear hg hm
          go_wp2_with (go_at_call 71; refine (l1In_any _ _ _ _).mono ?_; rintro e w' ⟨rfl, rfl⟩)
          refine bodyPost_ret (results_tmp3 rfl _ _ _) rfl ?_
          exact HF.out
        · have g2 : decide (size < fa + x) = false := decide_eq_false g1
          have g3 : fa + x < 12 + m := by omega
          clear hg
          rcases hm with ⟨rfl, ⟨e1, d1⟩, e2, d2⟩ | ⟨rfl, ⟨e1, d1⟩, e2, d2⟩ | ⟨rfl, ⟨e1, d1⟩, e2, d2⟩
          · have g5 : fa + x - 11 < 0 := by omega
            have g6 : decide (fa + x - 11 < 0) = true := decide_eq_true g5
            go_wp2_with (go_at_call 71; refine (l1In_any _ _ _ _).mono ?_; rintro e w' ⟨rfl, rfl⟩)
            refine bodyPost_ret (results_tmp3 rfl _ _ _) rfl ?_
            exact HF.out
          · have g5 : fa + x - 13 < 0 := by omega
            have g6 : decide (fa + x - 13 < 0) = true := decide_eq_true g5
            go_wp2_with (go_at_call 71; refine (l1In_any _ _ _ _).mono ?_; rintro e w' ⟨rfl, rfl⟩)
            refine bodyPost_ret (results_tmp3 rfl _ _ _) rfl ?_
            exact HF.out
          · have g5 : fa + x - 12 < 0 := by omega
            have g6 : decide (fa + x - 12 < 0) = true := decide_eq_true g5
            go_wp2_with (go_at_call 71; refine (l1In_any _ _ _ _).mono ?_; rintro e w' ⟨rfl, rfl⟩)
            refine bodyPost_ret (results_tmp3 rfl _ _ _) rfl ?_
            exact HF.out
      · have g1 : ¬ size < fa + x := by omega
        have g3 : ¬ fa + x < 12 + m := by omega
        have g2 : decide (size < fa + x) = false := decide_eq_false g1
        have g4 : decide (fa + x < 12 + m) = false := decide_eq_false g3
        have HT2 := Lib.hid (HSK.out (by rw [HG.out, hx, decide_eq_true (show fa + x ≤ size by omega), decide_eq_true (show 0 ≤ fa + x - 12 - m by omega)]; rfl))
        have hnf : 0 ≤ fa + x - (12 + m) ∧ fa + x - (12 + m) ≤ 200 := by omega
        have hne : fa + x - 12 - m = fa + x - (12 + m) := by omega
        rw [HFN.out, hne] at HFS
        rw [hne] at HFN
        have HNF := Lib.hid hnf
        clear hg HG HSK HNO2 hne hnf
        have hsz := HTW.out.2.2.2.size
        rcases hm with ⟨rfl, ⟨e1, d1⟩, e2, d2⟩ | ⟨rfl, ⟨e1, d1⟩, e2, d2⟩ | ⟨rfl, ⟨e1, d1⟩, e2, d2⟩
        all_goals
          first
            | (rw [show fa + x - (12 + -1) = fa + x - 12 + 1 by omega] at HFS HFN HNF; have g5 : ¬ fa + x - 12 + 1 < 0 := (by omega); have g6 : decide (fa + x - 12 + 1 < 0) = false := decide_eq_false g5)
            | (rw [show fa + x - (12 + 1) = fa + x - 12 - 1 by omega] at HFS HFN HNF; have g5 : ¬ fa + x - 12 - 1 < 0 := (by omega); have g6 : decide (fa + x - 12 - 1 < 0) = false := decide_eq_false g5)
            | (rw [show fa + x - (12 + 0) = fa + x - 12 by omega] at HFS HFN HNF; have g5 : ¬ fa + x - 12 < 0 := (by omega); have g6 : decide (fa + x - 12 < 0) = false := decide_eq_false g5)
          go_wp2_with (first
            | (go_at_call 71; refine (l1In_any _ _ _ _).mono ?_; rintro e w' ⟨rfl, rfl⟩)
            | (at_builtin; go_loud (refine wpList_pushL rfl (.tmp 85) (.tmp 87) 24 rfl Try.underlying24 Try.infoInt w.heap.size (.slice a1 k c1) k _ rfl HTW.out.1 rfl (by omega) hsz ?_; intro v3 w3 hown3 hgrow3 hl3; rw [← HMS.out] at hown3; have hf3 := HTW.out.first hown3 hgrow3 hl3; have H3 := Lib.hid hown3; have HF3 := Lib.hid hf3; have hsz3 := hf3.2.2.size; obtain ⟨a3, c3, rfl⟩ := rowForm hown3; clear hown3 hgrow3 hl3 hf3))
            | (at_builtin; go_loud (refine wpList_pushL rfl (.tmp 89) (.tmp 91) 24 rfl Try.underlying24 Try.infoInt w.heap.size (.slice a2 k c2) k _ rfl HF3.out.1 rfl (by omega) hsz3 ?_; intro v4 w4 hown4 hgrow4 hl4; rw [← HFS.out] at hown4; have HTW4 := Lib.hid (two_next H3.out HF3.out.1 HF3.out.2.1 HF3.out.2.2 hown4 hgrow4 hl4); obtain ⟨a4, c4, rfl⟩ := rowForm hown4; clear hown4 hgrow4 hl4)))
          go_roundw
          case rel => exact ⟨k + 1, _, _, _, _, _, by omega, by go_num, rfl, rfl, rfl, HNF.out, HFN.out, HT2.out, HTW4.out⟩
          case measure => simp [intOf]; omega
    · obtain rfl : k = n := by omega
      have HY := Lib.hid (HYES.out _ _ _ k (HO2.out.trans HT.out) HN.out (own_of_row HTW.out.1) (own_of_row HTW.out.2.1) HTW.out.2.2.2)
      clear HT HFA
      go_wp2
      refine bodyPost_ret (results_tmp3 rfl _ _ _) rfl ?_
      exact HY.out
end Go.Proofs.Ytlemielobmbadaa
