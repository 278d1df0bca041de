/- The law FnCrashRecovery. -/
import Derived.Test.YtkhgdbnicpldkaaDoorLpc
import Derived.Test.YtkhgdbnicpldkaaDoorLdg
import Derived.Test.YtkhgdbnicpldkaaDoorRaw
namespace Go.Proofs.YtkhgdbnicpldkaaDoor
open Go.RowKit

theorem rz_app (A tl : List (L × L)) (i : Nat) (h : i < A.length) : rz (A ++ tl) i = rz A i := by
  unfold rz; rw [List.getElem?_append_left h]

set_option maxHeartbeats 3200000 in
set_option maxRecDepth 100000 in
theorem FnCrashRecovery_walk (a0 : Option Addr) (len0 cap0 : Nat) (z0 : List Int) (w : World) (hr : RawB w a0 len0 cap0 z0) (ht : TabOk w) (hmx : MaxOk w) :
    Calls Tryd.prog 12 #[.slice a0 len0 cap0] w fun e w' => e = .returned (.bool true) ∧ Below w.heap.size w w' := by
  by_cases hbig : (65536 : Int) < (len0 : Int)
  · have hd : decide ((65536 : Int) < (len0 : Int)) = true := by simpa using hbig
    go_enter Tryd.func12, Tryd.ntmps12
    go_wp2_with fail
    refine (vBig_any _ _ _ _).mono ?_
    rintro e w' ⟨rfl, rfl⟩
    go_wp2
    go_ret
    exact ⟨rfl, Below.refl _ _⟩
  have hd : decide ((65536 : Int) < (len0 : Int)) = false := by simpa using hbig
  have HRD := Lib.hid (hr.rd (by omega))
  have HTW := Lib.hid (fun w' (hb : Below w.heap.size w w') => ht.below hb)
  have HMW := Lib.hid (fun w' (hb : Below w.heap.size w w') => hmx.below hb)
  clear ht hmx hr
  go_enter Tryd.func12, Tryd.ntmps12
  go_wp2_with fail
  refine (vBig_any _ _ _ _).mono ?_
  rintro e w' ⟨rfl, rfl⟩
  go_wp2_with fail
  refine (drawCr_any _ _ HRD.out).mono ?_
  rintro e w1 ⟨d, p, n, k, t, hdp, k0, k1, rfl, b1⟩
  have B1 := Lib.hid (b1.alloc b1.size (.cells #[.string d, .string p, .int .i64 n] 31))
  have E1 := Lib.hid (heap_alloc_new w1 (.cells #[.string d, .string p, .int .i64 n] 31))
  clear b1
  have HPL := Lib.hid (fun h => crash_plain (d := d) (p := p) (n := n) (a := k) (t := t) h)
  have HNO := Lib.hid (fun h => crash_no (d := d) (p := p) (n := n) (a := k) (t := t) h)
  have hsl := crS_len (d := d) (p := p) (n := n) (a := k) (t := t) (by omega)
  have HIC := fun w ht hm => implCr_any d p n k t (by omega) w ht hm
  have HSC := fun w => specCr_any d p n k t (by omega) w
  unfold CrPost at HIC HSC
  generalize crS d p n k t = s at *
  generalize crOk d p n k = ok at *
  have HIC := Lib.hid HIC
  have HSC := Lib.hid HSC
  have HSL := fun w => specLr_any d p n (by omega) w
  unfold LrPost at HSL
  have HSL := Lib.hid HSL
  have e1 : (s.toList != s.toList) = false := by simp
  have e2 : (ok != ok) = false := by simp
  obtain ⟨q1, q2, q3, q4, q5, q6, q7⟩ := blk3 E1.out
  go_wp2_with fail
  refine (HIC.out _ (HTW.out _ B1.out) (HMW.out _ B1.out)).mono ?_
  rintro e w2 ⟨rfl, b2⟩
  have B2 := Lib.hid (B1.out.trans (b2.mono B1.out.size))
  have E2 := Lib.hid (kept_old E1.out b2)
  clear b2 E1 q1 q2 q3 q4 q5 q6 q7
  obtain ⟨q1, q2, q3, q4, q5, q6, q7⟩ := blk3 E2.out
  go_wp2_with fail
  refine (HSC.out _).mono ?_
  rintro e w3 ⟨rfl, b3⟩
  have B3 := Lib.hid (B2.out.trans (b3.mono B2.out.size))
  have E3 := Lib.hid (kept_old E2.out b3)
  clear b3 E2 q1 q2 q3 q4 q5 q6 q7
  obtain ⟨q1, q2, q3, q4, q5, q6, q7⟩ := blk3 E3.out
  cases ok
  · have hs0 : s = ⟨#[]⟩ := HNO.out rfl
    have hs1 : s.toList = [] := by rw [hs0]; exact ByteArray.toList_eq _
    have hs2 : s.toList.isEmpty = true := by rw [hs1]; rfl
    clear hs0
    go_wp2
    go_ret
    exact ⟨rfl, B3.out⟩
  obtain ⟨hok, ⟨en, hE, hen, hde, hDx⟩, ⟨tl, hold⟩, hV⟩ := HPL.out rfl
  have hdl : (rlD s).size ≤ 40000 := by rw [hDx]; simp [ByteArray.size_extract]; omega
  have HIR := fun w ht hm => implRl_any s (by unfold maxLen; omega) w ht hm
  unfold RlPost at HIR
  rw [hE, hok] at HIR
  have HIL := fun w ht hm => implLr_any (rlD s) ⟨#[]⟩ (rlC s) (by show (rlD s).size + 0 ≤ 1048576; omega) w ht hm
  have HVL := fun w ht hm => implVl_any (rlD s) ⟨#[]⟩ (rlC s) (by show (rlD s).size + 0 ≤ 1048576; omega) w ht hm
  unfold LrPost at HIL
  unfold VlPost at HVL
  rw [hV] at HIL HVL
  have HDX := Lib.hid hDx
  have HOL := Lib.hid hold
  generalize rlD s = D at *
  generalize rlC s = C at *
  generalize lrL D ⟨#[]⟩ C = A at *
  have HIR := Lib.hid HIR
  have HIL := Lib.hid HIL
  have HVL := Lib.hid HVL
  clear hDx hold hV hE hok HPL HNO HIC HSC
  have hE2 : (en : Int) ≤ (s.size : Int) := by omega
  have hE3 : (d.size : Int) ≤ (en : Int) := by omega
  have hEd : decide ((s.size : Int) < (en : Int)) = false := by simp; omega
  have hEd2 : decide ((en : Int) < (d.size : Int)) = false := by simp; omega
  have hEd3 : decide (s.size < en) = false := by simp; omega
  have hEd4 : decide (en < d.size) = false := by simp; omega
  go_wp2_with fail
  refine (HIR.out _ (HTW.out _ B3.out) (HMW.out _ B3.out)).mono ?_
  rintro e w4 ⟨rfl, b4⟩
  have E4 := Lib.hid ((heap_alloc_old w4 (.cells #[.string D, .string ⟨#[]⟩, .int .i64 C] 31) (Array.getElem?_eq_some_iff.1 (kept_old E3.out b4)).1).trans (kept_old E3.out b4))
  have B4 := Lib.hid ((B3.out.trans (b4.mono B3.out.size)).alloc (B3.out.trans (b4.mono B3.out.size)).size (.cells #[.string D, .string ⟨#[]⟩, .int .i64 C] 31))
  have M4 := Lib.hid (heap_alloc_new w4 (.cells #[.string D, .string ⟨#[]⟩, .int .i64 C] 31))
  clear b4 E3 q1 q2 q3 q4 q5 q6 q7
  obtain ⟨m1, m2, m3, m4, m5, m6, m7⟩ := blk3 M4.out
  go_wp2_with fail
  refine (HIL.out _ (HTW.out _ B4.out) (HMW.out _ B4.out)).mono ?_
  rintro e w5 ⟨va, rfl, oa, h60, b5⟩
  have E5 := Lib.hid (kept_old E4.out b5)
  have M5 := Lib.hid (kept_old M4.out b5)
  have B5 := Lib.hid (B4.out.trans (b5.mono B4.out.size))
  clear b5 E4 M4 m1 m2 m3 m4 m5 m6 m7
  obtain ⟨q1, q2, q3, q4, q5, q6, q7⟩ := blk3 E5.out
  go_wp2_with fail
  refine (HSL.out _).mono ?_
  rintro e w6 ⟨vo, rfl, oo, h60o, b6⟩
  have E6 := Lib.hid (kept_old E5.out b6)
  have M6 := Lib.hid (kept_old M5.out b6)
  have B6 := Lib.hid (B5.out.trans (b6.mono B5.out.size))
  have oa := row_below oa b6
  rw [HOL.out] at oo h60o
  clear b6 E5 M5 q1 q2 q3 q4 q5 q6 q7
  obtain ⟨q1, q2, q3, q4, q5, q6, q7⟩ := blk3 E6.out
  obtain ⟨m1, m2, m3, m4, m5, m6, m7⟩ := blk3 M6.out
  have hla : A.length ≤ (A ++ tl).length := by simp
  have RA := (rrd_of oa (by omega)).1
  have RO := (rrd_of oo (by omega)).1
  obtain ⟨aa, na, ca, rfl, HNA, hna, HA⟩ := RA
  obtain ⟨ao, no, co, rfl, HNO', hno, HO⟩ := RO
  have hno2 : na ≤ no := by rw [← HNA.out, ← HNO'.out]; exact hla
  have HA := Lib.hid HA
  have HO := Lib.hid HO
  have HRZ := Lib.hid (fun i (h : i < na) => rz_app A tl i (by rw [HNA.out]; exact h))
  have hnI : (na : Int) ≤ (no : Int) := by omega
  have hnd : decide ((no : Int) < (na : Int)) = false := by simp; omega
  have hnd2 : decide (no < na) = false := by simp; omega
  clear oa oo h60 h60o hla
  go_wp2_with fail
  go_loopw [17] (fun i wr => ∃ j : Nat, j ≤ na ∧ i = .int .i64 j ∧ Dr w6 wr) (fun i _ => na - (intOf i).toNat)
  case atStart => exact ⟨0, by omega, rfl, Dr.refl _⟩
  case round =>
    obtain ⟨j, hj, rfl, mm, rfl⟩ := hrel
    by_cases hlt : j < na
    · obtain ⟨g1, rfl, hg1, hc1⟩ := HA.out (by omega)
      obtain ⟨g2, rfl, hg2, hc2⟩ := HO.out (by omega)
      have c1 := (hc1 j hlt).1
      have c2 := (hc1 j hlt).2
      have c3 := (hc2 j (by omega)).1
      have c4 := (hc2 j (by omega)).2
      rw [HRZ.out j hlt] at c3 c4
      clear hc1 hc2
      generalize (rz A j).1 = x at *
      generalize (rz A j).2 = y at *
      have hltI : (j : Int) < (na : Int) := by omega
      have hltI2 : (j : Int) < (no : Int) := by omega
      go_wp2
      go_quiet (fail)
      go_wp2
      go_roundw
      case rel => exact ⟨j + 1, by omega, by go_num, ⟨_, rfl⟩⟩
      case measure => simp [intOf]; omega
    · obtain rfl : j = na := by omega
      have hextD : s.extract 0 en = D := HDX.out.symm
      have e9 : (D.toList == D.toList) = true := by simp
      have B7 := Lib.hid (show Below w.heap.size w (w6.drewN mm).drew from B6.out.trans ⟨rfl, rfl, rfl, Nat.le_refl _, fun _ _ => rfl⟩)
      have M7 := Lib.hid (show (w6.drewN mm).drew.heap[w4.heap.size]? = some (.cells #[.string D, .string ⟨#[]⟩, .int .i64 C] 31 (0, 0)) from M6.out)
      generalize hwd : w6.drewN mm = wd at *
      have n1 : wd.drew.cell? ⟨w4.heap.size, 0, none⟩ = some (.string D) := (blk3 M7.out).1
      have n2 : wd.drew.cell? ⟨w4.heap.size, 1, none⟩ = some (.string ⟨#[]⟩) := (blk3 M7.out).2.1
      have n3 : wd.drew.cell? ⟨w4.heap.size, 2, none⟩ = some (.int .i64 C) := (blk3 M7.out).2.2.1
      clear hwd q1 q2 q3 q4 q5 q6 q7 m1 m2 m3 m4 m5 m6 m7
      go_wp2
      go_region_held3 (fun w' => w'.cell? ⟨w4.heap.size, 0, none⟩ = some (.string D) ∧ w'.cell? ⟨w4.heap.size, 1, none⟩ = some (.string ⟨#[]⟩) ∧ w'.cell? ⟨w4.heap.size, 2, none⟩ = some (.int .i64 C))
        (first | (with_reducible exact ⟨n1, n2, n3⟩) | (with_reducible exact ⟨l1, l2, l3⟩))
        ((go_at_call 23; refine (HVL.out _ (HTW.out _ B7.out) (HMW.out _ B7.out)).mono ?_; rintro e w8 ⟨rfl, b8⟩; obtain ⟨l1, l2, l3, _⟩ := blk3 (kept_old M7.out b8); have B8 := Lib.hid (B7.out.trans (b8.mono B7.out.size))))
      all_goals
        go_wp2
        go_ret
        exact ⟨rfl, B8.out⟩
end Go.Proofs.YtkhgdbnicpldkaaDoor
