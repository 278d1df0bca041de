/- The law FnLog. -/
import Derived.Test.YtkhgdbnicpldkaaDoorLpm
import Derived.Test.YtkhgdbnicpldkaaDoorLdg
import Derived.Test.YtkhgdbnicpldkaaDoorRaw
namespace Go.Proofs.YtkhgdbnicpldkaaDoor
open Go.RowKit

theorem rz_app2 (A : List (L × L)) (q : L × L) (i : Nat) (h : i < A.length) : rz (A ++ [q]) i = rz A i := by
  unfold rz; rw [List.getElem?_append_left h]
theorem rz_last (A : List (L × L)) (q : L × L) : rz (A ++ [q]) A.length = q := by
  unfold rz; rw [List.getElem?_append_right (Nat.le_refl _)]; simp
theorem apC_012 (d p c r : ByteArray) (n : Int) : apC d p n c r = 0 ∨ apC d p n c r = 1 ∨ apC d p n c r = 2 := by
  unfold apC
  split
  · split
    · exact .inr (.inr rfl)
    · exact .inl rfl
  · exact .inr (.inl rfl)

set_option maxHeartbeats 3200000 in
set_option maxRecDepth 100000 in
theorem FnLog_walk (a0 : Option Addr) (len0 cap0 : Nat) (z0 : List Int) (w : World) (hr : RawB w a0 len0 cap0 z0) (ht : TabOk w) (hmx : MaxOk w) :
    Calls Tryd.prog 10 #[.slice a0 len0 cap0] w fun e w' => e = .returned (.bool true) ∧ Below w.heap.size w w' := by
  by_cases hbig : (65536 : Int) < (len0 : Int)
  · have hd : decide ((65536 : Int) < (len0 : Int)) = true := by simpa using hbig
    go_enter Tryd.func10, Tryd.ntmps10
    go_wp2_with fail
    refine (vBig_any _ _ _ _).mono ?_
    rintro e w' ⟨rfl, rfl⟩
    go_wp2
    go_ret
    exact ⟨rfl, Below.refl _ _⟩
  have hd : decide ((65536 : Int) < (len0 : Int)) = false := by simpa using hbig
  have HRD := Lib.hid (hr.rd (by omega))
  have HTW := Lib.hid (fun w' (hb : Below w.heap.size w w') => ht.below hb)
  have HMW := Lib.hid (fun w' (hb : Below w.heap.size w w') => hmx.below hb)
  clear ht hmx hr
  go_enter Tryd.func10, Tryd.ntmps10
  go_wp2_with fail
  refine (vBig_any _ _ _ _).mono ?_
  rintro e w' ⟨rfl, rfl⟩
  go_wp2_with fail
  refine (drawAp_any _ _ HRD.out).mono ?_
  rintro e w1 ⟨d, p, n, c, r, hdp, zc, zr, rfl, b1⟩
  have B1 := Lib.hid ((b1.alloc b1.size (.cells #[.string d, .string p, .int .i64 n] 31)).alloc (b1.alloc b1.size (.cells #[.string d, .string p, .int .i64 n] 31)).size (.cells #[.string c, .string r] 27))
  have L1 := Lib.hid ((heap_alloc_old _ (.cells #[.string c, .string r] 27) (by simp)).trans (heap_alloc_new w1 (.cells #[.string d, .string p, .int .i64 n] 31)))
  have Q1 := (heap_alloc_new (w1.alloc (.cells #[.string d, .string p, .int .i64 n] 31)) (.cells #[.string c, .string r] 27))
  rw [show (w1.alloc (.cells #[.string d, .string p, .int .i64 n] 31)).heap.size = w1.heap.size + 1 by simp] at Q1
  have Q1 := Lib.hid Q1
  clear b1
  have HPL := Lib.hid (fun h => log_plain (d := d) (p := p) (c := c) (r := r) (n := n) h)
  have HSM := Lib.hid (fun h => log_same (d := d) (p := p) (c := c) (r := r) (n := n) h)
  have HC3 := Lib.hid (apC_012 d p c r n)
  have hPl := apP_len d p c r n
  have HIA := fun w ht hm => implAp_any d p c r n (by omega) (by unfold maxLen; omega) (by unfold maxLen; omega) w ht hm
  have HSA := fun w => specAp_any d p c r n (by omega) (by unfold maxLen; omega) (by unfold maxLen; omega) w
  unfold ApPost at HIA HSA
  have HVL := fun w ht hm => implVl_any d p n (by omega) w ht hm
  have HVS := fun w => specVl_any d p n (by omega) w
  unfold VlPost at HVL HVS
  have HRI := fun w => implIsRec_any c r w (by unfold maxLen; omega) (by unfold maxLen; omega)
  have HRS := fun w => specIsRec_any c r w (by unfold maxLen; omega) (by unfold maxLen; omega)
  have HLO := fun w ht hm => implLr_any d p n (by omega) w ht hm
  unfold LrPost at HLO
  generalize hAL : lrL d p n = AL at *
  generalize apP d p n c r = P at *
  generalize apN d p n c r = N at *
  generalize apC d p n c r = C at *
  generalize vlB d p n = vl at *
  generalize recOk c r = rk at *
  clear hAL
  have HIA := Lib.hid HIA
  have HSA := Lib.hid HSA
  have HVL := Lib.hid HVL
  have HVS := Lib.hid HVS
  have HRI := Lib.hid HRI
  have HRS := Lib.hid HRS
  have HLO := Lib.hid HLO
  obtain ⟨q1, q2, q3, q4, q5, q6, q7⟩ := blk3 L1.out
  obtain ⟨s1, s2, s3, s4, s5⟩ := blk2c Q1.out
  go_wp2_with fail
  refine (HIA.out _ (HTW.out _ B1.out) (HMW.out _ B1.out)).mono ?_
  rintro e w2 ⟨rfl, b2⟩
  have L2 := Lib.hid ((heap_alloc_old w2 (.cells #[.string d, .string P, .int .i64 N] 31) (Array.getElem?_eq_some_iff.1 (kept_old L1.out b2)).1).trans (kept_old L1.out b2))
  have Q2 := Lib.hid ((heap_alloc_old w2 (.cells #[.string d, .string P, .int .i64 N] 31) (Array.getElem?_eq_some_iff.1 (kept_old Q1.out b2)).1).trans (kept_old Q1.out b2))
  have M2 := Lib.hid (heap_alloc_new w2 (.cells #[.string d, .string P, .int .i64 N] 31))
  have B2 := Lib.hid ((B1.out.trans (b2.mono B1.out.size)).alloc (B1.out.trans (b2.mono B1.out.size)).size (.cells #[.string d, .string P, .int .i64 N] 31))
  clear b2 L1 Q1 q1 q2 q3 q4 q5 q6 q7 s1 s2 s3 s4 s5
  obtain ⟨q1, q2, q3, q4, q5, q6, q7⟩ := blk3 L2.out
  obtain ⟨s1, s2, s3, s4, s5⟩ := blk2c Q2.out
  go_wp2_with fail
  refine (HSA.out _).mono ?_
  rintro e w3 ⟨rfl, b3⟩
  have hz3 : ∀ {b : Nat} {o : Obj}, (w2.alloc (.cells #[.string d, .string P, .int .i64 N] 31)).heap[b]? = some o → (w3.alloc (.cells #[.string d, .string P, .int .i64 N] 31)).heap[b]? = some o := fun h => (heap_alloc_old w3 _ (Array.getElem?_eq_some_iff.1 (kept_old h b3)).1).trans (kept_old h b3)
  have L3 := Lib.hid (hz3 L2.out)
  have Q3 := Lib.hid (hz3 Q2.out)
  have M3 := Lib.hid (hz3 M2.out)
  have N3 := Lib.hid (heap_alloc_new w3 (.cells #[.string d, .string P, .int .i64 N] 31))
  have B3 := Lib.hid ((B2.out.trans (b3.mono B2.out.size)).alloc (B2.out.trans (b3.mono B2.out.size)).size (.cells #[.string d, .string P, .int .i64 N] 31))
  clear b3 hz3 L2 Q2 M2 q1 q2 q3 q4 q5 q6 q7 s1 s2 s3 s4 s5
  have e1 : (d.toList != d.toList) = false := by simp
  have e2 : (P.toList != P.toList) = false := by simp
  have e3 : (N != N) = false := by simp
  have e4 : (C != C) = false := by simp
  have e5 : (vl != vl) = false := by simp
  have e6 : (rk != rk) = false := by simp
  go_upto_region 6 with fail
  generalize hW : w3.alloc (.cells #[.string d, .string P, .int .i64 N] 31) = W at *
  have HK := Lib.hid (fun (w' : World) (hb : Below W.heap.size W w') => (show w'.cell? ⟨w1.heap.size, 0, none⟩ = some (.string d) ∧ w'.cell? ⟨w1.heap.size, 1, none⟩ = some (.string p) ∧ w'.cell? ⟨w1.heap.size, 2, none⟩ = some (.int .i64 n) ∧ w'.cell? ⟨w1.heap.size + 1, 0, none⟩ = some (.string c) ∧ w'.cell? ⟨w1.heap.size + 1, 1, none⟩ = some (.string r) ∧ w'.cell? ⟨w2.heap.size, 0, none⟩ = some (.string d) ∧ w'.cell? ⟨w2.heap.size, 1, none⟩ = some (.string P) ∧ w'.cell? ⟨w2.heap.size, 2, none⟩ = some (.int .i64 N) ∧ w'.cell? ⟨w3.heap.size, 0, none⟩ = some (.string d) ∧ w'.cell? ⟨w3.heap.size, 1, none⟩ = some (.string P) ∧ w'.cell? ⟨w3.heap.size, 2, none⟩ = some (.int .i64 N) from by
    obtain ⟨a1, a2, a3, _⟩ := blk3 (kept_old L3.out hb)
    obtain ⟨b1, b2, _⟩ := blk2c (kept_old Q3.out hb)
    obtain ⟨c1, c2, c3, _⟩ := blk3 (kept_old M3.out hb)
    obtain ⟨d1, d2, d3, _⟩ := blk3 (kept_old N3.out hb)
    exact ⟨a1, a2, a3, b1, b2, c1, c2, c3, d1, d2, d3⟩))
  clear hW
  go_cut [59] from 38 to 59 (fun sx wx => sx = .bool false ∧ Hid (Below W.heap.size W wx))
  case first =>
    have C0 : Below W.heap.size W W.drew := (Below.refl _ _).drew
    go_region_held3 (fun w' => w'.cell? ⟨w1.heap.size, 0, none⟩ = some (.string d) ∧ w'.cell? ⟨w1.heap.size, 1, none⟩ = some (.string p) ∧ w'.cell? ⟨w1.heap.size, 2, none⟩ = some (.int .i64 n) ∧ w'.cell? ⟨w1.heap.size + 1, 0, none⟩ = some (.string c) ∧ w'.cell? ⟨w1.heap.size + 1, 1, none⟩ = some (.string r) ∧ w'.cell? ⟨w2.heap.size, 0, none⟩ = some (.string d) ∧ w'.cell? ⟨w2.heap.size, 1, none⟩ = some (.string P) ∧ w'.cell? ⟨w2.heap.size, 2, none⟩ = some (.int .i64 N) ∧ w'.cell? ⟨w3.heap.size, 0, none⟩ = some (.string d) ∧ w'.cell? ⟨w3.heap.size, 1, none⟩ = some (.string P) ∧ w'.cell? ⟨w3.heap.size, 2, none⟩ = some (.int .i64 N))
      (first | exact HK.out _ C0 | exact HK.out _ C5 | exact HK.out _ C6 | exact HK.out _ C7 | exact HK.out _ C8)
      (first
        | (go_at_call 23; refine (HVL.out _ (HTW.out _ (B3.out.trans (C0.mono B3.out.size))) (HMW.out _ (B3.out.trans (C0.mono B3.out.size)))).mono ?_; rintro e w5 ⟨rfl, b5⟩; have C5 := C0.trans (b5.mono C0.size))
        | (go_at_call 21; refine (HVS.out _).mono ?_; rintro e w6 ⟨rfl, b6⟩; have C6 := C5.trans (b6.mono C5.size))
        | (go_at_call 37; refine (HRI.out _).mono ?_; rintro e w7 ⟨rfl, b7⟩; have C7 := C6.trans (b7.mono C6.size))
        | (go_at_call 38; refine (HRS.out _).mono ?_; rintro e w8 ⟨rfl, b8⟩; have C8 := C7.trans (b8.mono C7.size)))
    all_goals
      go_wp2_with fail
      go_meet
      exact ⟨rfl, C8⟩
  case rest =>
  obtain ⟨rfl, C8⟩ := hcut
  obtain ⟨l1, l2, l3, r1, r2, m1, m2, m3, _, _, _⟩ := HK.out _ C8.out
  have B8 := Lib.hid (B3.out.trans (C8.out.mono B3.out.size))
  rcases HC3.out with rfl | hC
  case inr =>
    have hC0 : C ≠ 0 := by omega
    obtain ⟨rfl, rfl⟩ := HSM.out hC0
    have d1 : (C != 0) = true := by simpa using hC0
    have d2 : (C == 0) = false := by simpa using hC0
    have d3 : (d.toList == d.toList) = true := by simp
    have d4 : (P.toList == P.toList) = true := by simp
    have d5 : (N == N) = true := by simp
    clear hC hC0
    go_wp2
    go_ret
    exact ⟨rfl, B8.out⟩
  case inl =>
  obtain ⟨hv, hl, hN, k1, k2, k3, k4, k5, k6⟩ := HPL.out rfl
  have hPs : d.size + P.size ≤ 40000 := by omega
  have hDP : (d ++ P).size ≤ 40000 := by rw [ByteArray.size_append]; exact hPs
  have HL2 := fun w ht hm => implLr_any d P N (by omega) w ht hm
  have HR2 := fun w ht hm => implRl_any (d ++ P) (by unfold maxLen; omega) w ht hm
  have HS2 := fun w ht hm => implSy_any d P N (by omega) w ht hm
  have HV2 := fun w ht hm => implVl_any d P N (by omega) w ht hm
  rw [hl, List.length_append] at hN
  unfold LrPost at HL2
  unfold RlPost at HR2
  unfold SyPost at HS2
  unfold VlPost at HV2
  rw [hv, hl] at HL2
  rw [k1, k2, k3, k4] at HR2
  rw [k5, k6, hv] at HS2
  rw [hv] at HV2
  have HL2 := Lib.hid HL2
  have HR2 := Lib.hid HR2
  have HS2 := Lib.hid HS2
  have HV2 := Lib.hid HV2
  have hcat : ¬ 9223372036854775807 < d.size + P.size := by omega
  have L9 := Lib.hid (kept_old L3.out C8.out)
  have Q9 := Lib.hid (kept_old Q3.out C8.out)
  have M9 := Lib.hid (kept_old M3.out C8.out)
  have HNN := Lib.hid hN
  clear hv hl hN k1 k2 k3 k4 k5 k6 HPL HK HSM HC3 C8 L3 Q3 M3 N3 HIA HSA HVL HVS HRI HRS
  go_wp2_with fail
  refine (HL2.out _ (HTW.out _ B8.out) (HMW.out _ B8.out)).mono ?_
  rintro e w9 ⟨va, rfl, oa, h60, b9⟩
  have B9 := Lib.hid (B8.out.trans (b9.mono B8.out.size))
  have L10 := Lib.hid (kept_old L9.out b9)
  have Q10 := Lib.hid (kept_old Q9.out b9)
  have M10 := Lib.hid (kept_old M9.out b9)
  clear b9 l1 l2 l3 r1 r2 m1 m2 m3 L9 Q9 M9
  obtain ⟨l1, l2, l3, _⟩ := blk3 L10.out
  go_wp2_with fail
  refine (HLO.out _ (HTW.out _ B9.out) (HMW.out _ B9.out)).mono ?_
  rintro e w10 ⟨vo, rfl, oo, h60o, b10⟩
  have B10 := Lib.hid (B9.out.trans (b10.mono B9.out.size))
  have Q11 := Lib.hid (kept_old Q10.out b10)
  have M11 := Lib.hid (kept_old M10.out b10)
  have oa := row_below oa b10
  clear b10 l1 l2 l3 L10 Q10 M10
  obtain ⟨m1, m2, m3, _⟩ := blk3 M11.out
  go_wp2_with fail
  refine (HR2.out _ (HTW.out _ B10.out) (HMW.out _ B10.out)).mono ?_
  rintro e w11 ⟨rfl, b11⟩
  have hk11 : ∀ {b : Nat} {o : Obj}, w10.heap[b]? = some o → (w11.alloc (.cells #[.string (d ++ P), .string ⟨#[]⟩, .int .i64 N] 31)).heap[b]? = some o := fun h => (heap_alloc_old w11 _ (Array.getElem?_eq_some_iff.1 (kept_old h b11)).1).trans (kept_old h b11)
  have hb11 : Below w10.heap.size w10 (w11.alloc (.cells #[.string (d ++ P), .string ⟨#[]⟩, .int .i64 N] 31)) := b11.alloc b11.size _
  have B11 := Lib.hid (B10.out.trans (hb11.mono B10.out.size))
  have Q12 := Lib.hid (hk11 Q11.out)
  have M12 := Lib.hid (hk11 M11.out)
  have K12 := Lib.hid (heap_alloc_new w11 (.cells #[.string (d ++ P), .string ⟨#[]⟩, .int .i64 N] 31))
  have oa := row_below oa hb11
  have oo := row_below oo hb11
  clear b11 hb11 hk11 m1 m2 m3 Q11 M11
  obtain ⟨m1, m2, m3, _⟩ := blk3 M12.out
  go_wp2_with fail
  refine (HS2.out _ (HTW.out _ B11.out) (HMW.out _ B11.out)).mono ?_
  rintro e w12 ⟨rfl, b12⟩
  have hk12 : ∀ {b : Nat} {o : Obj}, (w11.alloc (.cells #[.string (d ++ P), .string ⟨#[]⟩, .int .i64 N] 31)).heap[b]? = some o → (w12.alloc (.cells #[.string (d ++ P), .string ⟨#[]⟩, .int .i64 N] 31)).heap[b]? = some o := fun h => (heap_alloc_old w12 _ (Array.getElem?_eq_some_iff.1 (kept_old h b12)).1).trans (kept_old h b12)
  have hb12 : Below (w11.alloc (.cells #[.string (d ++ P), .string ⟨#[]⟩, .int .i64 N] 31)).heap.size (w11.alloc (.cells #[.string (d ++ P), .string ⟨#[]⟩, .int .i64 N] 31)) (w12.alloc (.cells #[.string (d ++ P), .string ⟨#[]⟩, .int .i64 N] 31)) := b12.alloc b12.size _
  have B12 := Lib.hid (B11.out.trans (hb12.mono B11.out.size))
  have Q13 := Lib.hid (hk12 Q12.out)
  have M13 := Lib.hid (hk12 M12.out)
  have K13 := Lib.hid (hk12 K12.out)
  have J13 := Lib.hid (heap_alloc_new w12 (.cells #[.string (d ++ P), .string ⟨#[]⟩, .int .i64 N] 31))
  have oa := row_below oa hb12
  have oo := row_below oo hb12
  clear b12 hb12 hk12 m1 m2 m3 Q12 M12 K12
  obtain ⟨m1, m2, m3, _⟩ := blk3 M13.out
  have HLAST := Lib.hid (rz_last AL (c.data.toList, r.data.toList))
  have RA := (rrd_of oa (by omega)).1
  have RO := (rrd_of oo (by omega)).1
  obtain ⟨aa, na, ca, rfl, HNA, hna, HA⟩ := RA
  obtain ⟨ao, no, co, rfl, HNO', hno, HO⟩ := RO
  have hno2 : na = no + 1 := by rw [← HNA.out, ← HNO'.out, List.length_append]; rfl
  subst hno2
  have HA := Lib.hid HA
  have HO := Lib.hid HO
  have HRZ := Lib.hid (fun i (h : i < no) => rz_app2 AL (c.data.toList, r.data.toList) i (by rw [HNO'.out]; exact h))
  have hNI : N = (no : Int) + 1 := by rw [← HNN.out, HNO'.out]; simp
  have d1 : ((no : Int) + 1 != (no : Int) + 1) = false := by simp
  have d2 : (N != (no : Int) + 1) = false := by rw [hNI]; simp
  have HNI := Lib.hid hNI
  clear oa oo h60 h60o hNI
  go_wp2_with fail
  generalize hWB : w12.alloc (.cells #[.string (d ++ P), .string ⟨#[]⟩, .int .i64 N] 31) = WB at *
  clear hWB m1 m2 m3
  go_loopw [18] (fun i wr => ∃ j : Nat, j ≤ no ∧ i = .int .i64 j ∧ Dr WB wr) (fun i _ => no - (intOf i).toNat)
  case atStart => exact ⟨0, by omega, rfl, Dr.refl _⟩
  case round =>
    obtain ⟨j, hj, rfl, mm, rfl⟩ := hrel
    by_cases hlt : j < no
    · obtain ⟨g1, rfl, hg1, hc1⟩ := HA.out (by omega)
      obtain ⟨g2, rfl, hg2, hc2⟩ := HO.out (by omega)
      have c1 := (hc1 j (by omega)).1
      have c2 := (hc1 j (by omega)).2
      have c3 := (hc2 j hlt).1
      have c4 := (hc2 j hlt).2
      rw [HRZ.out j hlt] at c1 c2
      clear hc1 hc2
      generalize (rz AL j).1 = x at *
      generalize (rz AL j).2 = y at *
      have hltI : (j : Int) < (no : Int) := by omega
      have hltI2 : (j : Int) < (no : Int) + 1 := by omega
      go_wp2
      go_quiet (fail)
      go_wp2
      go_roundw
      case rel => exact ⟨j + 1, by omega, by go_num, ⟨_, rfl⟩⟩
      case measure => simp [intOf]; omega
    · obtain rfl : j = no := by omega
      obtain ⟨g1, rfl, hg1, hc1⟩ := HA.out (by omega)
      have hlast : rz (AL ++ [(c.data.toList, r.data.toList)]) j = (c.data.toList, r.data.toList) := by rw [← HNO'.out]; exact HLAST.out
      have c1 := (hc1 j (by omega)).1
      have c2 := (hc1 j (by omega)).2
      rw [hlast, mk_data] at c1 c2
      clear hc1 hlast
      have B14 := Lib.hid (show Below w.heap.size w (WB.drewN mm).drew from B12.out.trans ⟨rfl, rfl, rfl, Nat.le_refl _, fun _ _ => rfl⟩)
      have HK := Lib.hid (fun (w' : World) (hb : Below WB.heap.size WB w') => (show w'.cell? ⟨g1, j * 2, none⟩ = some (.string c) ∧ w'.cell? ⟨g1, j * 2 + 1, none⟩ = some (.string r) ∧ w'.cell? ⟨w1.heap.size + 1, 0, none⟩ = some (.string c) ∧ w'.cell? ⟨w1.heap.size + 1, 1, none⟩ = some (.string r) ∧ w'.cell? ⟨w2.heap.size, 0, none⟩ = some (.string d) ∧ w'.cell? ⟨w2.heap.size, 1, none⟩ = some (.string P) ∧ w'.cell? ⟨w2.heap.size, 2, none⟩ = some (.int .i64 N) ∧ w'.cell? ⟨w11.heap.size, 0, none⟩ = some (.string (d ++ P)) ∧ w'.cell? ⟨w11.heap.size, 1, none⟩ = some (.string ⟨#[]⟩) ∧ w'.cell? ⟨w11.heap.size, 2, none⟩ = some (.int .i64 N) ∧ w'.cell? ⟨w12.heap.size, 0, none⟩ = some (.string (d ++ P)) ∧ w'.cell? ⟨w12.heap.size, 1, none⟩ = some (.string ⟨#[]⟩) ∧ w'.cell? ⟨w12.heap.size, 2, none⟩ = some (.int .i64 N) from by
        obtain ⟨b1, b2, _⟩ := blk2c (kept_old Q13.out hb)
        obtain ⟨d1, d2, d3, _⟩ := blk3 (kept_old M13.out hb)
        obtain ⟨f1, f2, f3, _⟩ := blk3 (kept_old K13.out hb)
        obtain ⟨h1, h2, h3, _⟩ := blk3 (kept_old J13.out hb)
        exact ⟨(hb.cell (p := ⟨g1, j * 2, none⟩) hg1).trans c1, (hb.cell (p := ⟨g1, j * 2 + 1, none⟩) hg1).trans c2, b1, b2, d1, d2, d3, f1, f2, f3, h1, h2, h3⟩))
      have C0 : Below WB.heap.size WB (WB.drewN mm).drew := ⟨rfl, rfl, rfl, Nat.le_refl _, fun _ _ => rfl⟩
      generalize hwd : WB.drewN mm = wd at *
      have hjI : (j : Int) < (j : Int) + 1 := by omega
      have f1 : (c.toList == c.toList) = true := by simp
      have f2 : (r.toList == r.toList) = true := by simp
      have f3 : ((d ++ P).toList == (d ++ P).toList) = true := by simp
      have f4 : (N == N) = true := by simp
      have f5 : (((d ++ P).size : Int) == (d.size : Int) + (P.size : Int)) = true := by rw [ByteArray.size_append]; simp
      clear hwd c1 c2
      go_wp2
      go_region_held3 (fun w' => w'.cell? ⟨g1, j * 2, none⟩ = some (.string c) ∧ w'.cell? ⟨g1, j * 2 + 1, none⟩ = some (.string r) ∧ w'.cell? ⟨w1.heap.size + 1, 0, none⟩ = some (.string c) ∧ w'.cell? ⟨w1.heap.size + 1, 1, none⟩ = some (.string r) ∧ w'.cell? ⟨w2.heap.size, 0, none⟩ = some (.string d) ∧ w'.cell? ⟨w2.heap.size, 1, none⟩ = some (.string P) ∧ w'.cell? ⟨w2.heap.size, 2, none⟩ = some (.int .i64 N) ∧ w'.cell? ⟨w11.heap.size, 0, none⟩ = some (.string (d ++ P)) ∧ w'.cell? ⟨w11.heap.size, 1, none⟩ = some (.string ⟨#[]⟩) ∧ w'.cell? ⟨w11.heap.size, 2, none⟩ = some (.int .i64 N) ∧ w'.cell? ⟨w12.heap.size, 0, none⟩ = some (.string (d ++ P)) ∧ w'.cell? ⟨w12.heap.size, 1, none⟩ = some (.string ⟨#[]⟩) ∧ w'.cell? ⟨w12.heap.size, 2, none⟩ = some (.int .i64 N))
        (first | exact HK.out _ C0 | exact HK.out _ C5)
        ((go_at_call 23; refine (HV2.out _ (HTW.out _ B14.out) (HMW.out _ B14.out)).mono ?_; rintro e w15 ⟨rfl, b15⟩; have C5 := C0.trans (b15.mono C0.size)))
      all_goals
        have hB := Lib.hid (B14.out.trans (b15.mono B14.out.size))
        go_wp2
        go_ret
        exact ⟨rfl, hB.out⟩
end Go.Proofs.YtkhgdbnicpldkaaDoor
