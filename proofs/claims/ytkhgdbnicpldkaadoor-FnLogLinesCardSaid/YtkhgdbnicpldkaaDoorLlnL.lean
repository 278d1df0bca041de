/- The law FnLogLines. -/
import Derived.Test.YtkhgdbnicpldkaaDoorLpm
import Derived.Test.YtkhgdbnicpldkaaDoorLdg
import Derived.Test.YtkhgdbnicpldkaaDoorRaw
namespace Go.Proofs.YtkhgdbnicpldkaaDoor
open Go.RowKit

theorem rlD_len (t : ByteArray) : (rlD t).size ≤ t.size := by
  unfold rlD
  split
  · have h1 := mk_size (t.data.toList.take (finR t.data.toList).2)
    have h2 := size_data t
    have h3 := List.length_take_le (finR t.data.toList).2 t.data.toList
    have h4 : (t.data.toList.take (finR t.data.toList).2).length ≤ t.data.toList.length := by rw [List.length_take]; exact Nat.min_le_right _ _
    omega
  · show 0 ≤ _; omega
theorem encS_len (k : Int) (c r : ByteArray) : (encS k c r).size ≤ 40000 := by
  cases h : encOk k c r
  · rw [encS_no h]; show 0 ≤ _; omega
  · have h1 : inB k 0 59 = true ∧ recOk c r = true := by unfold encOk at h; simpa using h
    obtain ⟨h2, h3⟩ := inB_true h1.1
    have := line_len (k := k.toNat) (c := c.data.toList) (r := r.data.toList) (by omega) (by rw [mk_data, mk_data]; exact h1.2)
    rw [encS_yes h]
    have hz := mk_size (lineL k.toNat c.data.toList r.data.toList)
    omega

set_option maxHeartbeats 3200000 in
set_option maxRecDepth 100000 in
theorem FnLogLines_walk (a0 : Option Addr) (len0 cap0 : Nat) (z0 : List Int) (w : World) (hr : RawB w a0 len0 cap0 z0) (ht : TabOk w) (hmx : MaxOk w) :
    Calls Tryd.prog 11 #[.slice a0 len0 cap0] w fun e w' => e = .returned (.bool true) ∧ Below w.heap.size w w' := by
  by_cases hbig : (65536 : Int) < (len0 : Int)
  · have hd : decide ((65536 : Int) < (len0 : Int)) = true := by simpa using hbig
    go_enter Tryd.func11, Tryd.ntmps11
    go_wp2_with fail
    refine (vBig_any _ _ _ _).mono ?_
    rintro e w' ⟨rfl, rfl⟩
    go_wp2
    go_ret
    exact ⟨rfl, Below.refl _ _⟩
  have hd : decide ((65536 : Int) < (len0 : Int)) = false := by simpa using hbig
  have HRD := Lib.hid (hr.rd (by omega))
  have HTW := Lib.hid (fun w' (hb : Below w.heap.size w w') => ht.below hb)
  have HMW := Lib.hid (fun w' (hb : Below w.heap.size w w') => hmx.below hb)
  clear ht hmx hr
  go_enter Tryd.func11, Tryd.ntmps11
  go_wp2_with fail
  refine (vBig_any _ _ _ _).mono ?_
  rintro e w' ⟨rfl, rfl⟩
  go_wp2_with fail
  refine (drawEnc_any _ _ HRD.out).mono ?_
  rintro e w1 ⟨k, c, r, k0, k1, zc, zr, rfl, b1⟩
  have B1 := Lib.hid (b1.alloc b1.size (.cells #[.string c, .string r] 27))
  have E1 := Lib.hid (heap_alloc_new w1 (.cells #[.string c, .string r] 27))
  clear b1
  have HEY := Lib.hid (fun h => enc_yes (k := k) (c := c) (r := r) h)
  have HEN := Lib.hid (fun h => encS_no (k := k) (c := c) (r := r) h)
  have hsl := encS_len k c r
  have HIE := fun w ht => implEnr_any k c r (by unfold maxLen; omega) (by unfold maxLen; omega) w ht
  have HSE := fun w => specEnr_any k c r (by unfold maxLen; omega) (by unfold maxLen; omega) w
  unfold EnrPost at HIE HSE
  generalize encS k c r = s at *
  generalize encOk k c r = ok at *
  have HIE := Lib.hid HIE
  have HSE := Lib.hid HSE
  go_wp2_with fail
  refine (HIE.out _ (HTW.out _ B1.out)).mono ?_
  rintro e w2 ⟨rfl, b2⟩
  have B2 := Lib.hid (B1.out.trans (b2.mono B1.out.size))
  have E2 := Lib.hid (kept_old E1.out b2)
  obtain ⟨q1, q2, q3, q4, _⟩ := blk2c E2.out
  clear b2 E1
  go_wp2_with fail
  refine (HSE.out _).mono ?_
  rintro e w3 ⟨rfl, b3⟩
  have B3 := Lib.hid (B2.out.trans (b3.mono B2.out.size))
  have RD3 := Lib.hid (RdB.behind HRD.out B3.out)
  clear b3 q1 q2 q3 q4 E2
  go_wp2_with fail
  refine (drawRl_any _ _ RD3.out).mono ?_
  rintro e w4 ⟨t, htz, rfl, b4⟩
  have B4 := Lib.hid (B3.out.trans (b4.mono B3.out.size))
  clear b4 RD3
  have HLP := lines_plain t
  have hdl := rlD_len t
  have HIR := fun w ht hm => implRl_any t (by unfold maxLen; omega) w ht hm
  have HSR := fun w => specRl_any t (by unfold maxLen; omega) w
  unfold RlPost at HIR HSR
  generalize rlD t = D at *
  generalize rlC t = C at *
  generalize rlE t = E at *
  generalize rlOk t = tk at *
  have HIR := Lib.hid HIR
  have HSR := Lib.hid HSR
  have HLP := Lib.hid HLP
  go_wp2_with fail
  refine (HIR.out _ (HTW.out _ B4.out) (HMW.out _ B4.out)).mono ?_
  rintro e w5 ⟨rfl, b5⟩
  have B5 := Lib.hid ((B4.out.trans (b5.mono B4.out.size)).alloc (B4.out.trans (b5.mono B4.out.size)).size (.cells #[.string D, .string ⟨#[]⟩, .int .i64 C] 31))
  have M5 := Lib.hid (heap_alloc_new w5 (.cells #[.string D, .string ⟨#[]⟩, .int .i64 C] 31))
  clear b5
  go_wp2_with fail
  refine (HSR.out _).mono ?_
  rintro e w6 ⟨rfl, b6⟩
  have M6 := Lib.hid (kept_old M5.out b6)
  have B6 := Lib.hid ((B5.out.trans (b6.mono B5.out.size)).alloc (B5.out.trans (b6.mono B5.out.size)).size (.cells #[.string D, .string ⟨#[]⟩, .int .i64 C] 31))
  have M7 := Lib.hid ((heap_alloc_old w6 (.cells #[.string D, .string ⟨#[]⟩, .int .i64 C] 31) (Array.getElem?_eq_some_iff.1 M6.out).1).trans M6.out)
  have HRS := fun w ht hm => implRl_any s (by unfold maxLen; omega) w ht hm
  unfold RlPost at HRS
  have HRS := Lib.hid HRS
  obtain ⟨m1, m2, m3, m4, m5, m6, m7⟩ := blk3 M7.out
  clear b6 M5 M6
  have e1 : (s.toList != s.toList) = false := by simp
  have e2 : (ok != ok) = false := by simp
  have e3 : (tk != tk) = false := by simp
  have e4 : (E != E) = false := by simp
  have e5 : (D.toList != D.toList) = false := by simp
  have e6 : (C != C) = false := by simp
  have e7 : (D.toList == D.toList) = true := by simp
  have e8 : (C == C) = true := by simp
  have HSY := fun w ht hm => implSy_any D ⟨#[]⟩ C (by show D.size + 0 ≤ 1048576; omega) w ht hm
  have HVL := fun w ht hm => implVl_any D ⟨#[]⟩ C (by show D.size + 0 ≤ 1048576; omega) w ht hm
  unfold SyPost at HSY
  unfold VlPost at HVL
  have HLQ : Hid (tk = true → vlB D ⟨#[]⟩ C = true ∧ syS D ⟨#[]⟩ C = D ∧ syN D ⟨#[]⟩ C = C) := HLP.out
  generalize vlB D ⟨#[]⟩ C = vl at *
  generalize syS D ⟨#[]⟩ C = D3 at *
  generalize syN D ⟨#[]⟩ C = C3 at *
  have HSY := Lib.hid HSY
  have HVL := Lib.hid HVL
  go_wp2_with fail
  refine (HRS.out _ (HTW.out _ B6.out) (HMW.out _ B6.out)).mono ?_
  rintro e w7 ⟨rfl, b7⟩
  generalize rlD s = D2 at *
  generalize rlC s = C2 at *
  generalize rlE s = E2 at *
  generalize rlOk s = ok2 at *
  have M8 := Lib.hid ((heap_alloc_old w7 (.cells #[.string D2, .string ⟨#[]⟩, .int .i64 C2] 31) (Array.getElem?_eq_some_iff.1 (kept_old M7.out b7)).1).trans (kept_old M7.out b7))
  have B7 := Lib.hid ((B6.out.trans (b7.mono B6.out.size)).alloc (B6.out.trans (b7.mono B6.out.size)).size (.cells #[.string D2, .string ⟨#[]⟩, .int .i64 C2] 31))
  clear b7 m1 m2 m3 m4 m5 m6 m7 M7
  obtain ⟨m1, m2, m3, m4, m5, m6, m7⟩ := blk3 M8.out
  have hside : (ok = false ∨ (ok = true ∧ k = 0 ∧ 0 < E2 ∧ C2 = 1) ∨ (ok = true ∧ k ≠ 0 ∧ ¬ 0 < E2)) := by
    cases ok
    · exact .inl rfl
    · obtain ⟨h1, h2, h3⟩ := HEY.out rfl
      by_cases hk : k = 0
      · exact .inr (.inl ⟨rfl, hk, h2.2 hk, h3 hk⟩)
      · exact .inr (.inr ⟨rfl, hk, fun h => hk (h2.1 h)⟩)
  have HSI := Lib.hid hside
  clear hside
  go_upto_region 12 with fail
  go_cut [102] from 83 to 102 (fun sx wx => sx = .bool false ∧ Hid (Below w.heap.size w wx) ∧ Hid (wx.heap[w5.heap.size]? = some (.cells #[.string D, .string ⟨#[]⟩, .int .i64 C] 31 (0, 0))))
  case first =>
    rcases HSI.out with rfl | ⟨rfl, rfl, hE, rfl⟩ | ⟨rfl, hk, hE⟩
    · go_wp2_with fail
      go_meet
      exact ⟨rfl, B7.out, M8.out⟩
    · have d1 : decide (0 < E2) = true := by simpa using hE
      go_wp2_with fail
      go_meet
      exact ⟨rfl, B7.out, M8.out⟩
    · have d1 : decide (0 < E2) = false := by simpa using hE
      have d2 : (k == 0) = false := by simpa using hk
      go_wp2_with fail
      go_meet
      exact ⟨rfl, B7.out, M8.out⟩
  case rest =>
  obtain ⟨rfl, B8, M8⟩ := hcut
  clear m1 m2 m3 m4 m5 m6 m7
  obtain ⟨m1, m2, m3, m4, m5, m6, m7⟩ := blk3 M8.out
  go_wp2_with fail
  refine (HSY.out _ (HTW.out _ B8.out) (HMW.out _ B8.out)).mono ?_
  rintro e w9 ⟨rfl, b9⟩
  have M9 := Lib.hid ((heap_alloc_old w9 (.cells #[.string D3, .string ⟨#[]⟩, .int .i64 C3] 31) (Array.getElem?_eq_some_iff.1 (kept_old M8.out b9)).1).trans (kept_old M8.out b9))
  have B9 := Lib.hid ((B8.out.trans (b9.mono B8.out.size)).alloc (B8.out.trans (b9.mono B8.out.size)).size (.cells #[.string D3, .string ⟨#[]⟩, .int .i64 C3] 31))
  clear b9 m1 m2 m3 m4 m5 m6 m7 M8
  obtain ⟨m1, m2, m3, m4, m5, m6, m7⟩ := blk3 M9.out
  cases tk
  · go_wp2
    go_ret
    exact ⟨rfl, B9.out⟩
  obtain ⟨rfl, rfl, rfl⟩ := HLQ.out rfl
  go_wp2_with fail
  refine (HVL.out _ (HTW.out _ B9.out) (HMW.out _ B9.out)).mono ?_
  rintro e w10 ⟨rfl, b10⟩
  have B10 := Lib.hid (B9.out.trans (b10.mono B9.out.size))
  clear b10
  cases ok
  · have hs0 : s = mk [] := HEN.out rfl
    have hs1 : s.toList = [] := by rw [hs0, ByteArray.toList_eq, data_mk]
    have hs2 : s.toList.isEmpty = true := by rw [hs1]; rfl
    clear hs0
    go_wp2
    go_ret
    exact ⟨rfl, B10.out⟩
  · go_wp2
    go_ret
    exact ⟨rfl, B10.out⟩
end Go.Proofs.YtkhgdbnicpldkaaDoor
