/- Walks: WriteContainers, the reference's. -/
import Derived.Test.YtlemielobmbadaaWrtW
namespace Go.Proofs.Ytlemielobmbadaa
open Go.RowKit
set_option maxRecDepth 100000

/-- The world with an empty list of frames. -/
def We (w : World) : World := w.alloc (.cells #[] 50)
theorem We_size (w : World) : (We w).heap.size = w.heap.size + 1 := by simp [We]
theorem We_below (w : World) : Below w.heap.size w (We w) := (Below.refl _ _).alloc (Nat.le_refl _) _
theorem We_all {w wr : World} (h : Below (w.heap.size + 1) (We w) wr) : Below w.heap.size w wr := (We_below w).trans (Below.mono h (Nat.le_succ _))
theorem We_sz {w wr : World} (h : Below (w.heap.size + 1) (We w) wr) : w.heap.size + 1 ≤ wr.heap.size := by
  have := Below.size h
  rw [We_size] at this; exact this
theorem We_row {w wr : World} (h : Below (w.heap.size + 1) (We w) wr) : Grw wr w.heap.size 50 3 (.slice (some ⟨w.heap.size, 0, none⟩) 0 0) 0 [] :=
  (Grw.start (w := w) (base := w.heap.size) (size := 3) 50 (Nat.le_refl _) : Grw (We w) w.heap.size 50 3 (.slice (some ⟨w.heap.size, 0, none⟩) 0 0) 0 []).below (by have e := We_size w; unfold We at e h; rw [e]; exact h)
set_option maxHeartbeats 6400000 in
theorem specWrt_any (v : Value) (xss : List (List Int)) (p : Int) (w : World) (h : Rdt w (ssD xss) v) :
    Calls Try.prog 29 #[v, .int .i64 p] w (WrtP w xss p) := by
  obtain ⟨a, n, cap, rfl, HN, _, hnl, ha⟩ := ssD_opn h
  have HOK := Lib.hid (show wrtOk xss p = (inB (n : Int) 1 11 && inB p 0 11 && xss.all conOk) by rw [wrtOk, HN.out])
  have HNO := Lib.hid (fun w' v => @WrtP.no w w' xss p v)
  have HYES := Lib.hid (fun w' v fs => @WrtP.yes w w' xss p v fs)
  have HA := Lib.hid ha
  have HE := Lib.hid (show Below (w.heap.size + 1) (We w) (w.alloc (.cells #[] 50)) from Below.refl _ _)
  clear ha h
  cases h1 : inB (n : Int) 1 11
  · have HF := Lib.hid (show wrtOk xss p = false by rw [HOK.out, h1]; rfl)
    go_enter Try.func29, Try.ntmps29
    go_wp2_with (go_at_call 71; refine (l1In_any _ _ _ _).mono ?_; rintro e w' ⟨rfl, rfl⟩)
    exact bodyPost_ret (results_tmp2 (t := 4) (u := 5) rfl _ _ _) rfl (HNO.out _ _ HF.out (We_row HE.out).ofr (We_all HE.out))
  cases h2 : inB p 0 11
  · have HF := Lib.hid (show wrtOk xss p = false by rw [HOK.out, h1, h2]; rfl)
    go_enter Try.func29, Try.ntmps29
    go_wp2_with (go_at_call 71; refine (l1In_any _ _ _ _).mono ?_; rintro e w' ⟨rfl, rfl⟩)
    exact bodyPost_ret (results_tmp2 (t := 4) (u := 5) rfl _ _ _) rfl (HNO.out _ _ HF.out (We_row HE.out).ofr (We_all HE.out))
  have hb1 := inB_true h1
  have hb2 := inB_true h2
  obtain ⟨pn, rfl⟩ := Int.eq_ofNat_of_zero_le hb2.1
  have hp11 : pn ≤ 11 := by omega
  have hn11 : n ≤ 11 := by omega
  have HOK2 := Lib.hid (show wrtOk xss (pn : Int) = xss.all conOk by rw [HOK.out, h1, h2]; rfl)
  obtain ⟨i0, hi, hz0, hz1, hz2⟩ := info_parts Try.infoInt
  have HZ := Lib.hid (allW_zero pn xss)
  have HS := Lib.hid (fun k (hk : k < xss.length) => @allW_step xss pn k hk)
  have HTS := Lib.hid (fun k (hk : k < xss.length) => @all_take_step xss k hk)
  have HTN := Lib.hid (fun k (hk : k < xss.length) => @all_no xss k hk)
  clear HOK
  go_enter Try.func29, Try.ntmps29
  go_wp2_with (first
    | (go_at_call 71; refine (l1In_any _ _ _ _).mono ?_; rintro e w' ⟨rfl, rfl⟩)
    | (refine wpList_make_full _ rfl _ _ 24 rfl (w.heap.size + 1) 3 i0 (.int .i64 0) 1 Try.underlying24 hi hz0 hz1 _ _ _ _ pn rfl rfl rfl rfl (by rw [hz2]; omega) (by unfold maxLen; omega) (by simp) ?_; intro w1 hown1 hgrow1; rw [show (w.alloc (.cells #[] 50)).heap.size = w.heap.size + 1 by simp] at hown1; have HR1 := Lib.hid (made_ints hown1); have HB1 := Lib.hid (show Below (w.heap.size + 1) (We w) w1 from HE.out.grown hgrow1 (by simp) (by simp)); clear hown1 hgrow1))
  go_loopw [7, 8] (fun os iv wr => ∃ k : Nat, k ≤ n ∧ iv = .int .i64 (k : Int) ∧ Hid ((xss.take k).all conOk = true) ∧ Hid (wr.ownsRow (w.heap.size + 1) 3 1 os (pn + 12 * k) (ints (allW (xss.take k) pn))) ∧ Hid (Below (w.heap.size + 1) (We w) wr)) (fun _ iv _ => 100 - (intOf iv).toNat)
  case atStart => exact ⟨0, by omega, rfl, rfl, by rw [HZ.out]; exact HR1.out, HB1.out⟩
  case round =>
    obtain ⟨k, hk, rfl, HT, HR, HB⟩ := hrel
    clear HR1 HB1
    obtain ⟨ao, co, rfl⟩ := row_shape HR.out
    by_cases hlt : k < n
    · have hltI : (k : Int) < (n : Int) := by omega
      have hkx : k < xss.length := by rw [HN.out]; exact hlt
      obtain ⟨b, off, rfl, hbs, hcs⟩ := HA.out (by omega)
      obtain ⟨u, hcell, hru⟩ := hcs k hlt
      have hck := ((We_all HB.out).cell (p := ⟨b, off + k, none⟩) hbs).trans hcell
      have HSK := Lib.hid (HS.out k hkx)
      have HTSK := Lib.hid (HTS.out k hkx HT.out)
      have HTNK := Lib.hid (HTN.out k hkx)
      generalize xss[k]?.getD [] = x at *
      have HRU := Lib.hid (hru.belowAll (We_all HB.out))
      have HBY := Lib.hid (l23Bytes_any u x wr HRU.out)
      obtain ⟨a5, c5, n5, HX5, rfl, -, -, -⟩ := hru.opn
      have HCO := Lib.hid (show conOk x = (decide (n5 = 12) && bytL x) by rw [conOk, HX5.out])
      clear hcs hcell hru hkx
      generalize bytL x = by_ at *
      by_cases h12 : n5 = 12
      · subst h12
        cases by_
        · have HF := Lib.hid (show wrtOk xss (pn : Int) = false by rw [HOK2.out]; exact HTNK.out (by rw [HCO.out]; rfl))
          go_wp2_with fail
          refine HBY.out.mono ?_
          rintro e w2 ⟨rfl, rfl⟩
          go_wp2
          exact bodyPost_ret (results_tmp2 (t := 4) (u := 5) rfl _ _ _) rfl (HNO.out _ _ HF.out (We_row HB.out).ofr (We_all HB.out))
        · have HT2 := Lib.hid (HTSK.out (by rw [HCO.out]; rfl))
          have HLT := Lib.hid (fun x hx => (HR.out.lt x hx).1)
          have hsz := We_sz HB.out
          go_wp2_with fail
          refine HBY.out.mono ?_
          rintro e w2 ⟨rfl, rfl⟩
          go_wp2_with (at_builtin; go_loud (refine wpList_cat rfl (.tmp 44) (.tmp 48) 24 rfl Try.underlying24 Try.infoInt (w.heap.size + 1) _ (pn + 12 * k) _ rfl HR.out _ x rfl HRU.out (by rw [HX5.out]; decide) (by rw [HX5.out]; omega) hsz ?_; intro v3 w3 hown3 hgrow3; rw [← HSK.out, HX5.out] at hown3; have H3 := Lib.hid hown3; have HB3 := Lib.hid (Below.grown HB.out hgrow3 hsz (fun g hg => HLT.out g hg)); clear hown3 hgrow3))
          go_roundw
          case rel => exact ⟨k + 1, by omega, by go_num, HT2.out, by have := H3.out; rw [show pn + 12 * k + 12 = pn + 12 * (k + 1) by omega] at this; exact this, HB3.out⟩
          case measure => simp only [intOf]; omega
      · have hne : ((n5 : Int) != 12) = true := by rw [bne_iff_ne]; omega
        have HF := Lib.hid (show wrtOk xss (pn : Int) = false by rw [HOK2.out]; exact HTNK.out (by rw [HCO.out]; simp [h12]))
        clear h12
        go_wp2
        exact bodyPost_ret (results_tmp2 (t := 4) (u := 5) rfl _ _ _) rfl (HNO.out _ _ HF.out (We_row HB.out).ofr (We_all HB.out))
    · obtain rfl : k = n := by omega
      have hall := HT.out
      rw [← HN.out, List.take_length] at hall
      have HY := Lib.hid (show wrtOk xss (pn : Int) = true by rw [HOK2.out]; exact hall)
      have hrow := HR.out
      have hAl := allW_len pn hall
      rw [HN.out] at hAl
      rw [show xss.take k = xss by rw [← HN.out, List.take_length]] at hrow
      have HP := Lib.hid (show wrtP xss (pn : Int) = padW (allW xss pn) from rfl)
      obtain ⟨L, hL⟩ : ∃ L, pn + 12 * k = L := ⟨_, rfl⟩
      rw [hL] at hrow hAl
      have hL1 : L ≤ 143 := by omega
      have HL := Lib.hid hL
      have HAL := Lib.hid hAl
      have HRW := Lib.hid hrow
      clear HR HT hrow hL hAl hall HS HTS HTN HZ HA
      generalize allW xss pn = A at *
      go_wp2
      go_loopw [7] (fun os wr => ∃ (t j : Nat) (a2 : Option Addr) (c2 : Nat), os = .slice a2 t c2 ∧ t ≤ 160 ∧ Hid (t = L + j ∧ j ≤ padN L) ∧ Hid (wr.ownsRow (w.heap.size + 1) 3 1 (.slice a2 t c2) t (ints (A ++ List.replicate j 0))) ∧ Hid (Below (w.heap.size + 1) (We w) wr)) (fun os _ => 1000 - slLen os)
      case atStart => exact ⟨L, 0, ao, co, congrArg (fun t => Value.slice ao t co) HL.out, by omega, ⟨rfl, Nat.zero_le _⟩, by rw [List.replicate_zero, List.append_nil]; exact HRW.out, HB.out⟩
      case round =>
        clear HB HRW
        obtain ⟨t, j, a2, c2, rfl, ht, HTJ, HR, HB⟩ := hrel
        by_cases hm : t % 12 = 0
        · have hmI : (t : Int) % 12 = 0 := by omega
          have hmb : ((t : Int) % 12 != 0) = false := by simpa using hmI
          obtain ⟨htj, hjp⟩ := HTJ.out
          have hj := padN_eq hjp (by rw [← htj]; exact hm)
          have HPP := Lib.hid (show A ++ List.replicate j 0 = padW A by rw [padW, HAL.out, hj])
          have hPl : (padW A).length = t := by rw [padW_len, HAL.out, ← hj, htj]
          obtain ⟨M, hM⟩ : ∃ M, t = 12 * M := ⟨t / 12, by omega⟩
          have HFS := Lib.hid (show ∀ M', t = 12 * M' → wrtR xss (pn : Int) = wrtTo (padW A) (pn : Int) M' from fun M' hM' => wrtR_yes HY.out HP.out.symm (by rw [hPl, hM']))
          have HPL := Lib.hid hPl
          have HOA := Lib.hid (show Own wr (w.heap.size + 1) (.slice a2 t c2) (padW A) by have := own_of_row HR.out; rw [HPP.out] at this; exact this)
          have HTC := Lib.hid (fun k => wrtTo_cells (padW A) (pn : Int) k)
          have hM14 : M ≤ 13 := by omega
          have ht0 : 0 < t := by have := HL.out; omega
          have HM := Lib.hid hM
          clear hj htj hjp HPP HR HTJ hPl hm hM
          generalize padW A = P at *
          obtain ⟨bP, oP, cP, eP, hbP, hbP2, hcP, -⟩ := HOA.out.openN HPL.out ht0
          simp only [Value.slice.injEq, true_and] at eP
          obtain ⟨rfl, rfl⟩ := eP
          have HSUB := Lib.hid (fun (wx : World) (ho : Own wx (w.heap.size + 1) (.slice (some ⟨bP, oP, none⟩) t c2) P) (m : Nat) (hm : m + 12 ≤ t) => show Rd wx (.slice (some ⟨bP, oP + m, none⟩) 12 (c2 - m)) (sub P m 12) from (ho.part m 12 hm).rd)
          have hnb : w.heap.size ≠ bP := by omega
          have HG0 := Lib.hid (We_row HB.out)
          go_wp2
          clear hmI hmb
          go_loopw [6, 9] (fun os iv wx => ∃ k : Nat, iv = .int .i64 (k : Int) ∧ k ≤ 13 ∧ Hid (k ≤ M) ∧ Hid (Grw wx w.heap.size 50 3 os k ((wrtTo P (pn : Int) k).flatMap frC)) ∧ Hid (Below w.heap.size w wx ∧ Own wx (w.heap.size + 1) (.slice (some ⟨bP, oP, none⟩) t c2) P ∧ ∀ g, os.ownBlock = some g → g ≠ bP)) (fun _ iv _ => 1000 - (intOf iv).toNat)
          case atStart => exact ⟨0, rfl, by omega, by show 0 ≤ M; omega, HG0.out, ⟨We_all HB.out, HOA.out, fun g hg => by have e : w.heap.size = g := (by simpa [Value.ownBlock] using hg); omega⟩⟩
          case round =>
            obtain ⟨k, rfl, hk13, HKM, HG, HX⟩ := hrel
            clear HG0 HOA
            obtain ⟨-, ag, cg, rfl⟩ := HG.out.form
            obtain ⟨m, hmk⟩ : ∃ m, m = 12 * k := ⟨_, rfl⟩
            by_cases hlt : m < t
            · have hm12 : m + 12 ≤ t := by have := HM.out; omega
              have hmI : (k : Int) * 12 = (m : Int) := by omega
              have hmI2 : ((k : Int) + 1) * 12 = ((m + 12 : Nat) : Int) := by omega
              have hltI : (m : Int) < (t : Int) := by omega
              have hi1 : (m : Int) + 12 ≤ (t : Int) := by omega
              have hi2 : (m : Int) + 12 ≤ (c2 : Int) := by omega
              have hi3 : m + 12 ≤ c2 := by omega
              have hi4 : ¬ c2 = m := by omega
              have HCL := Lib.hid (l1Own_any _ _ wr (HSUB.out wr HX.out.2.1 m hm12) (by rw [sub_len (by rw [HPL.out]; exact hm12)]; decide) (by rw [sub_len (by rw [HPL.out]; exact hm12)]; decide))
              have HMK := Lib.hid hmk
              clear hmk
              have hbs := HX.out.1.size
              have HOWN := Lib.hid (fun g hg => (HG.out.own g hg).1)
              go_wp2_with fail
              refine HCL.out.mono ?_
              rintro e w2 ⟨u, rfl, o2, b2⟩
              obtain ⟨a5, c5, n5, -, rfl, -⟩ := o2.rd.opn
              have HN2 := Lib.hid ((((Newd.one o2.ofr).leaf (.int .i64 (pn : Int))).leaf (.int .i64 (k : Int))))
              have B2 := Lib.hid b2
              have HB2 := Lib.hid (HX.out.1.trans (b2.mono hbs))
              have hbs2 := HB2.out.size
              have HO2 := Lib.hid (HX.out.2.1.belowAll b2)
              have hpb := (HX.out.2.1.lt bP rfl).2
              have hpb2 := Nat.lt_of_lt_of_le hpb b2.size
              have HNE := Lib.hid HX.out.2.2
              have HTK := Lib.hid (HTC.out k)
              have hmk := HMK.out
              have HMM := Lib.hid (show sub P m 12 = sub P (12 * k) 12 by rw [hmk])
              rw [HMM.out] at HN2
              clear o2 b2 hmk hmI hmI2 HX
              go_wp2_with (at_builtin; go_loud (refine wpList_grow rfl (.tmp 64) (.tmp 76) 41 50 rfl Try.underlying41 (.agg #[.int .i64 0, .int .i64 0, .slice none 0 0]) 3 40 Try.infoFrame rfl (by decide) (by decide) w.heap.size k (.slice ag k cg) _ _ rfl HG.out hbs B2.out [.int .i64 (k : Int), .int .i64 (pn : Int), .slice a5 n5 c5] HN2.out rfl (by simp [Value.oneCell']) rfl (by omega) ?_; intro v3 w3 hG3 hgr3 hlie; rw [← HTK.out] at hG3; have HG3 := Lib.hid hG3; have HB3 := Lib.hid (HB2.out.grown hgr3 hbs2 (fun g hg => HOWN.out g hg)); have HO3 := Lib.hid (HO2.out.grown hgr3 (fun x hx e => HNE.out x e (by have e2 : bP = x := (by simpa [Value.ownBlock] using hx); exact e2.symm))); have HNE3 := Lib.hid (fun g (hg : v3.ownBlock = some g) => show g ≠ bP from (hlie g hg).elim (fun e => HNE.out g e) (fun e => by omega)); clear hG3 hgr3 hlie))
              go_roundw
              case rel => exact ⟨k + 1, by go_num, by have := HMK.out; omega, by have := HMK.out; have := HM.out; show k + 1 ≤ M; omega, HG3.out, ⟨HB3.out, HO3.out, HNE3.out⟩⟩
              case measure => simp only [intOf]; omega
            · have hmI : (k : Int) * 12 = (m : Int) := by omega
              have hnI : ¬ (m : Int) < (t : Int) := by omega
              have hkM : k = M := by have := HKM.out; have := HM.out; omega
              have HF := Lib.hid (HFS.out k (by rw [HM.out, hkM]))
              have HOF := Lib.hid HG.out.ofr
              have HBF := Lib.hid HX.out.1
              clear hkM
              go_wp2
              exact bodyPost_ret (results_tmp2 (t := 4) (u := 5) rfl _ _ _) rfl (HYES.out _ _ _ HY.out HF.out HOF.out HBF.out)
        · have hmI : ¬ (t : Int) % 12 = 0 := by omega
          have hmb : ((t : Int) % 12 != 0) = true := by rw [bne_iff_ne]; exact hmI
          have hjlt : j < padN L := by have := HTJ.out; exact padN_lt this.2 (by rw [← this.1]; exact hm)
          have hp12 : padN L < 12 := by unfold padN; omega
          have hsz := We_sz HB.out
          have HLT := Lib.hid (fun x hx => (HR.out.lt x hx).1)
          have HJ2 := Lib.hid (show t + 1 = L + (j + 1) ∧ j + 1 ≤ padN L from ⟨by have := HTJ.out; omega, hjlt⟩)
          have HAP := Lib.hid (show (A ++ List.replicate j 0) ++ [0] = A ++ List.replicate (j + 1) (0 : Int) by rw [List.append_assoc, List.replicate_succ'])
          have ht2 : t + 1 ≤ 160 := by have := HJ2.out; omega
          clear hjlt hp12
          go_wp2_with (at_builtin; go_loud (refine wpList_push rfl (.tmp 54) (.tmp 55) 24 rfl Try.underlying24 Try.infoInt (w.heap.size + 1) (.slice a2 t c2) t _ rfl HR.out rfl (by omega) hsz ?_; intro v3 w3 hown3 hgrow3; rw [HAP.out] at hown3; obtain ⟨a3, c3, rfl⟩ := row_shape hown3; have H3 := Lib.hid hown3; have HB3 := Lib.hid (Below.grown HB.out hgrow3 hsz (fun g hg => HLT.out g hg)); clear hown3 hgrow3))
          go_roundw
          case rel => exact ⟨t + 1, j + 1, a3, c3, rfl, ht2, HJ2.out, H3.out, HB3.out⟩
          case measure => simp only [slLen]; omega
end Go.Proofs.Ytlemielobmbadaa
