/- Walks: WriteContainers. -/
import Derived.Test.YtlemielobmbadaaBa25
import Derived.Test.YtlemielobmbadaaCtnX
import Derived.Test.YtlemielobmbadaaBa24
namespace Go.Proofs.Ytlemielobmbadaa
open Go.RowKit
set_option maxRecDepth 100000
theorem Try.infoFrame : (Try.prog.info? 50).map (fun i => (i.zero, i.size, i.bytes)) = some (some (.agg #[.int .i64 0, .int .i64 0, .slice none 0 0]), 3, 40) := by kernel_rfl

theorem row_shape {w : World} {base m size : Nat} {e : TypeId} {v : Value} {xs : List Value} (h : w.ownsRow base e size v m xs) : ∃ a c, v = .slice a m c := by
  rcases h.2 with ⟨h, h2⟩ | ⟨g, cap, cur, h, _⟩
  · exact ⟨none, 0, by rw [h, h2]⟩
  · exact ⟨_, _, h⟩
def slLen : Value → Nat | .slice _ n _ => n | _ => 0
theorem made_ints {w1 : World} {base n g : Nat} (h : w1.ownsRow base 3 1 (.slice (some ⟨g, 0, none⟩) n n) n (madeCells (Value.int .i64 0).cells (n * 1)).toList) : w1.ownsRow base 3 1 (.slice (some ⟨g, 0, none⟩) n n) n (ints (List.replicate n 0)) := by
  have e : (madeCells (Value.int .i64 0).cells (n * 1)).toList = ints (List.replicate n 0) := by
    rw [Nat.mul_one]
    have := toList_madeCells_one (.int .i64 0) n
    simpa [ints, Value.cells] using this
  rw [← e]; exact h
set_option maxHeartbeats 6400000 in
theorem implWrt_any (v : Value) (xss : List (List Int)) (p : Int) (w : World) (h : Rdt w (ssD xss) v) :
    Calls Try.prog 31 #[v, .int .i64 p] w (WrtP w xss p) := by
  obtain ⟨a, n, cap, rfl, HN, _, hnl, ha⟩ := ssD_opn h
  have HOK := Lib.hid (show wrtOk xss p = (inB (n : Int) 1 11 && inB p 0 11 && xss.all conOk) by rw [wrtOk, HN.out])
  have HNO := Lib.hid (fun w' v => @WrtP.no w w' xss p v)
  have HYES := Lib.hid (fun w' v fs => @WrtP.yes w w' xss p v fs)
  have HA := Lib.hid ha
  clear ha h
  cases h1 : inB (n : Int) 1 11
  · have HF := Lib.hid (show wrtOk xss p = false by rw [HOK.out, h1]; rfl)
    go_enter Try.func31, Try.ntmps31
    go_wp2_with (go_at_call 68; refine (within_any _ _ _ _).mono ?_; rintro e w' ⟨rfl, rfl⟩)
    exact bodyPost_ret (results_tmp2 (t := 4) (u := 5) rfl _ _ _) rfl (HNO.out _ _ HF.out (Ofr.nil _ _ _) (Below.refl _ _))
  cases h2 : inB p 0 11
  · have HF := Lib.hid (show wrtOk xss p = false by rw [HOK.out, h1, h2]; rfl)
    go_enter Try.func31, Try.ntmps31
    go_wp2_with (go_at_call 68; refine (within_any _ _ _ _).mono ?_; rintro e w' ⟨rfl, rfl⟩)
    exact bodyPost_ret (results_tmp2 (t := 4) (u := 5) rfl _ _ _) rfl (HNO.out _ _ HF.out (Ofr.nil _ _ _) (Below.refl _ _))
  have hb1 := inB_true h1
  have hb2 := inB_true h2
  obtain ⟨pn, rfl⟩ := Int.eq_ofNat_of_zero_le hb2.1
  have hp11 : pn ≤ 11 := by omega
  have hn11 : n ≤ 11 := by omega
  have HOK2 := Lib.hid (show wrtOk xss (pn : Int) = xss.all conOk by rw [HOK.out, h1, h2]; rfl)
  obtain ⟨i0, hi, hz0, hz1, hz2⟩ := info_parts Try.infoInt
  have HZ := Lib.hid (allW_zero pn xss)
  have HS := Lib.hid (fun k (hk : k < xss.length) => @allW_step xss pn k hk)
  have HTS := Lib.hid (fun k (hk : k < xss.length) => @all_take_step xss k hk)
  have HTN := Lib.hid (fun k (hk : k < xss.length) => @all_no xss k hk)
  clear HOK
  go_enter Try.func31, Try.ntmps31
  go_wp2_with (first
    | (go_at_call 68; refine (within_any _ _ _ _).mono ?_; rintro e w' ⟨rfl, rfl⟩)
    | (refine wpList_make_full _ rfl _ _ 24 rfl w.heap.size 3 i0 (.int .i64 0) 1 Try.underlying24 hi hz0 hz1 _ _ _ _ pn rfl rfl rfl rfl (by rw [hz2]; omega) (by unfold maxLen; omega) (Nat.le_refl _) ?_; intro w1 hown1 hgrow1; have HR1 := Lib.hid (made_ints hown1); have HB1 := Lib.hid (show Below w.heap.size w w1 from (Below.refl _ _).grown hgrow1 (Nat.le_refl _) (by simp)); clear hown1 hgrow1))
  go_loopw [6, 8, 24] (fun os _ iv wr => ∃ k : Nat, k ≤ n ∧ iv = .int .i64 (k : Int) ∧ Hid ((xss.take k).all conOk = true) ∧ Hid (wr.ownsRow w.heap.size 3 1 os (pn + 12 * k) (ints (allW (xss.take k) pn))) ∧ Hid (Below w.heap.size w wr)) (fun _ _ iv _ => 100 - (intOf iv).toNat)
  case atStart => exact ⟨0, by omega, rfl, rfl, by rw [HZ.out]; exact HR1.out, HB1.out⟩
  case round =>
    obtain ⟨k, hk, rfl, HT, HR, HB⟩ := hrel
    clear HR1 HB1
    obtain ⟨ao, co, rfl⟩ := row_shape HR.out
    by_cases hlt : k < n
    · have hltI : (k : Int) < (n : Int) := by omega
      have hkx : k < xss.length := by rw [HN.out]; exact hlt
      obtain ⟨b, off, rfl, hbs, hcs⟩ := HA.out (by omega)
      obtain ⟨u, hcell, hru⟩ := hcs k hlt
      have hck := (HB.out.cell (p := ⟨b, off + k, none⟩) hbs).trans hcell
      have HSK := Lib.hid (HS.out k hkx)
      have HTSK := Lib.hid (HTS.out k hkx HT.out)
      have HTNK := Lib.hid (HTN.out k hkx)
      generalize xss[k]?.getD [] = x at *
      have HRU := Lib.hid (hru.belowAll HB.out)
      have HBY := Lib.hid (areBytes_any u x wr HRU.out)
      obtain ⟨a5, c5, n5, HX5, rfl, -, -, -⟩ := hru.opn
      have HCO := Lib.hid (show conOk x = (decide (n5 = 12) && bytL x) by rw [conOk, HX5.out])
      clear hcs hcell hru hkx
      generalize bytL x = by_ at *
      by_cases h12 : n5 = 12
      · subst h12
        cases by_
        · have HF := Lib.hid (show wrtOk xss (pn : Int) = false by rw [HOK2.out]; exact HTNK.out (by rw [HCO.out]; rfl))
          go_wp2_with fail
          refine HBY.out.mono ?_
          rintro e w2 ⟨rfl, rfl⟩
          go_wp2
          exact bodyPost_ret (results_tmp2 (t := 4) (u := 5) rfl _ _ _) rfl (HNO.out _ _ HF.out (Ofr.nil _ _ _) HB.out)
        · have HT2 := Lib.hid (HTSK.out (by rw [HCO.out]; rfl))
          have HLT := Lib.hid (fun x hx => (HR.out.lt x hx).1)
          have hsz := HB.out.size
          go_wp2_with fail
          refine HBY.out.mono ?_
          rintro e w2 ⟨rfl, rfl⟩
          go_wp2_with (at_builtin; go_loud (refine wpList_cat rfl (.tmp 36) (.tmp 37) 24 rfl Try.underlying24 Try.infoInt w.heap.size _ (pn + 12 * k) _ rfl HR.out _ x rfl HRU.out (by rw [HX5.out]; decide) (by rw [HX5.out]; omega) hsz ?_; intro v3 w3 hown3 hgrow3; rw [← HSK.out, HX5.out] at hown3; have H3 := Lib.hid hown3; have HB3 := Lib.hid (HB.out.grown hgrow3 hsz (fun g hg => HLT.out g hg)); clear hown3 hgrow3))
          go_roundw
          case rel => exact ⟨k + 1, by omega, by go_num, HT2.out, by have := H3.out; rw [show pn + 12 * k + 12 = pn + 12 * (k + 1) by omega] at this; exact this, HB3.out⟩
          case measure => simp only [intOf]; omega
      · have hne : ((n5 : Int) != 12) = true := by rw [bne_iff_ne]; omega
        have HF := Lib.hid (show wrtOk xss (pn : Int) = false by rw [HOK2.out]; exact HTNK.out (by rw [HCO.out]; simp [h12]))
        clear h12
        go_wp2
        exact bodyPost_ret (results_tmp2 (t := 4) (u := 5) rfl _ _ _) rfl (HNO.out _ _ HF.out (Ofr.nil _ _ _) HB.out)
    · obtain rfl : k = n := by omega
      have hall := HT.out
      rw [← HN.out, List.take_length] at hall
      have HY := Lib.hid (show wrtOk xss (pn : Int) = true by rw [HOK2.out]; exact hall)
      have hrow := HR.out
      have hAl := allW_len pn hall
      rw [HN.out] at hAl
      rw [show xss.take k = xss by rw [← HN.out, List.take_length]] at hrow
      have HP := Lib.hid (show wrtP xss (pn : Int) = padW (allW xss pn) from rfl)
      obtain ⟨L, hL⟩ : ∃ L, pn + 12 * k = L := ⟨_, rfl⟩
      rw [hL] at hrow hAl
      have hL1 : L ≤ 143 := by omega
      have HL := Lib.hid hL
      have HAL := Lib.hid hAl
      have HRW := Lib.hid hrow
      clear HR HT hrow hL hAl hall HS HTS HTN HZ HA
      generalize allW xss pn = A at *
      go_wp2
      go_loopw [6] (fun os wr => ∃ (t j : Nat) (a2 : Option Addr) (c2 : Nat), os = .slice a2 t c2 ∧ t ≤ 160 ∧ Hid (t = L + j ∧ j ≤ padN L) ∧ Hid (wr.ownsRow w.heap.size 3 1 (.slice a2 t c2) t (ints (A ++ List.replicate j 0))) ∧ Hid (Below w.heap.size w wr)) (fun os _ => 1000 - slLen os)
      case atStart => exact ⟨L, 0, ao, co, congrArg (fun t => Value.slice ao t co) HL.out, by omega, ⟨rfl, Nat.zero_le _⟩, by rw [List.replicate_zero, List.append_nil]; exact HRW.out, HB.out⟩
      case round =>
        clear HB HRW
        obtain ⟨t, j, a2, c2, rfl, ht, HTJ, HR, HB⟩ := hrel
        obtain ⟨wA, rfl⟩ : ∃ wA, wA = wr := ⟨_, rfl⟩
        by_cases hm : t % 12 = 0
        · have hmI : (t : Int) % 12 = 0 := by omega
          have hmb : ((t : Int) % 12 != 0) = false := by simpa using hmI
          obtain ⟨htj, hjp⟩ := HTJ.out
          have hj := padN_eq hjp (by rw [← htj]; exact hm)
          have HPP := Lib.hid (show A ++ List.replicate j 0 = padW A by rw [padW, HAL.out, hj])
          have hPl : (padW A).length = t := by rw [padW_len, HAL.out, ← hj, htj]
          obtain ⟨M, hM⟩ : ∃ M, t = 12 * M := ⟨t / 12, by omega⟩
          have HFS := Lib.hid (show ∀ M', t = 12 * M' → wrtR xss (pn : Int) = wrtTo (padW A) (pn : Int) M' from fun M' hM' => wrtR_yes HY.out HP.out.symm (by rw [hPl, hM']))
          have HPL := Lib.hid hPl
          have HRD := Lib.hid (show Rd wA (.slice a2 t c2) (padW A) by have := (own_of_row HR.out).rd; rw [HPP.out] at this; exact this)
          have HTC := Lib.hid (fun k => wrtTo_cells (padW A) (pn : Int) k)
          have hM14 : M ≤ 13 := by omega
          have ht0 : 0 < t := by have := HL.out; omega
          have HM := Lib.hid hM
          clear hj htj hjp HPP HR HTJ hPl hm hM
          generalize padW A = P at *
          obtain ⟨aP, cP, tP, HXP, eP, hcP, -, HCM, haP⟩ := HRD.out.opnc
          simp only [Value.slice.injEq] at eP
          obtain ⟨rfl, rfl, rfl⟩ := eP
          obtain ⟨bP, oP, rfl, hbP, hcells⟩ := haP ht0
          have HSUB := Lib.hid (fun (wx : World) (hb : Below wA.heap.size wA wx) (m : Nat) (hm : m + 12 ≤ t) => show Rd wx (.slice (some ⟨bP, oP + m, none⟩) 12 (c2 - m)) (sub P m 12) from (rd_sub HXP.out hcP HCM.out hbP hcells m 12 hm).belowAll hb)
          have hWB := HB.out.size
          clear hcells haP
          have hG0 : Grw (wA.alloc (.cells #[] 50)) wA.heap.size 50 3 (.slice (some ⟨wA.heap.size, 0, none⟩) 0 0) 0 ((wrtTo P (pn : Int) 0).flatMap frC) := Grw.start _ (Nat.le_refl _)
          have HG0 := Lib.hid hG0
          have HB0 := Lib.hid (show Below wA.heap.size wA (wA.alloc (.cells #[] 50)) from (Below.refl _ _).alloc (Nat.le_refl _) _)
          clear hG0
          go_wp2
          clear hmI hmb
          go_loopw [9, 10] (fun os iv wx => ∃ k m : Nat, iv = .int .i64 (m : Int) ∧ m ≤ 200 ∧ Hid (m = 12 * k ∧ k ≤ M) ∧ Hid (Grw wx wA.heap.size 50 3 os k ((wrtTo P (pn : Int) k).flatMap frC)) ∧ Hid (Below wA.heap.size wA wx)) (fun _ iv _ => 1000 - (intOf iv).toNat)
          case atStart => exact ⟨0, 0, rfl, by omega, ⟨rfl, by omega⟩, HG0.out, HB0.out⟩
          case round =>
            obtain ⟨k, m, rfl, hm200, HMK, HG, HBX⟩ := hrel
            clear HG0 HB0
            obtain ⟨-, ag, cg, rfl⟩ := HG.out.form
            by_cases hlt : m < t
            · have hltI : (m : Int) < (t : Int) := by omega
              have hm12 : m + 12 ≤ t := by have := HMK.out; have := HM.out; omega
              have hk13 : k ≤ 20 := by have := HMK.out; omega
              have hi1 : (m : Int) + 12 ≤ (t : Int) := by omega
              have hi2 : (m : Int) + 12 ≤ (c2 : Int) := by omega
              have hi3 : m + 12 ≤ c2 := by omega
              have hi4 : ¬ c2 = m := by omega
              have HCL := Lib.hid (clone_any _ _ wr (HSUB.out wr HBX.out m hm12) (by rw [sub_len (by rw [HXP.out]; exact hm12)]; decide) (by rw [sub_len (by rw [HXP.out]; exact hm12)]; decide))
              have hsx := HBX.out.size
              have HOWN := Lib.hid (fun g hg => (HG.out.own g hg).1)
              go_wp2_with fail
              refine HCL.out.mono ?_
              rintro e w2 ⟨u, rfl, o2, b2⟩
              obtain ⟨a5, c5, n5, -, rfl, -⟩ := o2.rd.opn
              have HN2 := Lib.hid ((((Newd.one o2.ofr).leaf (.int .i64 (pn : Int))).leaf (.int .i64 (k : Int))))
              have B2 := Lib.hid b2
              have HBX2 := Lib.hid (HBX.out.trans (b2.mono hsx))
              have hsx2 := HBX2.out.size
              have HTK := Lib.hid (HTC.out k)
              have hmk := HMK.out.1
              have HMM := Lib.hid (show sub P m 12 = sub P (12 * k) 12 by rw [hmk])
              rw [HMM.out] at HN2
              clear o2 b2 hmk
              go_wp2_with (at_builtin; go_loud (refine wpList_grow rfl (.tmp 54) (.tmp 65) 41 50 rfl Try.underlying41 (.agg #[.int .i64 0, .int .i64 0, .slice none 0 0]) 3 40 Try.infoFrame rfl (by decide) (by decide) wA.heap.size k (.slice ag k cg) _ _ rfl HG.out hsx B2.out [.int .i64 (k : Int), .int .i64 (pn : Int), .slice a5 n5 c5] HN2.out rfl (by simp [Value.oneCell']) rfl (by omega) ?_; intro v3 w3 hG3 hgr3 _; rw [← HTK.out] at hG3; have HG3 := Lib.hid hG3; have HB3 := Lib.hid (HBX2.out.grown hgr3 hsx2 (fun g hg => HOWN.out g hg)); clear hG3 hgr3))
              go_roundw
              case rel => exact ⟨k + 1, m + 12, by go_num, by omega, by have := HMK.out; have := HM.out; exact ⟨by omega, by omega⟩, HG3.out, HB3.out⟩
              case measure => simp only [intOf]; omega
            · have hnI : ¬ (m : Int) < (t : Int) := by omega
              have hkM : k = M := by have := HMK.out; have := HM.out; omega
              have HF := Lib.hid (HFS.out k (by rw [HM.out, hkM]))
              have HOF := Lib.hid (HG.out.ofr.mono hWB)
              have HBF := Lib.hid (HB.out.trans (HBX.out.mono hWB))
              clear hkM
              go_wp2
              exact bodyPost_ret (results_tmp2 (t := 4) (u := 5) rfl _ _ _) rfl (HYES.out _ _ _ HY.out HF.out HOF.out HBF.out)
        · have hmI : ¬ (t : Int) % 12 = 0 := by omega
          have hmb : ((t : Int) % 12 != 0) = true := by rw [bne_iff_ne]; exact hmI
          have hjlt : j < padN L := by have := HTJ.out; exact padN_lt this.2 (by rw [← this.1]; exact hm)
          have hp12 : padN L < 12 := by unfold padN; omega
          have hsz := HB.out.size
          have HLT := Lib.hid (fun x hx => (HR.out.lt x hx).1)
          have HJ2 := Lib.hid (show t + 1 = L + (j + 1) ∧ j + 1 ≤ padN L from ⟨by have := HTJ.out; omega, hjlt⟩)
          have HAP := Lib.hid (show (A ++ List.replicate j 0) ++ [0] = A ++ List.replicate (j + 1) (0 : Int) by rw [List.append_assoc, List.replicate_succ'])
          have ht2 : t + 1 ≤ 160 := by have := HJ2.out; omega
          clear hjlt hp12
          go_wp2_with (at_builtin; go_loud (refine wpList_push rfl (.tmp 44) (.tmp 45) 24 rfl Try.underlying24 Try.infoInt w.heap.size (.slice a2 t c2) t _ rfl HR.out rfl (by omega) hsz ?_; intro v3 w3 hown3 hgrow3; rw [HAP.out] at hown3; obtain ⟨a3, c3, rfl⟩ := row_shape hown3; have H3 := Lib.hid hown3; have HB3 := Lib.hid (HB.out.grown hgrow3 hsz (fun g hg => HLT.out g hg)); clear hown3 hgrow3))
          go_roundw
          case rel => exact ⟨t + 1, j + 1, a3, c3, rfl, ht2, HJ2.out, H3.out, HB3.out⟩
          case measure => simp only [slLen]; omega
end Go.Proofs.Ytlemielobmbadaa
