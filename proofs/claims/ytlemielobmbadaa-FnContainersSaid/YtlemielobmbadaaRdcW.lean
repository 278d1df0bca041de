/- Walks: ReadContainers. -/
import Derived.Test.YtlemielobmbadaaBa26
import Derived.Test.YtlemielobmbadaaCtnO
import Derived.Deep.CutRange
namespace Go.Proofs.Ytlemielobmbadaa
open Go.RowKit
set_option maxRecDepth 100000

set_option maxHeartbeats 6400000 in
theorem implRdc_any (v : Value) (fs : List Frm) (w : World) (h : Rdt w (frD fs) v) :
    Calls Try.prog 50 #[v] w (RdcP w fs) := by
  have HV := Lib.hid (show Calls Try.prog 104 #[v] w (fun e w' => e = .returned (.bool (frsOk fs)) ∧ Below w.heap.size w w') from areFrames_any v fs w h)
  have HNO := Lib.hid (fun w' v => @RdcP.no w w' fs v)
  have HYES := Lib.hid (fun w' v n => @RdcP.yes w w' fs v n)
  have HPT := Lib.hid (fun h : frsOk fs = true => frsOk_parts h)
  obtain ⟨a, n, cap, rfl, HN, _, hnl, ha⟩ := frD_opn h
  have HA := Lib.hid ha
  clear ha h
  generalize hok : frsOk fs = ok at *
  cases ok
  · have HN1 := Lib.hid (fun w' v ho hb => HNO.out w' v (by first | exact hok | rfl) ho hb)
    clear HNO HYES HPT hok
    go_enter Try.func50, Try.ntmps50
    go_wp2_with fail
    refine HV.out.mono ?_
    rintro e w1 ⟨rfl, b1⟩
    have HB1 := Lib.hid b1
    clear b1
    go_wp2
    exact bodyPost_ret (results_tmp2 (t := 2) (u := 3) rfl _ _ _) rfl (HN1.out _ _ (Ofr.nil _ _ _) HB1.out)
  obtain ⟨hn12, hall⟩ := HPT.out rfl
  have HY1 := Lib.hid (fun w' v n hn ho hb => HYES.out w' v n (by first | exact hok | rfl) hn ho hb)
  rw [HN.out] at hn12
  have HS := Lib.hid (fun k (h : k < fs.length) => @allR_step fs k h)
  have HL := Lib.hid (fun k (h : k < fs.length) => (frmOk_parts (frs_get hall k h)).2.2.1)
  have hal := allR_len hall
  have HP := Lib.hid (fun k (h : k < fs.length) => ptr_eq hall h)
  have HBD := Lib.hid (fun k (h : k < fs.length) => toI_bd hall h)
  rw [HN.out] at hal
  have HAL := Lib.hid hal
  have HSTEP := Lib.hid (fun k => rdTo_step fs k)
  clear hal hall HPT HNO HYES hok
  go_enter Try.func50, Try.ntmps50
  go_wp2_with fail
  refine HV.out.mono ?_
  rintro e w1 ⟨rfl, b1⟩
  have HB1 := Lib.hid b1
  have hs1 := b1.size
  have hb2 := (Below.refl w1.heap.size w1).alloc (Nat.le_refl _) (.cells #[] 3)
  have hb3 := hb2.alloc hb2.size (.cells #[] 24)
  have hr0 : (w1.alloc (.cells #[] 3)).ownsRow w1.heap.size 3 1 (.slice (some ⟨w1.heap.size, 0, none⟩) 0 0) 0 (ints []) := World.ownsRow_lit (base := w1.heap.size) (e := 3) (size := 1) w1 #[] 0 (Nat.le_refl _) (by simp) rfl
  have HR0 := Lib.hid (hr0.alloc (.cells #[] 24))
  have hg0 := heap_alloc_new (w1.alloc (.cells #[] 3)) (.cells #[] 24)
  rw [show (w1.alloc (.cells #[] 3)).heap.size = w1.heap.size + 1 by simp] at hg0
  have HG0 := Lib.hid hg0
  have HB3 := Lib.hid hb3
  clear b1 hb2 hb3 hr0 hg0
  go_wp2_with fail
  go_loopw [4, 7, 19] (fun os _ iv wr => ∃ k : Nat, k ≤ n ∧ iv = .int .i64 (k : Int) ∧ Hid (wr.ownsRow w1.heap.size 3 1 os (12 * k) (ints (allR (fs.take k)))) ∧ Hid (wr.heap[w1.heap.size + 1]? = some (.cells #[] 24 (0, 0)) ∧ (∀ g, os.ownBlock = some g → g ≠ w1.heap.size + 1) ∧ Below w1.heap.size w1 wr)) (fun _ _ iv _ => 100 - (intOf iv).toNat)
  case atStart => exact ⟨0, by omega, rfl, HR0.out, HG0.out, (fun g hg => by have e : w1.heap.size = g := (by simpa [Value.ownBlock] using hg); omega), HB3.out⟩
  case round =>
    clear HR0 HG0 HB3
    obtain ⟨k, hk, rfl, HR, HX⟩ := hrel
    obtain ⟨ao, co, rfl⟩ := row_shape HR.out
    by_cases hlt : k < n
    · have hltI : (k : Int) < (n : Int) := by omega
      have hkx : k < fs.length := by rw [HN.out]; exact hlt
      obtain ⟨b, off, rfl, hbs, hcs⟩ := HA.out (by omega)
      obtain ⟨u, p1, p2, p3, hru⟩ := hcs k hlt
      have HBW := Lib.hid (HB1.out.trans (HX.out.2.2.mono hs1))
      have d1 := (HBW.out.cell (p := ⟨b, off + k * 3, none⟩) hbs).trans p1
      have d2 := (HBW.out.cell (p := ⟨b, off + k * 3 + 1, none⟩) hbs).trans p2
      have d3 := (HBW.out.cell (p := ⟨b, off + k * 3 + 2, none⟩) hbs).trans p3
      have HSK := Lib.hid (HS.out k hkx)
      have HLK := Lib.hid (HL.out k hkx)
      obtain ⟨a5, c5, n5, -, rfl, -⟩ := hru.opn
      generalize fs[k]?.getD nilF = f at *
      have hal := (Below.refl wr.heap.size wr).alloc (Nat.le_refl _) (.cells #[.int .i64 f.c, .int .i64 f.p, .slice a5 n5 c5] 50)
      have HRU := Lib.hid ((hru.belowAll HBW.out).belowAll hal)
      have HR2 := Lib.hid (HR.out.alloc (.cells #[.int .i64 f.c, .int .i64 f.p, .slice a5 n5 c5] 50))
      have HB2 := Lib.hid (HX.out.2.2.trans (hal.mono HX.out.2.2.size))
      have HG2 := Lib.hid ((heap_alloc_old wr (.cells #[.int .i64 f.c, .int .i64 f.p, .slice a5 n5 c5] 50) (Array.getElem?_eq_some_iff.1 HX.out.1).1).trans HX.out.1)
      have HNE := Lib.hid HX.out.2.1
      have hsb := (Array.getElem?_eq_some_iff.1 HG2.out).1
      have hs2 := HB2.out.size
      clear hcs hru p1 p2 p3 hkx hal HX HR
      go_wp2_with (at_builtin; go_loud (refine wpList_catL rfl (.tmp 23) (.tmp 25) 24 rfl Try.underlying24 Try.infoInt w1.heap.size _ (12 * k) _ rfl HR2.out _ f.l rfl HRU.out (by rw [HLK.out]; decide) (by rw [HLK.out]; omega) hs2 ?_; intro v3 w3 hown3 hgrow3 hlie; rw [← HSK.out, HLK.out] at hown3; have H3 := Lib.hid hown3; have HB3 := Lib.hid (HB2.out.grown hgrow3 hs2 (fun g hg => (HR2.out.lt g hg).1)); have HG3 := Lib.hid ((hgrow3.block _ hsb (fun e => HNE.out _ e.symm rfl)).trans HG2.out); have HNE3 := Lib.hid (fun g (hg : v3.ownBlock = some g) => show g ≠ w1.heap.size + 1 from (hlie g hg).elim (fun e => HNE.out g e) (fun e => by omega)); clear hown3 hgrow3 hlie))
      go_roundw
      case rel => exact ⟨k + 1, by omega, by go_num, by have := H3.out; rw [show 12 * k + 12 = 12 * (k + 1) by omega] at this; exact this, HG3.out, HNE3.out, HB3.out⟩
      case measure => simp only [intOf]; omega
    · obtain rfl : k = n := by omega
      have hown := own_of_row HR.out
      rw [show fs.take k = fs by rw [← HN.out, List.take_length]] at hown
      have hal := HAL.out
      have HALT := Lib.hid hal
      obtain ⟨wA, rfl⟩ : ∃ wA, wA = wr := ⟨_, rfl⟩
      have HOA := Lib.hid hown
      have HG0 := Lib.hid (Grw.lit (base := w1.heap.size) (size := 1) HX.out.1 (Nat.le_succ _))
      have HNE0 := Lib.hid (fun g (hg : (Value.slice (some ⟨w1.heap.size + 1, 0, none⟩) 0 0).ownBlock = some g) b (hb : (Value.slice ao (12 * k) co).ownBlock = some b) => show g ≠ b from fun e => by
        have e1 : w1.heap.size + 1 = g := (by simpa [Value.ownBlock] using hg)
        exact HX.out.2.1 b hb (by omega))
      have HBA := Lib.hid HX.out.2.2
      clear HR HX hown hal HAL HS HL
      go_wp2
      go_loopw [5, 8, 9, 10, 11, 30] (fun os _ _ _ _ iv wx => ∃ i q : Nat, iv = .int .i64 (i : Int) ∧ i ≤ k ∧ q ≤ 12 ∧ Hid (q = (rdTo fs i).length ∧ q ≤ i) ∧ Hid (Grw wx w1.heap.size 24 1 os q ((rdTo fs i).map inD)) ∧ Hid (Own wx w1.heap.size (.slice ao (12 * k) co) (allR fs) ∧ Below w1.heap.size w1 wx ∧ ∀ g, os.ownBlock = some g → ∀ b, (Value.slice ao (12 * k) co).ownBlock = some b → g ≠ b)) (fun _ _ _ _ _ iv _ => 100 - (intOf iv).toNat)
      case atStart => exact ⟨0, 0, rfl, by omega, by omega, ⟨rfl, by omega⟩, HG0.out, HOA.out, HBA.out, HNE0.out⟩
      case round =>
        clear HG0 HNE0 HOA HBA
        obtain ⟨i, q, rfl, hik, hq12, HQ, HG, HX⟩ := hrel
        obtain ⟨-, ag, cg, rfl⟩ := HG.out.form
        by_cases hlt2 : i < k
        · have hltI : (i : Int) < (k : Int) := by omega
          have hix : i < fs.length := by rw [HN.out]; exact hlt2
          obtain ⟨b, off, rfl, hbs, hcs⟩ := HA.out (by omega)
          have HBW := Lib.hid (HB1.out.trans (HX.out.2.1.mono hs1))
          obtain ⟨u, p1, p2, p3, hru⟩ := hcs i hlt2
          have d1 := (HBW.out.cell (p := ⟨b, off + i * 3, none⟩) hbs).trans p1
          have d2 := (HBW.out.cell (p := ⟨b, off + i * 3 + 1, none⟩) hbs).trans p2
          have d3 := (HBW.out.cell (p := ⟨b, off + i * 3 + 2, none⟩) hbs).trans p3
          obtain ⟨a5, c5, n5, -, rfl, -⟩ := hru.opn
          obtain ⟨hpe, hp11⟩ := HP.out i hix
          rw [hpe] at d2
          have hbd := HBD.out i hix
          obtain ⟨F, hF⟩ : ∃ F, F = fromI fs i := ⟨_, rfl⟩
          obtain ⟨T, hTe⟩ : ∃ T, T = toI fs i := ⟨_, rfl⟩
          have hFI : (i : Int) * 12 + (ptr fs i : Int) = (F : Int) := by rw [hF]; unfold fromI; omega
          have hF200 : F ≤ 200 := by rw [hF]; unfold fromI; omega
          rw [← hF, ← hTe] at hbd
          have hT1 := hbd.1
          have hT2 := hbd.2
          have HSK := Lib.hid (HSTEP.out i)
          rw [← hF, ← hTe] at HSK
          have hor : (i + 1 < k ∧ ((if ((i : Int) + 1) * 12 + (fs[i + 1]?.getD nilF).p < (F : Int) + 12 then ((i : Int) + 1) * 12 + (fs[i + 1]?.getD nilF).p else (F : Int) + 12) = (T : Int) ∧ (0 ≤ (fs[i + 1]?.getD nilF).p ∧ (fs[i + 1]?.getD nilF).p ≤ 11) ∧ wr.cell? ⟨b, off + (i + 1) * 3 + 1, none⟩ = some (.int .i64 (fs[i + 1]?.getD nilF).p))) ∨ (¬ i + 1 < k ∧ (F : Int) + 12 = (T : Int)) := by
            by_cases h3 : i + 1 < k
            · left
              obtain ⟨u', r1, r2, r3, -⟩ := hcs (i + 1) h3
              obtain ⟨hpe', hp11'⟩ := HP.out (i + 1) (by rw [HN.out]; exact h3)
              refine ⟨h3, ?_, by omega, (HBW.out.cell (p := ⟨b, off + (i + 1) * 3 + 1, none⟩) hbs).trans r2⟩
              have ht : toI fs i = min (fromI fs i + 12) (fromI fs (i + 1)) := by unfold toI; rw [if_pos (by rw [HN.out]; exact h3)]
              rw [hpe', hTe, ht, hF]
              have hf1 : fromI fs (i + 1) = 12 * (i + 1) + ptr fs (i + 1) := rfl
              have hmn : min (fromI fs i + 12) (fromI fs (i + 1)) = if fromI fs (i + 1) < fromI fs i + 12 then fromI fs (i + 1) else fromI fs i + 12 := by
                split <;> omega
              rw [hmn]
              by_cases hc : fromI fs (i + 1) < fromI fs i + 12
              · rw [if_pos hc, if_pos (by omega)]; omega
              · rw [if_neg hc, if_neg (by omega)]; omega
            · right
              refine ⟨h3, ?_⟩
              rw [hTe, hF]
              unfold toI
              rw [if_neg (by rw [HN.out]; exact h3)]
              omega
          have HU := Lib.hid hru
          have hbw : b < wr.heap.size := Nat.lt_of_lt_of_le hbs HBW.out.size
          have hbne : ¬ b = wr.heap.size := by omega
          have hbne2 : ¬ wr.heap.size = b := by omega
          clear hcs p1 p2 p3 hpe hF hTe hbd hix hru
          rcases hor with ⟨h3, hT3, ⟨hp3, hp4⟩, hc3⟩ | ⟨h3, hT3⟩
          · have h3I : (i : Int) + 1 < (k : Int) := by omega
            have h3b : decide ((i : Int) + 1 < (k : Int)) = true := by simpa using h3I
            have HT3 := Lib.hid hT3
            clear hT3
            go_upto_region 16 with fail
            have hT3 := HT3.out
            rw [hT3]
            clear hc3 hp3 hp4
            have hWB := (Below.refl wr.heap.size wr).alloc (Nat.le_refl _) (.cells #[.int .i64 (fs[i]?.getD nilF).c, .int .i64 (ptr fs i : Int), .slice a5 n5 c5] 50)
            have HG2 := Lib.hid (HG.out.below hWB)
            have HO2 := Lib.hid (HX.out.1.belowAll hWB)
            have HB2 := Lib.hid (HX.out.2.1.trans (hWB.mono HX.out.2.1.size))
            have HNE2 := Lib.hid HX.out.2.2
            clear hWB HG HX d1 d2 d3 hbw hbne hbne2 hFI
            generalize wr.alloc (.cells #[.int .i64 (fs[i]?.getD nilF).c, .int .i64 (ptr fs i : Int), .slice a5 n5 c5] 50) = wB at *
            have hs2 := HB2.out.size
            by_cases hTt : T ≤ 12 * k
            · have hT4 : (T : Int) ≤ 12 * (k : Int) := by omega
              have hT4b : decide ((T : Int) ≤ 12 * (k : Int)) = true := by simpa using hT4
              obtain ⟨bA, oA, cA, eA, hbA, hbA2, hcA, -⟩ := HO2.out.openN HALT.out (by omega)
              simp only [Value.slice.injEq, true_and] at eA
              obtain ⟨rfl, rfl⟩ := eA
              have hi1 : (F : Int) ≤ (T : Int) := by omega
              have hi2 : (T : Int) ≤ (co : Int) := by omega
              have hi3 : T ≤ co := by omega
              have hi4 : ¬ co = F := by omega
              have hi5 : F ≤ T := by omega
              have hsl : (sub (allR fs) F (T - F)).length = T - F := sub_len (by rw [HALT.out]; omega)
              have HCL := Lib.hid (clone_any _ _ wB (HO2.out.part F (T - F) (by omega)).rd (by rw [hsl]; omega) (by rw [hsl]; omega))
              have HSK2 := Lib.hid (show (rdTo fs (i + 1)).map inD = (rdTo fs i).map inD ++ [inD (sub (allR fs) F (T - F))] by rw [HSK.out, if_pos (by rw [HN.out]; exact hTt), List.map_append]; rfl)
              have HQ2 := Lib.hid (show q + 1 = (rdTo fs (i + 1)).length ∧ q + 1 ≤ i + 1 from ⟨by rw [HSK.out, if_pos (by rw [HN.out]; exact hTt), List.length_append, ← HQ.out.1]; rfl, by have := HQ.out.2; omega⟩)
              clear hsl
              go_wp2_with fail
              refine HCL.out.mono ?_
              rintro e w2 ⟨u, rfl, o2, b2⟩
              obtain ⟨a6, c6, n6, -, rfl, -⟩ := o2.rd.opn
              have HN2 := Lib.hid (Newd.one o2.ofr)
              have B2 := Lib.hid b2
              have HB3 := Lib.hid (HB2.out.trans (b2.mono hs2))
              have HO3 := Lib.hid (HO2.out.belowAll b2)
              have hs3 := HB3.out.size
              have hpb2 := Nat.lt_of_lt_of_le hbA2 b2.size
              have HOWN := Lib.hid (fun g hg => (HG2.out.own g hg).1)
              clear o2 b2
              go_wp2_with (at_builtin; go_loud (refine wpList_grow rfl (.tmp 63) (.tmp 69) 39 24 rfl Try.underlying39 (.slice none 0 0) 1 24 Try.infoSl rfl (by decide) (by decide) w1.heap.size q (.slice ag q cg) _ _ rfl HG2.out hs2 B2.out [.slice a6 n6 c6] HN2.out rfl (by simp [Value.oneCell']) rfl (by omega) ?_; intro v3 w3 hG3 hgr3 hlie; rw [← HSK2.out] at hG3; have HG3 := Lib.hid hG3; have HB4 := Lib.hid (HB3.out.grown hgr3 hs3 (fun g hg => HOWN.out g hg)); have HO4 := Lib.hid (HO3.out.grown hgr3 (fun x hx e => HNE2.out x e x hx rfl)); have HNE3 := Lib.hid (fun g (hg : v3.ownBlock = some g) b (hb : (Value.slice (some ⟨bA, oA, none⟩) (12 * k) co).ownBlock = some b) => show g ≠ b from (hlie g hg).elim (fun e => HNE2.out g e b hb) (fun e => by have e2 : bA = b := (by simpa [Value.ownBlock] using hb); omega)); clear hG3 hgr3 hlie))
              clear hT3
              go_roundw
              case rel => exact ⟨i + 1, q + 1, by go_num, by omega, by have := HQ2.out; omega, HQ2.out, HG3.out, ⟨HO4.out, HB4.out, HNE3.out⟩⟩
              case measure => simp only [intOf]; omega
            · have hT4 : ¬ (T : Int) ≤ 12 * (k : Int) := by omega
              have hT4b : decide ((T : Int) ≤ 12 * (k : Int)) = false := by simpa using hT4
              have HSK2 := Lib.hid (show rdTo fs (i + 1) = rdTo fs i by rw [HSK.out, if_neg (by rw [HN.out]; exact hTt), List.append_nil])
              go_wp2
              clear hT3
              go_roundw
              case rel => exact ⟨i + 1, q, by go_num, by omega, hq12, ⟨by rw [HSK2.out]; exact HQ.out.1, by have := HQ.out.2; omega⟩, by rw [HSK2.out]; exact HG2.out, ⟨HO2.out, HB2.out, HNE2.out⟩⟩
              case measure => simp only [intOf]; omega
          · have h3I : ¬ (i : Int) + 1 < (k : Int) := by omega
            have h3b : decide ((i : Int) + 1 < (k : Int)) = false := by simpa using h3I
            have HT3 := Lib.hid hT3
            clear hT3
            go_upto_region 16 with fail
            have hT3 := HT3.out
            rw [hT3]
            have hWB := (Below.refl wr.heap.size wr).alloc (Nat.le_refl _) (.cells #[.int .i64 (fs[i]?.getD nilF).c, .int .i64 (ptr fs i : Int), .slice a5 n5 c5] 50)
            have HG2 := Lib.hid (HG.out.below hWB)
            have HO2 := Lib.hid (HX.out.1.belowAll hWB)
            have HB2 := Lib.hid (HX.out.2.1.trans (hWB.mono HX.out.2.1.size))
            have HNE2 := Lib.hid HX.out.2.2
            clear hWB HG HX d1 d2 d3 hbw hbne hbne2 hFI
            generalize wr.alloc (.cells #[.int .i64 (fs[i]?.getD nilF).c, .int .i64 (ptr fs i : Int), .slice a5 n5 c5] 50) = wB at *
            have hs2 := HB2.out.size
            by_cases hTt : T ≤ 12 * k
            · have hT4 : (T : Int) ≤ 12 * (k : Int) := by omega
              have hT4b : decide ((T : Int) ≤ 12 * (k : Int)) = true := by simpa using hT4
              obtain ⟨bA, oA, cA, eA, hbA, hbA2, hcA, -⟩ := HO2.out.openN HALT.out (by omega)
              simp only [Value.slice.injEq, true_and] at eA
              obtain ⟨rfl, rfl⟩ := eA
              have hi1 : (F : Int) ≤ (T : Int) := by omega
              have hi2 : (T : Int) ≤ (co : Int) := by omega
              have hi3 : T ≤ co := by omega
              have hi4 : ¬ co = F := by omega
              have hi5 : F ≤ T := by omega
              have hsl : (sub (allR fs) F (T - F)).length = T - F := sub_len (by rw [HALT.out]; omega)
              have HCL := Lib.hid (clone_any _ _ wB (HO2.out.part F (T - F) (by omega)).rd (by rw [hsl]; omega) (by rw [hsl]; omega))
              have HSK2 := Lib.hid (show (rdTo fs (i + 1)).map inD = (rdTo fs i).map inD ++ [inD (sub (allR fs) F (T - F))] by rw [HSK.out, if_pos (by rw [HN.out]; exact hTt), List.map_append]; rfl)
              have HQ2 := Lib.hid (show q + 1 = (rdTo fs (i + 1)).length ∧ q + 1 ≤ i + 1 from ⟨by rw [HSK.out, if_pos (by rw [HN.out]; exact hTt), List.length_append, ← HQ.out.1]; rfl, by have := HQ.out.2; omega⟩)
              clear hsl
              go_wp2_with fail
              refine HCL.out.mono ?_
              rintro e w2 ⟨u, rfl, o2, b2⟩
              obtain ⟨a6, c6, n6, -, rfl, -⟩ := o2.rd.opn
              have HN2 := Lib.hid (Newd.one o2.ofr)
              have B2 := Lib.hid b2
              have HB3 := Lib.hid (HB2.out.trans (b2.mono hs2))
              have HO3 := Lib.hid (HO2.out.belowAll b2)
              have hs3 := HB3.out.size
              have hpb2 := Nat.lt_of_lt_of_le hbA2 b2.size
              have HOWN := Lib.hid (fun g hg => (HG2.out.own g hg).1)
              clear o2 b2
              go_wp2_with (at_builtin; go_loud (refine wpList_grow rfl (.tmp 63) (.tmp 69) 39 24 rfl Try.underlying39 (.slice none 0 0) 1 24 Try.infoSl rfl (by decide) (by decide) w1.heap.size q (.slice ag q cg) _ _ rfl HG2.out hs2 B2.out [.slice a6 n6 c6] HN2.out rfl (by simp [Value.oneCell']) rfl (by omega) ?_; intro v3 w3 hG3 hgr3 hlie; rw [← HSK2.out] at hG3; have HG3 := Lib.hid hG3; have HB4 := Lib.hid (HB3.out.grown hgr3 hs3 (fun g hg => HOWN.out g hg)); have HO4 := Lib.hid (HO3.out.grown hgr3 (fun x hx e => HNE2.out x e x hx rfl)); have HNE3 := Lib.hid (fun g (hg : v3.ownBlock = some g) b (hb : (Value.slice (some ⟨bA, oA, none⟩) (12 * k) co).ownBlock = some b) => show g ≠ b from (hlie g hg).elim (fun e => HNE2.out g e b hb) (fun e => by have e2 : bA = b := (by simpa [Value.ownBlock] using hb); omega)); clear hG3 hgr3 hlie))
              clear hT3
              go_roundw
              case rel => exact ⟨i + 1, q + 1, by go_num, by omega, by have := HQ2.out; omega, HQ2.out, HG3.out, ⟨HO4.out, HB4.out, HNE3.out⟩⟩
              case measure => simp only [intOf]; omega
            · have hT4 : ¬ (T : Int) ≤ 12 * (k : Int) := by omega
              have hT4b : decide ((T : Int) ≤ 12 * (k : Int)) = false := by simpa using hT4
              have HSK2 := Lib.hid (show rdTo fs (i + 1) = rdTo fs i by rw [HSK.out, if_neg (by rw [HN.out]; exact hTt), List.append_nil])
              go_wp2
              clear hT3
              go_roundw
              case rel => exact ⟨i + 1, q, by go_num, by omega, hq12, ⟨by rw [HSK2.out]; exact HQ.out.1, by have := HQ.out.2; omega⟩, by rw [HSK2.out]; exact HG2.out, ⟨HO2.out, HB2.out, HNE2.out⟩⟩
              case measure => simp only [intOf]; omega
        · have hnI : ¬ (i : Int) < (k : Int) := by omega
          obtain rfl : i = k := by omega
          have HOF := Lib.hid (HG.out.ofr.mono hs1)
          have HBF := Lib.hid (HB1.out.trans (HX.out.2.1.mono hs1))
          go_wp2
          exact bodyPost_ret (results_tmp2 (t := 2) (u := 3) rfl _ _ _) rfl (HY1.out _ _ _ HN.out HOF.out HBF.out)
end Go.Proofs.Ytlemielobmbadaa
