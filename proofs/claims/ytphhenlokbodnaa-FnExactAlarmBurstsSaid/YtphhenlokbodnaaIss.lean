/- Lists of lists of integers, and the laws' functions on them. (Taken together by geniss.py.) -/
import Derived.Test.YtphhenlokbodnaaExa
namespace Go.Proofs.Ytphhenlokbodnaa
open Go.RowKit Go.Sort
set_option maxRecDepth 100000

def ssD (xss : List (List Int)) : Dt := .rows 1 (xss.map inD)
theorem ssD_opn {w : World} {v : Value} {xss : List (List Int)} (h : Rdt w (ssD xss) v) : ∃ a n cap, v = .slice a n cap ∧ Hid (xss.length = n) ∧ n ≤ cap ∧ n ≤ 9223372036854775807 ∧
    (0 < n → ∃ b off, a = some ⟨b, off, none⟩ ∧ b < w.heap.size ∧ ∀ i, i < n → ∃ u, w.cell? ⟨b, off + i, none⟩ = some u ∧ Rd w u (xss[i]?.getD [])) := by
  obtain ⟨a, n, cap, hv, HN, h1, h2, h3⟩ := h.opn
  have hn : xss.length = n := by have := HN.out; simpa using this
  refine ⟨a, n, cap, hv, hn, h1, h2, fun h0 => ?_⟩
  obtain ⟨b, off, ea, hb, hc⟩ := h3 h0
  refine ⟨b, off, ea, hb, fun i hi => ?_⟩
  obtain ⟨u, k1, k2⟩ := hc i (inD (xss[i]?.getD [])) (by simp [List.getElem?_eq_getElem (show i < xss.length by omega)])
  exact ⟨u, k1, k2.toRd⟩
set_option maxHeartbeats 1600000 in
theorem eqIntSS_same (va vb : Value) (xss : List (List Int)) (w : World) (ha : Rdt w (ssD xss) va) (hb : Rdt w (ssD xss) vb) :
    Calls Try.prog 29 #[va, vb] w fun e w' => e = .returned (.bool true) ∧ Below w.heap.size w w' := by
  obtain ⟨a, n, ca, rfl, HN, _, hn, HA⟩ := ssD_opn ha
  obtain ⟨b, m, cb, rfl, HM, _, _, HBB⟩ := ssD_opn hb
  obtain rfl : n = m := HN.out.symm.trans HM.out
  have HA := Lib.hid HA
  have HBB := Lib.hid HBB
  clear HM ha hb
  have hne : ((n : Int) != (n : Int)) = false := by simp
  go_enter Try.func29, Try.ntmps29
  go_wp2
  go_loopw [5] (fun i wr => ∃ k : Nat, k ≤ n ∧ i = .int .i64 k ∧ Hid (Below w.heap.size w wr)) (fun i _ => n - (intOf i).toNat)
  case atStart => exact ⟨0, by omega, rfl, Below.refl _ _⟩
  case round =>
    obtain ⟨k, hk, rfl, HB⟩ := hrel
    by_cases hlt : k < n
    · obtain ⟨g1, o1, rfl, hg1, hc1⟩ := HA.out (by omega)
      obtain ⟨g2, o2, rfl, hg2, hc2⟩ := HBB.out (by omega)
      have hltI : (k : Int) < (n : Int) := by omega
      obtain ⟨u1, p1, q1⟩ := hc1 k hlt
      obtain ⟨u2, p2, q2⟩ := hc2 k hlt
      have d1 := (HB.out.cell (p := ⟨g1, o1 + k, none⟩) hg1).trans p1
      have d2 := (HB.out.cell (p := ⟨g2, o2 + k, none⟩) hg2).trans p2
      have hB1 := HB.out.drew
      have HQ := Lib.hid (eqIntS_same u1 u2 _ wr.drew (q1.belowAll hB1) (q2.belowAll hB1))
      have hz := hB1.size
      clear hc1 hc2 p1 p2 q1 q2
      go_wp2
      go_still_tail 8, (by kernel_rfl)
      go_wp2_with fail
      refine HQ.out.mono ?_
      rintro e w2 ⟨rfl, b2⟩
      have hB2 := Lib.hid (hB1.trans (b2.mono hz))
      go_wp2
      go_roundw
      case rel => exact ⟨k + 1, by omega, by go_num, hB2⟩
      case measure => simp [intOf]; omega
    · obtain rfl : k = n := by omega
      go_wp2
      go_ret
      exact ⟨rfl, HB.out⟩
def tot (xss : List (List Int)) : Nat := (xss.map List.length).sum
theorem tot_step {xss : List (List Int)} {k : Nat} (h : k < xss.length) : tot (xss.take (k + 1)) = tot (xss.take k) + (xss[k]?.getD []).length := by
  rw [tot, tot, List.take_add_one, List.map_append, List.sum_append, List.getElem?_eq_getElem h]; simp
theorem tot_all (xss : List (List Int)) : tot (xss.take xss.length) = tot xss := by rw [List.take_length]
theorem tot_le (xss : List (List Int)) (k : Nat) : tot (xss.take k) ≤ tot xss := by
  rw [tot, tot]
  conv => rhs; rw [← List.take_append_drop k xss, List.map_append, List.sum_append]
  omega
theorem tot_mem {xss : List (List Int)} {k : Nat} (h : k < xss.length) : (xss[k]?.getD []).length ≤ tot xss := by
  have h1 := tot_step h
  have h2 := tot_le xss (k + 1)
  omega
/-- Marking a list of integers in its own blocks. -/
theorem markIntS_odt (v : Value) (xs : List Int) (f : List Nat) (q : Int) (w : World) (h : Odt w (inD xs) v f) (hq : 0 ≤ q) (hq2 : q + xs.length ≤ 4611686018427387904) :
    Calls Try.prog 20 #[v, .int .i64 q] w fun e w' => e = .returned (.int .i64 (q + xs.length)) ∧ Odt w' (inD (cnt q xs.length)) v f ∧ Wr w w' f := by
  have ho := (h.toOwn (base := 0) (fun _ _ => Nat.zero_le _)).1
  have hf := inD_fp h
  refine (markIntS_any v xs q 0 w ho hq hq2).mono ?_
  rintro e w' ⟨rfl, o, g⟩
  have hd := o.odt
  rw [← hf] at hd
  exact ⟨rfl, hd, Wr.of_grown g (fun k hk => by rw [hf, hk]; simp)⟩
theorem map_set' (yss : List (List Int)) (k : Nat) (y : List Int) : (yss.map inD).set k (inD y) = (yss.set k y).map inD := by rw [List.map_set]
def mkS : List (List Int) → Int → List (List Int)
  | [], _ => []
  | x :: xs, q => cnt q x.length :: mkS xs (q + x.length)
theorem mkS_len : ∀ (xs : List (List Int)) (q : Int), (mkS xs q).length = xs.length
  | [], _ => rfl
  | x :: xs, q => by simp [mkS, mkS_len xs]
theorem mkS_get : ∀ (xs : List (List Int)) (q : Int) (k : Nat), k < xs.length → (mkS xs q)[k]?.getD [] = cnt (q + tot (xs.take k)) (xs[k]?.getD []).length
  | x :: xs, q, 0, _ => by simp [mkS, tot]
  | x :: xs, q, k + 1, h => by
    have := mkS_get xs (q + x.length) k (by simpa using h)
    simp only [mkS, List.getElem?_cons_succ]
    rw [this]
    congr 1
    simp [tot]; omega
def mkSTo (xs : List (List Int)) (q : Int) (k : Nat) : List (List Int) := (mkS xs q).take k ++ xs.drop k
theorem mkSTo_zero (xs : List (List Int)) (q : Int) : mkSTo xs q 0 = xs := by simp [mkSTo]
theorem mkSTo_all (xs : List (List Int)) (q : Int) : mkSTo xs q xs.length = mkS xs q := by
  rw [mkSTo, List.drop_length, List.append_nil, ← mkS_len xs q, List.take_length]
theorem mkSTo_len (xs : List (List Int)) (q : Int) (k : Nat) (h : k ≤ xs.length) : (mkSTo xs q k).length = xs.length := by simp [mkSTo, mkS_len]; omega
theorem mkSTo_at (xs : List (List Int)) (q : Int) (k : Nat) (h : k < xs.length) : (mkSTo xs q k)[k]? = xs[k]? := by
  rw [mkSTo, List.getElem?_append_right (by simp [mkS_len]; omega)]
  simp [mkS_len, Nat.min_eq_left (Nat.le_of_lt h)]
theorem mkSTo_step (xs : List (List Int)) (q : Int) (k : Nat) (h : k < xs.length) : (mkSTo xs q k).set k (cnt (q + tot (xs.take k)) (xs[k]?.getD []).length) = mkSTo xs q (k + 1) := by
  have hk : k < (mkS xs q).length := by rw [mkS_len]; exact h
  have hl : ((mkS xs q).take k).length = k := by simp [mkS_len]; omega
  rw [mkSTo, mkSTo, List.set_append_right _ _ (by omega), hl, Nat.sub_self, List.drop_eq_getElem_cons h, List.set_cons_zero, List.take_add_one, List.getElem?_eq_getElem hk]
  have := mkS_get xs q k h
  rw [List.getElem?_eq_getElem hk] at this
  simp only [Option.getD_some] at this
  simp [this]
set_option maxHeartbeats 1600000 in
theorem markIntSS_full (v : Value) (xss : List (List Int)) (fp : List Nat) (w : World) (h : Odt w (ssD xss) v fp) (hn : fp.Nodup) (hb : tot xss ≤ 1048576) :
    Calls Try.prog 32 #[v, .int .i64 1] w fun e w' => e = .returned (.int .i64 (1 + (tot xss : Int))) ∧ Odt w' (ssD (mkS xss 1)) v fp ∧ Wr w w' fp := by
  obtain ⟨a, n, cap, rfl, HN, _, hnl, ha⟩ := ssD_opn h.rd
  have HT := Lib.hid (fun k (h : k < xss.length) => @tot_step xss k h)
  have HTL := Lib.hid (fun k => Nat.le_trans (tot_le xss k) hb)
  have HST := Lib.hid (fun k (h : k < xss.length) => mkSTo_step xss 1 k h)
  have HAT := Lib.hid (fun k (h : k < xss.length) => mkSTo_at xss 1 k h)
  have HLN := Lib.hid (fun k (h : k ≤ xss.length) => mkSTo_len xss 1 k h)
  have hall := mkSTo_all xss 1
  have htall := tot_all xss
  rw [HN.out] at hall htall
  have HALL := Lib.hid hall
  have HTA := Lib.hid htall
  have HH := Lib.hid h
  clear hb h ha hall htall
  go_enter Try.func32, Try.ntmps32
  go_wp2
  go_loopw [1, 5] (fun x i wr => ∃ k : Nat, k ≤ n ∧ i = .int .i64 k ∧ x = .int .i64 (1 + (tot (xss.take k) : Int)) ∧ Hid (Odt wr (ssD (mkSTo xss 1 k)) (.slice a n cap) fp) ∧ Hid (Wr w wr fp)) (fun _ i _ => n - (intOf i).toNat)
  case atStart => exact ⟨0, by omega, rfl, by simp [tot], by rw [mkSTo_zero]; exact HH.out, Wr.refl _ _⟩
  case round =>
    obtain ⟨k, hk, rfl, rfl, HO, HW⟩ := hrel
    have hT0 := HTL.out k
    by_cases hlt : k < n
    · have hltI : (k : Int) < (n : Int) := by omega
      have hkx : k < xss.length := by rw [HN.out]; exact hlt
      have hky : k < (mkSTo xss 1 k).length := by rw [HLN.out k (by omega)]; exact hkx
      have hyk : (mkSTo xss 1 k)[k] = xss[k]?.getD [] := by
        have := HAT.out k hkx
        rw [List.getElem?_eq_getElem hky] at this
        rw [← this]; rfl
      obtain ⟨g, off, n', cp, u, f, ev, hcell, hod, hsub, hfn, hgf, hclose⟩ := Odt.deep (w' := wr) (show Odt wr (.rows 1 ((mkSTo xss 1 k).map inD)) _ fp from HO.out) hn (j := k) (d := inD (mkSTo xss 1 k)[k]) (by simp [hky])
      simp only [Value.slice.injEq] at ev
      obtain ⟨rfl, rfl, rfl⟩ := ev
      have hst := HT.out k hkx
      have hT1 := HTL.out (k + 1)
      have hmk := HST.out k hkx
      rw [hyk] at hod
      have HMK := Lib.hid (markIntS_odt u _ f (1 + (tot (xss.take k) : Int)) wr hod (by omega) (by omega))
      have HCL := Lib.hid (fun w' (y : List Int) (h1 : Odt w' (inD y) u f) (h2 : Wr wr w' f) => show Odt w' (ssD ((mkSTo xss 1 k).set k y)) (.slice (some ⟨g, off, none⟩) n cap) fp from by
        have := hclose w' (inD y) h1 h2
        rw [map_set'] at this; exact this)
      have HST2 := Lib.hid hst
      have HMK2 := Lib.hid hmk
      have HSUB := Lib.hid hsub
      clear hod hsub hfn hgf hclose hyk hky hst HH hmk
      generalize xss[k]?.getD [] = x at *
      go_wp2_with fail
      refine HMK.out.mono ?_
      rintro e w2 ⟨rfl, o2, w2r⟩
      have HO2 := Lib.hid (HCL.out w2 _ o2 w2r)
      have HW2 := Lib.hid (HW.out.trans (w2r.mono HSUB.out))
      clear o2 w2r
      go_wp2
      go_roundw
      case rel => exact ⟨k + 1, by omega, by go_num, int_eq (by rw [HST2.out]; omega), by have := HO2.out; rw [HMK2.out] at this; exact this, HW2.out⟩
      case measure => simp [intOf]; omega
    · obtain rfl : k = n := by omega
      have ho := HO.out
      rw [HALL.out] at ho
      have HOF := Lib.hid ho
      clear HO ho
      go_wp2
      go_ret
      exact ⟨by rw [HTA.out]; rfl, HOF.out, HW.out⟩
set_option maxHeartbeats 1600000 in
theorem heldIntSS_yes (v : Value) (xss : List (List Int)) (w : World) (h : Rdt w (ssD (mkS xss 1)) v) (hb : tot xss ≤ 1048576) :
    Calls Try.prog 33 #[v, .int .i64 1] w fun e w' => e = .returned (.int .i64 (1 + (tot xss : Int))) ∧ Below w.heap.size w w' := by
  obtain ⟨a, n, cap, rfl, HN, _, hnl, ha⟩ := ssD_opn h
  have hnf : xss.length = n := by have := HN.out; rw [mkS_len] at this; exact this
  have HT := Lib.hid (fun k (h : k < xss.length) => @tot_step xss k h)
  have HTL := Lib.hid (fun k => Nat.le_trans (tot_le xss k) hb)
  have HG := Lib.hid (fun k (h : k < xss.length) => mkS_get xss 1 k h)
  have htall := tot_all xss
  rw [hnf] at htall
  have HTA := Lib.hid htall
  have HNF := Lib.hid hnf
  have HA := Lib.hid ha
  clear hb h ha hnf HN htall
  go_enter Try.func33, Try.ntmps33
  go_wp2
  go_loopw [1, 5] (fun x i wr => ∃ k : Nat, k ≤ n ∧ i = .int .i64 k ∧ x = .int .i64 (1 + (tot (xss.take k) : Int)) ∧ Hid (Below w.heap.size w wr)) (fun _ i _ => n - (intOf i).toNat)
  case atStart => exact ⟨0, by omega, rfl, by simp [tot], Below.refl _ _⟩
  case round =>
    obtain ⟨k, hk, rfl, rfl, HB⟩ := hrel
    have hT0 := HTL.out k
    by_cases hlt : k < n
    · have hltI : (k : Int) < (n : Int) := by omega
      have hkx : k < xss.length := by rw [HNF.out]; exact hlt
      obtain ⟨g, off, rfl, hg, hc⟩ := HA.out (by omega)
      obtain ⟨u, p1, hru⟩ := hc k hlt
      have hm := HG.out k hkx
      have hqs := HT.out k hkx
      have hT1 := HTL.out (k + 1)
      rw [hm] at hru
      have d1 := (HB.out.cell (p := ⟨g, off + k, none⟩) hg).trans p1
      clear hm p1 hc
      generalize (xss[k]?.getD []).length = m at *
      have HHD := Lib.hid (heldIntS_yes u (1 + (tot (xss.take k) : Int)) m wr (hru.belowAll HB.out) (by omega) (by omega))
      have HQS := Lib.hid hqs
      have hnn : ¬ (1 + (tot (xss.take k) : Int) + (m : Int)) < 0 := by omega
      have hnb : decide (1 + (tot (xss.take k) : Int) + (m : Int) < 0) = false := by simpa using hnn
      clear hru hqs
      go_wp2_with fail
      refine HHD.out.mono ?_
      rintro e w2 ⟨rfl, n2, rfl⟩
      have HB2 := Lib.hid (show Below w.heap.size w (wr.drewN n2) from HB.out.trans ⟨rfl, rfl, rfl, Nat.le_refl _, fun _ _ => rfl⟩)
      go_wp2
      go_roundw
      case rel => exact ⟨k + 1, by omega, by go_num, int_eq (by rw [HQS.out]; omega), HB2.out⟩
      case measure => simp [intOf]; omega
    · obtain rfl : k = n := by omega
      go_wp2
      go_ret
      exact ⟨by rw [HTA.out]; rfl, HB.out⟩
theorem markIntSS_N1 (v : Value) (xss : List (List Int)) (fp : List Nat) (w : World) (h : Odt w (ssD xss) v fp) (hn : fp.Nodup) (hb : tot xss ≤ 1048576) :
    Calls Try.prog 32 #[v, .int .i64 ((1 : Nat) : Int)] w fun e w' => e = .returned (.int .i64 ((1 + tot xss : Nat) : Int)) ∧ Odt w' (ssD (mkS xss 1)) v fp ∧ Wr w w' fp := by
  refine (markIntSS_full v xss fp w h hn hb).mono ?_
  rintro e w' ⟨rfl, h1, h2⟩
  exact ⟨ret_int (by omega), h1, h2⟩
theorem heldIntSS_N1 (v : Value) (xss : List (List Int)) (w : World) (h : Rdt w (ssD (mkS xss 1)) v) (hb : tot xss ≤ 1048576) :
    Calls Try.prog 33 #[v, .int .i64 ((1 : Nat) : Int)] w fun e w' => e = .returned (.int .i64 ((1 + tot xss : Nat) : Int)) ∧ Below w.heap.size w w' := by
  refine (heldIntSS_yes v xss w h hb).mono ?_
  rintro e w' ⟨rfl, h1⟩
  exact ⟨ret_int (by omega), h1⟩
end Go.Proofs.Ytphhenlokbodnaa
