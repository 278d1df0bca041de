/- Walks: marks on lists of lists and on lists of frames. -/
import Derived.Test.YtlemielobmbadaaCtnX
namespace Go.Proofs.Ytlemielobmbadaa
open Go.RowKit
set_option maxRecDepth 100000

/-- Marking a list of integers in its own blocks. -/
theorem markIntS_odt (v : Value) (xs : List Int) (f : List Nat) (q : Int) (w : World) (h : Odt w (inD xs) v f) (hq : 0 ≤ q) (hq2 : q + xs.length ≤ 4611686018427387904) :
    Calls Try.prog 91 #[v, .int .i64 q] w fun e w' => e = .returned (.int .i64 (q + xs.length)) ∧ Odt w' (inD (cnt q xs.length)) v f ∧ Wr w w' f := by
  have ho := (h.toOwn (base := 0) (fun _ _ => Nat.zero_le _)).1
  have hf := inD_fp h
  refine (markIntS_any v xs q 0 w ho hq hq2).mono ?_
  rintro e w' ⟨rfl, o, g⟩
  have hd := o.odt
  rw [← hf] at hd
  exact ⟨rfl, hd, Wr.of_grown g (fun k hk => by rw [hf, hk]; simp)⟩
theorem map_set' (yss : List (List Int)) (k : Nat) (y : List Int) : (yss.map inD).set k (inD y) = (yss.set k y).map inD := by rw [List.map_set]
set_option maxHeartbeats 1600000 in
theorem markIntSS_any (v : Value) (xss : List (List Int)) (fp : List Nat) (w : World) (h : Odt w (ssD xss) v fp) (hn : fp.Nodup) (hb : tot xss ≤ 1048576) :
    Calls Try.prog 34 #[v, .int .i64 1] w fun e w' => (∃ r : Int, e = .returned (.int .i64 r) ∧ 0 ≤ r) ∧ Wr w w' fp := by
  obtain ⟨a, n, cap, rfl, HN, _, hnl, ha⟩ := ssD_opn h.rd
  have HT := Lib.hid (fun k (h : k < xss.length) => @tot_step xss k h)
  have HTL := Lib.hid (fun k => Nat.le_trans (tot_le xss k) hb)
  have HH := Lib.hid h
  clear hb h ha
  go_enter Try.func34, Try.ntmps34
  go_wp2
  go_loopw [1, 5] (fun x i wr => ∃ k : Nat, k ≤ n ∧ i = .int .i64 k ∧ x = .int .i64 (1 + (tot (xss.take k) : Int)) ∧ Hid (∃ yss : List (List Int), Odt wr (ssD yss) (.slice a n cap) fp ∧ yss.length = n ∧ (∀ i : Nat, k ≤ i → yss[i]? = xss[i]?) ∧ Wr w wr fp)) (fun _ i _ => n - (intOf i).toNat)
  case atStart => exact ⟨0, by omega, rfl, by simp [tot], ⟨xss, HH.out, HN.out, fun _ _ => rfl, Wr.refl _ _⟩⟩
  case round =>
    obtain ⟨k, hk, rfl, rfl, HS⟩ := hrel
    obtain ⟨yss, ho, hyl, hys, hw⟩ := HS.out
    have hT0 := HTL.out k
    by_cases hlt : k < n
    · have hltI : (k : Int) < (n : Int) := by omega
      have hky : k < yss.length := by omega
      have hkx : k < xss.length := by rw [HN.out]; exact hlt
      have hyk : yss[k] = xss[k]?.getD [] := by
        have := hys k (Nat.le_refl _)
        rw [List.getElem?_eq_getElem hky] at this
        rw [← this]; rfl
      obtain ⟨g, off, n', cp, u, f, ev, hcell, hod, hsub, hfn, hgf, hclose⟩ := Odt.deep (w' := wr) (show Odt wr (.rows 1 (yss.map inD)) _ fp from ho) hn (j := k) (d := inD yss[k]) (by simp [hky])
      simp only [Value.slice.injEq] at ev
      obtain ⟨rfl, rfl, rfl⟩ := ev
      have hst := HT.out k hkx
      have hT1 := HTL.out (k + 1)
      rw [hyk] at hod
      have HMK := Lib.hid (markIntS_odt u _ f (1 + (tot (xss.take k) : Int)) wr hod (by omega) (by omega))
      have HCL := Lib.hid (fun w' (y : List Int) (h1 : Odt w' (inD y) u f) (h2 : Wr wr w' f) => show Odt w' (ssD (yss.set k y)) (.slice (some ⟨g, off, none⟩) n cap) fp from by
        have := hclose w' (inD y) h1 h2
        rw [map_set'] at this; exact this)
      have HW := Lib.hid hw
      have HST := Lib.hid hst
      have HYS := Lib.hid hys
      have HYL := Lib.hid hyl
      have HSUB := Lib.hid hsub
      clear ho hod hsub hfn hgf hclose hw hys hyl hyk hky HS hst HH
      generalize xss[k]?.getD [] = x at *
      go_wp2_with fail
      refine HMK.out.mono ?_
      rintro e w2 ⟨rfl, o2, w2r⟩
      have HO2 := Lib.hid (HCL.out w2 _ o2 w2r)
      have HW2 := Lib.hid (HW.out.trans (w2r.mono HSUB.out))
      clear o2 w2r
      go_wp2
      go_roundw
      case rel => exact ⟨k + 1, by omega, by go_num, int_eq (by rw [HST.out]; omega), ⟨_, HO2.out, by rw [List.length_set]; exact HYL.out, fun i hi => by rw [List.getElem?_set_ne (by omega)]; exact HYS.out i (by omega), HW2.out⟩⟩
      case measure => simp [intOf]; omega
    · obtain rfl : k = n := by omega
      go_wp2
      go_ret
      exact ⟨⟨_, rfl, by omega⟩, hw⟩
theorem mark_frame {wr : World} {D : List Frm} {k n cap : Nat} {f : Frm} {fp : List Nat} {a : Option Addr} (ho : Odt wr (frD D) (.slice a n cap) fp) (hn : fp.Nodup) (hd : D[k]? = some f) (c' p' : Int) :
    ∃ g off u fu, a = some ⟨g, off, none⟩ ∧ wr.cell? ⟨g, off + k * 3, none⟩ = some (.int .i64 f.c) ∧ wr.frozen? ⟨g, off + k * 3, none⟩ = false ∧
      (wr.setCell ⟨g, off + k * 3, none⟩ (.int .i64 c')).cell? ⟨g, off + k * 3 + 1, none⟩ = some (.int .i64 f.p) ∧ (wr.setCell ⟨g, off + k * 3, none⟩ (.int .i64 c')).frozen? ⟨g, off + k * 3 + 1, none⟩ = false ∧
      ((wr.setCell ⟨g, off + k * 3, none⟩ (.int .i64 c')).setCell ⟨g, off + k * 3 + 1, none⟩ (.int .i64 p')).cell? ⟨g, off + k * 3 + 2, none⟩ = some u ∧
      Odt ((wr.setCell ⟨g, off + k * 3, none⟩ (.int .i64 c')).setCell ⟨g, off + k * 3 + 1, none⟩ (.int .i64 p')) (inD f.l) u fu ∧ (∀ x ∈ fu, x ∈ fp) ∧
      Wr wr ((wr.setCell ⟨g, off + k * 3, none⟩ (.int .i64 c')).setCell ⟨g, off + k * 3 + 1, none⟩ (.int .i64 p')) fp ∧
      ∀ (w' : World) (l' : List Int), Odt w' (inD l') u fu → Wr ((wr.setCell ⟨g, off + k * 3, none⟩ (.int .i64 c')).setCell ⟨g, off + k * 3 + 1, none⟩ (.int .i64 p')) w' fu → Odt w' (frD (D.set k ⟨c', p', l'⟩)) (.slice a n cap) fp := by
  have hk : k < D.length := (List.getElem?_eq_some_iff.1 hd).1
  have h0 := frC_flat D k 0 (by omega)
  have h1 := frC_flat D k 1 (by omega)
  have h2 := frC_flat D k 2 (by omega)
  rw [hd] at h0 h1 h2
  have hset := fun l' => frC_set D k ⟨c', p', l'⟩ hk
  have hlen := frC_len D
  have h0' : (D.flatMap frC)[k * 3]? = some (.leaf (.int .i64 f.c)) := by rw [Nat.mul_comm]; exact h0
  have h1' : (D.flatMap frC)[k * 3 + 1]? = some (.leaf (.int .i64 f.p)) := by rw [Nat.mul_comm]; exact h1
  have h2' : (D.flatMap frC)[k * 3 + 2]? = some (inD f.l) := by rw [Nat.mul_comm]; exact h2
  unfold frD at ho
  generalize D.flatMap frC = ds at *
  obtain ⟨g, off, n1, cp, ev, c1, f1, hgf, o1, w1⟩ := ho.store hn h0' (.int .i64 c')
  simp only [Value.slice.injEq] at ev
  obtain ⟨rfl, rfl, rfl⟩ := ev
  obtain ⟨g2, off2, n2, cp2, ev, c2, f2, -, o2, w2⟩ := o1.store hn (j := k * 3 + 1) (u := .int .i64 f.p) (by rw [List.getElem?_set_ne (by omega)]; exact h1') (.int .i64 p')
  simp only [Value.slice.injEq, Option.some.injEq, Addr.mk.injEq, and_true] at ev
  obtain ⟨⟨rfl, rfl⟩, rfl, rfl⟩ := ev
  obtain ⟨g3, off3, n3, cp3, u, fu, ev, c3, o3, hsub, hfn, hgn, hcl⟩ := Odt.deep (w' := wr) o2 hn (j := k * 3 + 2) (d := inD f.l) (by rw [List.getElem?_set_ne (by omega), List.getElem?_set_ne (by omega)]; exact h2')
  simp only [Value.slice.injEq, Option.some.injEq, Addr.mk.injEq, and_true] at ev
  obtain ⟨⟨rfl, rfl⟩, rfl, rfl⟩ := ev
  refine ⟨g, off, u, fu, rfl, c1, f1, c2, f2, c3, o3, hsub, w1.trans w2, fun w' l' q1 q2 => ?_⟩
  have := hcl w' (inD l') q1 q2
  have e := hset l'
  rw [Nat.mul_comm 3 k] at e
  rw [e] at this
  exact this
set_option maxHeartbeats 3200000 in
theorem markFrameS_any (v : Value) (fs : List Frm) (fp : List Nat) (w : World) (h : Odt w (frD fs) v fp) (hn : fp.Nodup) (hb : qAt fs fs.length ≤ 1073741824) :
    Calls Try.prog 35 #[v, .int .i64 1] w fun e w' => e = .returned (.int .i64 (1 + (qAt fs fs.length : Int))) ∧ Odt w' (frD (mkFs fs 1)) v fp ∧ Wr w w' fp := by
  obtain ⟨a, n, cap, rfl, HN, _, hnl, ha⟩ := frD_opn h.rd
  have HT := Lib.hid (fun k (h : k < fs.length) => @qAt_step fs k h)
  have HTL := Lib.hid (fun k => Nat.le_trans (@qAt_le fs k) hb)
  have HST := Lib.hid (fun k (h : k < fs.length) => mkTo_step fs 1 k h)
  have HAT := Lib.hid (fun k (h : k < fs.length) => mkTo_at fs 1 k h)
  have HLN := Lib.hid (fun k (h : k ≤ fs.length) => mkTo_len fs 1 k h)
  have hall := mkTo_all fs 1
  have hq := (rfl : qAt fs fs.length = qAt fs fs.length)
  conv at hq => lhs; rw [HN.out]
  rw [HN.out] at hall
  have HALL := Lib.hid hall
  have HQ := Lib.hid hq
  have HH := Lib.hid h
  clear hb h ha hall hq
  go_enter Try.func35, Try.ntmps35
  go_wp2
  go_loopw [1, 5] (fun x i wr => ∃ k : Nat, k ≤ n ∧ i = .int .i64 k ∧ x = .int .i64 (1 + (qAt fs k : Int)) ∧ Hid (Odt wr (frD (mkTo fs 1 k)) (.slice a n cap) fp) ∧ Hid (Wr w wr fp)) (fun _ i _ => n - (intOf i).toNat)
  case atStart => exact ⟨0, by omega, rfl, by simp [qAt], by rw [mkTo_zero]; exact HH.out, Wr.refl _ _⟩
  case round =>
    obtain ⟨k, hk, rfl, rfl, HO, HW⟩ := hrel
    have hT0 := HTL.out k
    by_cases hlt : k < n
    · have hltI : (k : Int) < (n : Int) := by omega
      have hkx : k < fs.length := by rw [HN.out]; exact hlt
      have hqs := HT.out k hkx
      have hT1 := HTL.out (k + 1)
      have hdk : (mkTo fs 1 k)[k]? = some (fs[k]?.getD nilF) := by rw [HAT.out k hkx, List.getElem?_eq_getElem hkx]; rfl
      have hmk := HST.out k hkx
      have hszf : szF (fs[k]?.getD nilF) = 2 + (fs[k]?.getD nilF).l.length := rfl
      rw [hszf] at hqs
      generalize fs[k]?.getD nilF = f at *
      obtain ⟨g, off, u, fu, rfl, c1, f1, c2, f2, c3, o3, hsub, hw, hcl⟩ := mark_frame HO.out hn hdk (1 + (qAt fs k : Int)) (1 + (qAt fs k : Int) + 1)
      have HMK := Lib.hid (markIntS_odt u f.l fu (1 + (qAt fs k : Int) + 1 + 1) _ o3 (by omega) (by omega))
      have HCL := Lib.hid hcl
      have HMKT := Lib.hid hmk
      have HSUB := Lib.hid hsub
      have HW2 := Lib.hid (HW.out.trans hw)
      have HQS := Lib.hid hqs
      clear o3 hcl hmk hsub hw hdk HO HW hszf
      go_wp2_with fail
      refine HMK.out.mono ?_
      rintro e w3 ⟨rfl, o4, w4⟩
      have HO4 := Lib.hid (HCL.out w3 _ o4 w4)
      have HW4 := Lib.hid (HW2.out.trans (w4.mono HSUB.out))
      have HE := Lib.hid (show (⟨1 + (qAt fs k : Int), 1 + (qAt fs k : Int) + 1, cnt (1 + (qAt fs k : Int) + 1 + 1) f.l.length⟩ : Frm) = mkF f (1 + (qAt fs k : Int)) from by unfold mkF; rw [show 1 + (qAt fs k : Int) + 1 + 1 = 1 + (qAt fs k : Int) + 2 by omega])
      clear o4 w4 c1 f1 c2 f2 c3 hqs
      go_wp2
      go_roundw
      case rel => exact ⟨k + 1, by omega, by go_num, int_eq (by rw [HQS.out]; omega), by have := HO4.out; rw [HE.out, HMKT.out] at this; exact this, HW4.out⟩
      case measure => simp [intOf]; omega
    · obtain rfl : k = n := by omega
      have ho := HO.out
      rw [HALL.out] at ho
      have HOF := Lib.hid ho
      clear HO ho
      go_wp2
      go_ret
      exact ⟨by rw [HQ.out]; rfl, HOF.out, HW.out⟩
set_option maxHeartbeats 3200000 in
theorem heldFrameS_yes (v : Value) (fs : List Frm) (w : World) (h : Rdt w (frD (mkFs fs 1)) v) (hb : qAt fs fs.length ≤ 1073741824) :
    Calls Try.prog 36 #[v, .int .i64 1] w fun e w' => e = .returned (.int .i64 (1 + (qAt fs fs.length : Int))) ∧ Below w.heap.size w w' := by
  obtain ⟨a, n, cap, rfl, HN, _, hnl, ha⟩ := frD_opn h
  have hnf : fs.length = n := by have := HN.out; rw [mkFs_len] at this; exact this
  have HT := Lib.hid (fun k (h : k < fs.length) => @qAt_step fs k h)
  have HTL := Lib.hid (fun k => Nat.le_trans (@qAt_le fs k) hb)
  have HG := Lib.hid (fun k (h : k < fs.length) => mkFs_get fs 1 k h)
  have HNF := Lib.hid hnf
  rw [hnf]
  have HA := Lib.hid ha
  clear hb h ha hnf HN
  go_enter Try.func36, Try.ntmps36
  go_wp2
  go_loopw [1, 5] (fun x i wr => ∃ k : Nat, k ≤ n ∧ i = .int .i64 k ∧ x = .int .i64 (1 + (qAt fs k : Int)) ∧ Hid (Below w.heap.size w wr)) (fun _ i _ => n - (intOf i).toNat)
  case atStart => exact ⟨0, by omega, rfl, by simp [qAt], Below.refl _ _⟩
  case round =>
    obtain ⟨k, hk, rfl, rfl, HB⟩ := hrel
    have hT0 := HTL.out k
    by_cases hlt : k < n
    · have hltI : (k : Int) < (n : Int) := by omega
      have hkx : k < fs.length := by rw [HNF.out]; exact hlt
      obtain ⟨g, off, rfl, hg, hc⟩ := HA.out (by omega)
      obtain ⟨u, p1, p2, p3, hru⟩ := hc k hlt
      have hm := HG.out k hkx
      have hqs := HT.out k hkx
      have hT1 := HTL.out (k + 1)
      rw [hm] at p1 p2 hru
      have hszf : szF (fs[k]?.getD nilF) = 2 + (fs[k]?.getD nilF).l.length := rfl
      rw [hszf] at hqs
      have e1 : (mkF (fs[k]?.getD nilF) (1 + (qAt fs k : Int))).c = 1 + (qAt fs k : Int) := rfl
      have e2 : (mkF (fs[k]?.getD nilF) (1 + (qAt fs k : Int))).p = 1 + (qAt fs k : Int) + 1 := rfl
      have e3 : (mkF (fs[k]?.getD nilF) (1 + (qAt fs k : Int))).l = cnt (1 + (qAt fs k : Int) + 1 + 1) (fs[k]?.getD nilF).l.length := by show cnt (1 + (qAt fs k : Int) + 2) _ = _; rw [show 1 + (qAt fs k : Int) + 1 + 1 = 1 + (qAt fs k : Int) + 2 by omega]
      rw [e1] at p1
      rw [e2] at p2
      rw [e3] at hru
      have d1 := (HB.out.cell (p := ⟨g, off + k * 3, none⟩) hg).trans p1
      have d2 := (HB.out.cell (p := ⟨g, off + k * 3 + 1, none⟩) hg).trans p2
      have d3 := (HB.out.cell (p := ⟨g, off + k * 3 + 2, none⟩) hg).trans p3
      clear e1 e2 e3 hm hszf p1 p2 p3 hc
      generalize (fs[k]?.getD nilF).l.length = m at *
      have HHD := Lib.hid (heldIntS_yes u (1 + (qAt fs k : Int) + 1 + 1) m wr (hru.belowAll HB.out) (by omega) (by omega))
      have HQS := Lib.hid hqs
      have hnn : ¬ (1 + (qAt fs k : Int) + 1 + 1 + (m : Int)) < 0 := by omega
      have hnb : decide (1 + (qAt fs k : Int) + 1 + 1 + (m : Int) < 0) = false := by simpa using hnn
      have hq1 : ((1 + (qAt fs k : Int)) != (1 + (qAt fs k : Int))) = false := by simp
      have hq2 : ((1 + (qAt fs k : Int) + 1) != (1 + (qAt fs k : Int) + 1)) = false := by simp
      clear hru hqs
      go_wp2_with fail
      refine HHD.out.mono ?_
      rintro e w2 ⟨rfl, n2, rfl⟩
      have HB2 := Lib.hid (show Below w.heap.size w (wr.drewN n2) from HB.out.trans ⟨rfl, rfl, rfl, Nat.le_refl _, fun _ _ => rfl⟩)
      go_wp2
      go_roundw
      case rel => exact ⟨k + 1, by omega, by go_num, int_eq (by rw [HQS.out]; omega), HB2.out⟩
      case measure => simp [intOf]; omega
    · obtain rfl : k = n := by omega
      go_wp2
      go_ret
      exact ⟨rfl, HB.out⟩
end Go.Proofs.Ytlemielobmbadaa
