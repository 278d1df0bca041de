/- The law FnExactReadContainers. -/
import Derived.Test.YtlemielobmbadaaRdcS
namespace Go.Proofs.Ytlemielobmbadaa
open Go.RowKit
set_option maxRecDepth 100000

instance : Inhabited Frm := ⟨nilF⟩
section
variable {H : Type} {enc : TypeId × Value → H} {P : Program} {w : World}
theorem opens_map {t : TypeId} {α β : Type} {F : α → List Dt} {G : β → List Dt} (h : Opens enc P w t F) (g : α → β) (e : ∀ a, G (g a) = F a) : Opens enc P w t G := fun fuel cs x hx => by
  obtain ⟨a, h1, h2⟩ := h fuel cs x hx
  exact ⟨g a, by rw [e]; exact h1, by rw [e]; exact h2⟩
/-- A struct of three fields, each of one cell. -/
theorem opens_struct3 {t : TypeId} {f0 f1 f2 : Field} {α β γ : Type} {F0 : α → List Dt} {F1 : β → List Dt} {F2 : γ → List Dt} (ht : P.underlying t = some (.struct #[f0, f1, f2])) (hC : P.cellsOf t = 3)
    (o0 : f0.offset = 0) (o1 : f1.offset = 1) (o2 : f2.offset = 2) (c0 : P.cellsOf f0.type = 1) (c1 : P.cellsOf f1.type = 1) (c2 : P.cellsOf f2.type = 1)
    (h0 : Opens enc P w f0.type F0) (h1 : Opens enc P w f1.type F1) (h2 : Opens enc P w f2.type F2) : Opens enc P w t (fun p : α × β × γ => F0 p.1 ++ (F1 p.2.1 ++ F2 p.2.2)) := fun fuel cs x h => by
  obtain ⟨xs, n, rfl, rfl, hl, hxl, hf⟩ := DataW.trod_struct ht h
  rw [hC] at hl
  match cs, hl with
  | [u0, u1, u2], _ =>
    have hx3 : xs.length = 3 := by simpa using hxl
    match xs, hx3 with
    | [y0, y1, y2], _ =>
      have g0 := hf 0 f0 rfl
      have g1 := hf 1 f1 rfl
      have g2 := hf 2 f2 rfl
      rw [o0, c0] at g0
      rw [o1, c1] at g1
      rw [o2, c2] at g2
      obtain ⟨a, a1, a2⟩ := h0 _ _ _ (show DataW.trod enc P w 0 (fun _ => true) true n f0.type [u0] = some y0 from g0)
      obtain ⟨b, b1, b2⟩ := h1 _ _ _ (show DataW.trod enc P w 0 (fun _ => true) true n f1.type [u1] = some y1 from g1)
      obtain ⟨c, d1, d2⟩ := h2 _ _ _ (show DataW.trod enc P w 0 (fun _ => true) true n f2.type [u2] = some y2 from g2)
      simp only [List.length_cons, List.length_nil] at a1 b1 d1
      obtain ⟨da, ea⟩ := List.length_eq_one_iff.1 a1.symm
      obtain ⟨db, eb⟩ := List.length_eq_one_iff.1 b1.symm
      obtain ⟨dc, ec⟩ := List.length_eq_one_iff.1 d1.symm
      refine ⟨(a, b, c), by simp [ea, eb, ec], fun r d hr => ?_⟩
      simp only [ea, eb, ec] at hr a2 b2 d2
      match r with
      | 0 => simp at hr; subst hr; obtain ⟨u, q1, q2⟩ := a2 0 _ rfl; exact ⟨u, by simpa using q1, q2⟩
      | 1 => simp at hr; subst hr; obtain ⟨u, q1, q2⟩ := b2 0 _ rfl; exact ⟨u, by simpa using q1, q2⟩
      | 2 => simp at hr; subst hr; obtain ⟨u, q1, q2⟩ := d2 0 _ rfl; exact ⟨u, by simpa using q1, q2⟩
      | r + 3 => simp at hr
theorem opens_frD {t tf e : TypeId} {f0 f1 f2 : Field} (ht : P.underlying t = some (.slice tf)) (hf : P.underlying tf = some (.struct #[f0, f1, f2])) (hC : P.cellsOf tf = 3)
    (o0 : f0.offset = 0) (o1 : f1.offset = 1) (o2 : f2.offset = 2) (c0 : P.cellsOf f0.type = 1) (c1 : P.cellsOf f1.type = 1) (c2 : P.cellsOf f2.type = 1)
    (h0 : P.underlying f0.type = some (.int .i64)) (h1 : P.underlying f1.type = some (.int .i64)) (h2 : P.underlying f2.type = some (.slice e)) (hc : P.cellsOf e = 1) (he : P.underlying e = some (.int .i64)) : Opens enc P w t (fun fs : List Frm => [frD fs]) :=
  opens_slice ht hC (by decide) (fun _ => rfl) (opens_map (opens_struct3 hf hC o0 o1 o2 c0 c1 c2 (opens_int h0) (opens_int h1) (opens_inD h2 hc he)) (fun p => ⟨p.1, p.2.1, p.2.2⟩) (fun _ => rfl))
end
theorem Ofr.open {w : World} {base : Nat} {d : Dt} {v : Value} (h : Ofr w base d v) : ∃ fp, Odt w d v fp ∧ fp.Nodup ∧ ∀ k ∈ fp, base ≤ k ∧ k < w.heap.size := by
  obtain ⟨fp, h1, h2, h3⟩ := h; exact ⟨fp, h1, h2, fun k hk => ⟨h3 k hk, h1.lt k hk⟩⟩
set_option maxHeartbeats 6400000 in
theorem FnExactReadContainers_walk (v : Value) (fs : List Frm) (w : World) (h : Rwt w (frD fs) v) :
    Calls Try.prog 7 #[v] w fun e w' => e = .returned (.bool true) ∧ Below w.heap.size w w' := by
  have HARG := Lib.hid (fun wx (hb : Below w.heap.size w wx) => h.behind hb)
  have HSZ := Lib.hid (szFrameS_any v fs w h)
  have HQ := Lib.hid (show tot (rdR fs) ≤ 1048576 from rdR_tot fs)
  clear h
  go_enter Try.func7, Try.ntmps7
  go_wp2_with fail
  refine HSZ.out.mono ?_
  rintro e w0 ⟨r, rfl, b0, hr2⟩
  have B0 := Lib.hid b0
  clear b0
  by_cases hneg : r < 0
  · have hnb : decide (r < 0) = true := by simpa using hneg
    go_wp2
    go_ret
    exact ⟨rfl, B0.out⟩
  have hnb : decide (r < 0) = false := by simpa using hneg
  have hsz := hr2 (by omega)
  have HT := Lib.hid (show qAt fs fs.length ≤ 1073741824 by rw [qAt_tot]; omega)
  have HTO := Lib.hid (fun wx (hb : Below w.heap.size w wx) => toFrameS_any v fs wx (HARG.out wx hb) (by omega) (fun i => by
    by_cases hi : i < fs.length
    · have := totF_mem hi; omega
    · rw [List.getElem?_eq_none (by omega)]; simp [nilF]))
  have hsp := fun wx t (ht : Rdt wx (frD fs) t) => specRdc_any t fs wx ht
  have him := fun wx t (ht : Rdt wx (frD fs) t) => implRdc_any t fs wx ht
  unfold RdcP at hsp him
  have HSP := Lib.hid hsp
  have HIM := Lib.hid him
  clear hsz hr2 hsp him HSZ
  generalize frsOk fs = ok at *
  generalize rdR fs = R at *
  have hokb : (ok != ok) = false := by simp
  go_wp2_with fail
  refine (HTO.out _ B0.out).mono ?_
  rintro e w1 ⟨t1, rfl, o1, b1⟩
  have B1 := Lib.hid (B0.out.trans (b1.mono B0.out.size))
  have O1 := Lib.hid o1.rd
  clear b1 o1
  go_wp2_with fail
  refine (HSP.out _ _ O1.out).mono ?_
  rintro e w2 ⟨v2, rfl, o2, b2⟩
  have B2 := Lib.hid (B1.out.trans (b2.mono B1.out.size))
  obtain ⟨f0, W2, -, hf0⟩ := o2.open
  have HW2 := Lib.hid W2
  have HF0 := Lib.hid (fun k hk => (hf0 k hk).2)
  clear b2 o2 W2 hf0 B1 O1
  go_wp2_with fail
  refine (HTO.out _ B2.out).mono ?_
  rintro e w3 ⟨x0, rfl, o3, b3⟩
  have B3 := Lib.hid (B2.out.trans (b3.mono B2.out.size))
  have HW3 := Lib.hid (HW2.out.behind b3)
  obtain ⟨fx, X3, hxn, hfx⟩ := o3.open
  have HX3 := Lib.hid X3
  have HFX := Lib.hid hfx
  have HXN := Lib.hid hxn
  have hz2 := B2.out.size
  have hz3 := b3.size
  clear b3 o3 X3 hfx hxn HW2
  go_wp2_with fail
  refine (HIM.out _ _ HX3.out.rd).mono ?_
  rintro e w4 ⟨g0, rfl, o4, b4⟩
  have B4 := Lib.hid (B3.out.trans (b4.mono B3.out.size))
  have HW4 := Lib.hid (HW3.out.behind b4)
  have HX4 := Lib.hid (HX3.out.behind b4)
  obtain ⟨fg, G4, hgn, hfg⟩ := o4.open
  have HG4 := Lib.hid G4
  have HFG := Lib.hid (fun k hk => (hfg k hk).1)
  have HGN := Lib.hid hgn
  clear b4 o4 G4 hfg hgn HW3 HX3 B3
  go_wp2_with fail
  refine (eqIntSS_same g0 v2 R _ HG4.out.rd HW4.out.rd).mono ?_
  rintro e w5 ⟨rfl, b5⟩
  have B5 := Lib.hid (B4.out.trans (b5.mono B4.out.size))
  have HW5 := Lib.hid (HW4.out.behind b5)
  have HX5 := Lib.hid (HX4.out.behind b5)
  have HG5 := Lib.hid (HG4.out.behind b5)
  clear b5 HW4 HX4 HG4 B4
  go_wp2_with fail
  refine (HTO.out _ B5.out).mono ?_
  rintro e w6 ⟨t6, rfl, o6, b6⟩
  have B6 := Lib.hid (B5.out.trans (b6.mono B5.out.size))
  have HW6 := Lib.hid (HW5.out.behind b6)
  have HX6 := Lib.hid (HX5.out.behind b6)
  have HG6 := Lib.hid (HG5.out.behind b6)
  have O6 := Lib.hid o6.rd
  clear b6 o6 HW5 HX5 HG5 B5
  go_wp2_with fail
  refine (eqFrameS_same x0 t6 fs _ HX6.out.rd O6.out).mono ?_
  rintro e w7 ⟨rfl, b7⟩
  have B7 := Lib.hid (B6.out.trans (b7.mono B6.out.size))
  have HW7 := Lib.hid (HW6.out.behind b7)
  have HX7 := Lib.hid (HX6.out.behind b7)
  have HG7 := Lib.hid (HG6.out.behind b7)
  clear b7 HW6 HX6 HG6 B6 O6
  go_wp2_with fail
  refine (markFrameS_any x0 fs fx _ HX7.out HXN.out HT.out).mono ?_
  rintro e w8 ⟨rfl, -, wr8⟩
  have B8 := Lib.hid (wr8.below B7.out B7.out.size (fun k hk => by have := HFX.out k hk; omega))
  have HW8 := Lib.hid (HW7.out.apart wr8 (fun k hk hk2 => by have h1 := HF0.out k hk; have h2 := HFX.out k hk2; omega))
  have HG8 := Lib.hid (HG7.out.apart wr8 (fun k hk hk2 => by have h1 := HFG.out k hk; have h2 := HFX.out k hk2; omega))
  have hr8n : ¬ (1 + (qAt fs fs.length : Int)) < 0 := by omega
  have hr8b : decide ((1 + (qAt fs fs.length : Int)) < 0) = false := by simpa using hr8n
  clear wr8 HW7 HX7 HG7 B7
  go_wp2_with fail
  refine (eqIntSS_same g0 v2 R _ HG8.out.rd HW8.out.rd).mono ?_
  rintro e w9 ⟨rfl, b9⟩
  have B9 := Lib.hid (B8.out.trans (b9.mono B8.out.size))
  have HW9 := Lib.hid (HW8.out.behind b9)
  have HG9 := Lib.hid (HG8.out.behind b9)
  clear b9 HW8 HG8 B8
  go_wp2_with fail
  refine (markIntSS_full g0 R fg _ HG9.out HGN.out HQ.out).mono ?_
  rintro e w10 ⟨rfl, G10, wr10⟩
  have B10 := Lib.hid (wr10.below B9.out B9.out.size (fun k hk => by have := HFG.out k hk; omega))
  have HW10 := Lib.hid (HW9.out.apart wr10 (fun k hk hk2 => by have h1 := HF0.out k hk; have h2 := HFG.out k hk2; omega))
  have HG10 := Lib.hid G10
  clear wr10 HW9 HG9 B9 G10
  go_wp2_with fail
  refine (heldIntSS_yes g0 R _ HG10.out.rd HQ.out).mono ?_
  rintro e w11 ⟨rfl, b11⟩
  have B11 := Lib.hid (B10.out.trans (b11.mono B10.out.size))
  have HW11 := Lib.hid (HW10.out.behind b11)
  have HG11 := Lib.hid (HG10.out.behind b11)
  have hqn : ¬ (1 + (tot R : Int)) < 0 := by omega
  have hqb : decide ((1 + (tot R : Int)) < 0) = false := by simpa using hqn
  have hqe : ((1 + (tot R : Int)) != (1 + (tot R : Int))) = false := by simp
  clear b11 HW10 HG10 B10
  go_wp2_with fail
  refine (HTO.out _ B11.out).mono ?_
  rintro e w12 ⟨t12, rfl, o12, b12⟩
  have B12 := Lib.hid (B11.out.trans (b12.mono B11.out.size))
  have HW12 := Lib.hid (HW11.out.behind b12)
  have HG12 := Lib.hid (HG11.out.behind b12)
  have O12 := Lib.hid o12.rd
  clear b12 o12 HW11 HG11 B11
  go_wp2_with fail
  refine (HIM.out _ _ O12.out).mono ?_
  rintro e w13 ⟨h13, rfl, o13, b13⟩
  have B13 := Lib.hid (B12.out.trans (b13.mono B12.out.size))
  have HW13 := Lib.hid (HW12.out.behind b13)
  have HG13 := Lib.hid (HG12.out.behind b13)
  have O13 := Lib.hid o13.rd
  clear b13 o13 HW12 HG12 B12 O12
  go_wp2_with fail
  refine (eqIntSS_same h13 v2 R _ O13.out HW13.out.rd).mono ?_
  rintro e w14 ⟨rfl, b14⟩
  have B14 := Lib.hid (B13.out.trans (b14.mono B13.out.size))
  have HG14 := Lib.hid (HG13.out.behind b14)
  clear b14 HG13 B13 HW13 O13
  go_wp2_with fail
  refine (heldIntSS_yes g0 R _ HG14.out.rd HQ.out).mono ?_
  rintro e w15 ⟨rfl, b15⟩
  have B15 := Lib.hid (B14.out.trans (b15.mono B14.out.size))
  clear b15 HG14 B14
  go_wp2
  go_ret
  exact ⟨rfl, B15.out⟩
end Go.Proofs.Ytlemielobmbadaa
