/- The law FnFrames. -/
import Derived.Test.YtlemielobmbadaaFrmG
namespace Go.Proofs.Ytlemielobmbadaa
open Go.RowKit
set_option maxRecDepth 100000

theorem RdF.pay {w : World} {f : Frm} {x y u : Value} (h : RdF w (.agg #[x, y, u]) f) : Rd w u f.l := by
  obtain ⟨u', e, hu⟩ := h
  have h1 := Value.agg.inj e
  simp only [Array.mk.injEq, List.cons.injEq, and_true] at h1
  rw [h1.2.2]; exact hu
theorem prsGood {xs : List Int} {f : Frm} (h : prsOk xs = true ∧ prsR xs = f) (v : Value) (w : World) (hr : Rd w v xs) :
    Calls Try.prog 41 #[v] w fun e w' => ∃ (a : Option Addr) (n cap : Nat), e = .returned (.tuple #[.agg #[.int .i64 f.c, .int .i64 f.p, .slice a n cap], .bool true]) ∧ Own w' w.heap.size (.slice a n cap) f.l ∧ Below w.heap.size w w' := by
  refine (implPrs_any v xs w hr).mono ?_
  rintro e w' ⟨v', rfl, ⟨u, rfl, o⟩, b⟩
  rw [h.2] at o
  obtain ⟨a, c, n, -, rfl, -⟩ := o.rd.opn
  rw [h.1, h.2]
  exact ⟨a, n, c, rfl, o, b⟩
theorem frbGood {f : Frm} (h : frmOk f = true) (v : Value) (w : World) (hr : RdF w v f) :
    Calls Try.prog 38 #[v] w fun e w' => ∃ v', e = .returned (.tuple #[v', .bool true]) ∧ Own w' w.heap.size v' (frmL f) ∧ Below w.heap.size w w' := by
  refine (implFrB_any v f w hr).mono ?_
  rintro e w' ⟨v', rfl, o, b⟩
  rw [frBR_yes h] at o
  rw [h]
  exact ⟨v', rfl, o, b⟩
theorem fndGood {xs ys : List Int} (h : fndOk xs = true ∧ fnd xs 0 = ys) (v : Value) (w : World) (hr : Rd w v xs) :
    Calls Try.prog 44 #[v] w fun e w' => ∃ v', e = .returned (.tuple #[v', .bool true]) ∧ Own w' w.heap.size v' ys ∧ Below w.heap.size w w' := by
  refine (implFnd_any v xs w hr).mono ?_
  rintro e w' ⟨v', rfl, o, b⟩
  rw [show fndR xs = ys by unfold fndR; rw [if_pos h.1]; exact h.2] at o
  rw [h.1]
  exact ⟨v', rfl, o, b⟩
set_option maxHeartbeats 6400000 in
theorem FnFrames_walk (a0 : Option Addr) (len0 cap0 : Nat) (z0 : List Int) (w : World) (hr : RawB w a0 len0 cap0 z0) :
    Calls Try.prog 6 #[.slice a0 len0 cap0] w fun e w' => e = .returned (.bool true) ∧ Below w.heap.size w w' := by
  by_cases hbig : (65536 : Int) < (len0 : Int)
  · have hd : decide ((65536 : Int) < (len0 : Int)) = true := by simpa using hbig
    go_enter Try.func6, Try.ntmps6
    go_wp2_with fail
    refine (vBig_any _ _ _ _).mono ?_
    rintro e w' ⟨rfl, rfl⟩
    go_wp2
    go_ret
    exact ⟨rfl, Below.refl _ _⟩
  have hd : decide ((65536 : Int) < (len0 : Int)) = false := by simpa using hbig
  have hrd := hr.rd (by omega)
  have HRD := Lib.hid hrd
  have HRL := Lib.hid (fun (w' : World) (hb : Below w.heap.size w w') => RdB.below hrd hb)
  clear hr hrd
  go_enter Try.func6, Try.ntmps6
  go_wp2_with fail
  refine (vBig_any _ _ _ _).mono ?_
  rintro e w' ⟨rfl, rfl⟩
  go_wp2_with fail
  refine (drawFB_any _ _ HRD.out).mono ?_
  rintro e w1 ⟨v1, f, rfl, hfl, ⟨u, rfl, o1⟩, b1⟩
  obtain ⟨a5, c5, n5, -, rfl, -⟩ := o1.rd.opn
  have B1 := Lib.hid b1
  have O1 := Lib.hid o1
  have HFM := Lib.hid (fun h : frmOk f = true => frmOk_parts h)
  have HPF := Lib.hid (fun h : frmOk f = true => prs_frm h)
  have HGB := Lib.hid (@frbGood f)
  have HSV := Lib.hid (show ∀ (w : World) (v : Value), RdF w v f → Calls Try.prog 39 #[v] w (fun e w' => e = .returned (.bool (frmOk f)) ∧ Below w.heap.size w w') from fun w v h => specValid_any v f w h)
  have HIV := Lib.hid (show ∀ (w : World) (v : Value), RdF w v f → Calls Try.prog 40 #[v] w (fun e w' => e = .returned (.bool (frmOk f)) ∧ Below w.heap.size w w') from fun w v h => implValid_any v f w h)
  have HFB := Lib.hid (show ∀ (w : World) (v : Value), RdF w v f → Calls Try.prog 38 #[v] w (fun e w' => ∃ v, e = .returned (.tuple #[v, .bool (frmOk f)]) ∧ Own w' w.heap.size v (frBR f) ∧ Below w.heap.size w w') from fun w v h => implFrB_any v f w h)
  have HBY := Lib.hid (@frBR_yes f)
  clear b1 o1 hfl HGB
  generalize frmOk f = ok at *
  go_upto_region 4 with fail
  have hW := (B1.out.alloc B1.out.size (.cells #[.int .i64 f.c, .int .i64 f.p, .slice a5 n5 c5] 50))
  have hRF : RdF (w1.alloc (.cells #[.int .i64 f.c, .int .i64 f.p, .slice a5 n5 c5] 50)) (.agg #[.int .i64 f.c, .int .i64 f.p, .slice a5 n5 c5]) f := ⟨_, rfl, (O1.out.alloc _).rd⟩
  have hBK := heap_alloc_new w1 (.cells #[.int .i64 f.c, .int .i64 f.p, .slice a5 n5 c5] 50)
  have HK := Lib.hid (fun (wx : World) (hb : Below (w1.alloc (.cells #[.int .i64 f.c, .int .i64 f.p, .slice a5 n5 c5] 50)).heap.size (w1.alloc (.cells #[.int .i64 f.c, .int .i64 f.p, .slice a5 n5 c5] 50)) wx) => (show Below w.heap.size w wx ∧ RdF wx (.agg #[.int .i64 f.c, .int .i64 f.p, .slice a5 n5 c5]) f ∧ wx.heap[w1.heap.size]? = some (.cells #[.int .i64 f.c, .int .i64 f.p, .slice a5 n5 c5] 50 (0, 0)) from ⟨hW.trans (hb.mono hW.size), hRF.belowAll hb, kept_old' hBK hb⟩))
  generalize hWe : w1.alloc (.cells #[.int .i64 f.c, .int .i64 f.p, .slice a5 n5 c5] 50) = W1 at *
  clear hWe hW hRF hBK B1 O1
  have K1 := HK.out W1 (Below.refl _ _)
  obtain ⟨d0, d1, d2, d3, d4, d5, d6⟩ := blk3 K1.2.2
  go_wp2_with fail
  refine (HFB.out _ _ K1.2.1).mono ?_
  rintro e w2 ⟨v2, rfl, o2, b2⟩
  have K2 := Lib.hid (HK.out w2 b2)
  have HB2 := Lib.hid b2
  have O2 := Lib.hid o2
  clear d0 d1 d2 d3 d4 d5 d6 K1 o2 b2
  obtain ⟨d0, d1, d2, d3, d4, d5, d6⟩ := blk3 K2.out.2.2
  go_wp2_with fail
  refine (HSV.out _ _ K2.out.2.1).mono ?_
  rintro e w3 ⟨rfl, b3⟩
  have HB3 := Lib.hid (HB2.out.trans (b3.mono HB2.out.size))
  have K3 := Lib.hid (HK.out w3 HB3.out)
  have O3 := Lib.hid (O2.out.belowAll b3)
  clear d0 d1 d2 d3 d4 d5 d6 K2 b3 O2 HB2
  obtain ⟨d0, d1, d2, d3, d4, d5, d6⟩ := blk3 K3.out.2.2
  have hne : (ok != ok) = false := by simp
  go_wp2_with fail
  refine (HIV.out _ _ K3.out.2.1).mono ?_
  rintro e w4 ⟨rfl, b4⟩
  have HB4 := Lib.hid (HB3.out.trans (b4.mono HB3.out.size))
  have K4 := Lib.hid (HK.out w4 HB4.out)
  have O4 := Lib.hid (O3.out.belowAll b4)
  clear d0 d1 d2 d3 d4 d5 d6 K3 b4 O3 HB3
  go_upto_if 41 with fail
  go_cut [] from 42 to 75 (fun wx => Hid (Below w.heap.size w wx))
  case first =>
    cases ok
    · go_wp2_with fail
      go_meet
      exact K4.out.1
    have hl12 := (HFM.out rfl).2.2.1
    have h17 := frmL_len hl12
    have hO4 := O4.out
    rw [HBY.out rfl] at hO4
    have HG := Lib.hid (fun v w h => prsGood (HPF.out rfl) v w h)
    obtain ⟨g, f0, cp, rfl, -, -, -, -⟩ := hO4.openN h17 (by omega)
    have RD4 := Lib.hid hO4.rd
    have hcc : (f.c != f.c) = false := by simp
    have hpp : (f.p != f.p) = false := by simp
    clear hl12 h17 hO4 HFM HPF HBY O4
    go_wp2_with fail
    refine (HG.out _ _ RD4.out).mono ?_
    rintro e w5 ⟨a7, n7, c7, rfl, o5, b5⟩
    have K5 := Lib.hid (HK.out w5 (HB4.out.trans (b5.mono HB4.out.size)))
    have R5 := Lib.hid o5.rd
    clear b5 o5 HB4 K4
    obtain ⟨d0, d1, d2, d3, d4, d5, d6⟩ := blk3 K5.out.2.2
    have hR7 := Lib.hid (show Rd (w5.alloc (.cells #[.int .i64 f.c, .int .i64 f.p, .slice a7 n7 c7] 50)) (.slice a7 n7 c7) f.l from R5.out.belowAll ((Below.refl _ _).alloc (Nat.le_refl _) _))
    have hal := Lib.hid (show Below w5.heap.size w5 (w5.alloc (.cells #[.int .i64 f.c, .int .i64 f.p, .slice a7 n7 c7] 50)) from (Below.refl _ _).alloc (Nat.le_refl _) _)
    go_wp2_with fail
    refine (vSame _ _ f.l _ hR7.out (K5.out.2.1.belowAll hal.out).pay).mono ?_
    rintro e w6 ⟨rfl, n6, rfl⟩
    have HB6 := Lib.hid (show Below w.heap.size w ((w5.alloc (.cells #[.int .i64 f.c, .int .i64 f.p, .slice a7 n7 c7] 50)).drewN n6) from (K5.out.1.trans (hal.out.mono K5.out.1.size)).trans ⟨rfl, rfl, rfl, Nat.le_refl _, fun _ _ => rfl⟩)
    go_wp2
    go_meet
    exact HB6.out
  case rest =>
  have B5 := hcut
  clear hcut HFM HPF HBY HSV HIV HFB K4 O4 HB4 HK hne
  go_wp2_with fail
  refine (drawPF_any _ _ (HRL.out _ B5.out)).mono ?_
  rintro e w6 ⟨v6, bs, rfl, -, o6, b6⟩
  have B6 := Lib.hid (B5.out.trans (b6.mono B5.out.size))
  have R6 := Lib.hid o6.rd
  have HPP := Lib.hid (fun h : prsOk bs = true => frm_prs h)
  have HP2 := Lib.hid (fun h : prsOk bs = true => fnd_two h)
  have HI := Lib.hid (show ∀ (w : World) (v : Value), Rd w v bs → Calls Try.prog 41 #[v] w (fun e w' => ∃ v, e = .returned (.tuple #[v, .bool (prsOk bs)]) ∧ OwF w' w.heap.size v (prsR bs) ∧ Below w.heap.size w w') from fun w v h => implPrs_any v bs w h)
  have HS := Lib.hid (show ∀ (w : World) (v : Value), Rd w v bs → Calls Try.prog 43 #[v] w (fun e w' => ∃ v, e = .returned (.tuple #[v, .bool (prsOk bs)]) ∧ OwF w' w.heap.size v (prsR bs) ∧ Below w.heap.size w w') from fun w v h => specPrs_any v bs w h)
  clear b6 o6 B5
  generalize prsOk bs = got at *
  go_wp2_with fail
  refine (HI.out _ _ R6.out).mono ?_
  rintro e w7 ⟨v7, rfl, ⟨u7, rfl, o7⟩, b7⟩
  obtain ⟨a7, c7, n7, -, rfl, -⟩ := o7.rd.opn
  have B7 := Lib.hid ((B6.out.trans (b7.mono B6.out.size)).alloc (B6.out.trans (b7.mono B6.out.size)).size (.cells #[.int .i64 (prsR bs).c, .int .i64 (prsR bs).p, .slice a7 n7 c7] 50))
  have hal := (Below.refl w7.heap.size w7).alloc (Nat.le_refl _) (.cells #[.int .i64 (prsR bs).c, .int .i64 (prsR bs).p, .slice a7 n7 c7] 50)
  have R7 := Lib.hid ((R6.out.belowAll b7).belowAll hal)
  have O7 := Lib.hid (show RdF (w7.alloc (.cells #[.int .i64 (prsR bs).c, .int .i64 (prsR bs).p, .slice a7 n7 c7] 50)) (.agg #[.int .i64 (prsR bs).c, .int .i64 (prsR bs).p, .slice a7 n7 c7]) (prsR bs) from ⟨_, rfl, o7.rd.belowAll hal⟩)
  have HBK := Lib.hid (heap_alloc_new w7 (.cells #[.int .i64 (prsR bs).c, .int .i64 (prsR bs).p, .slice a7 n7 c7] 50))
  clear b7 o7 R6 B6 hal
  go_wp2_with fail
  refine (HS.out _ _ R7.out).mono ?_
  rintro e w8 ⟨v8, rfl, ⟨u8, rfl, o8⟩, b8⟩
  obtain ⟨a8, c8, n8, -, rfl, -⟩ := o8.rd.opn
  have B8 := Lib.hid ((B7.out.trans (b8.mono B7.out.size)).alloc (B7.out.trans (b8.mono B7.out.size)).size (.cells #[.int .i64 (prsR bs).c, .int .i64 (prsR bs).p, .slice a8 n8 c8] 50))
  have hal := (Below.refl w8.heap.size w8).alloc (Nat.le_refl _) (.cells #[.int .i64 (prsR bs).c, .int .i64 (prsR bs).p, .slice a8 n8 c8] 50)
  have R8 := Lib.hid ((R7.out.belowAll b8).belowAll hal)
  have O8 := Lib.hid ((O7.out.belowAll b8).belowAll hal)
  have HBK8 := Lib.hid (kept_old' (kept_old' HBK.out b8) hal)
  clear b8 o8 R7 B7 hal O7 HBK HS HI
  have hne : (got != got) = false := by simp
  go_upto_if 91 with fail
  generalize w8.alloc (.cells #[.int .i64 (prsR bs).c, .int .i64 (prsR bs).p, .slice a8 n8 c8] 50) = W8 at *
  go_cut [] from 92 to 121 (fun wx => Hid (Below w.heap.size w wx))
  case first =>
    cases got
    · go_wp2_with fail
      go_meet
      exact B8.out
    obtain ⟨hfo, hfl, hl17⟩ := HPP.out rfl
    obtain ⟨hf1, hf2⟩ := HP2.out rfl
    have HFG := Lib.hid (fun v w h => frbGood hfo v w h)
    rw [hfl] at HFG
    have HND := Lib.hid (fun v w h => fndGood ⟨hf1, hf2⟩ v w h)
    have HL := Lib.hid hl17
    obtain ⟨d0, d1, d2, d3, d4, d5, d6⟩ := blk3 HBK8.out
    clear hfo hfl hl17 hf1 hf2 HPP HP2
    go_wp2_with fail
    refine (HFG.out _ _ O8.out).mono ?_
    rintro e w9 ⟨v9, rfl, o9, b9⟩
    have B9 := Lib.hid (B8.out.trans (b9.mono B8.out.size))
    have R9 := Lib.hid (R8.out.belowAll b9)
    have O9 := Lib.hid o9.rd
    clear b9 o9 d0 d1 d2 d3 d4 d5 d6 HFG
    go_wp2_with fail
    refine (vSame _ _ bs _ O9.out R9.out).mono ?_
    rintro e w10 ⟨rfl, n10, rfl⟩
    have B10 := Lib.hid (show Below w.heap.size w (w9.drewN n10) from B9.out.trans ⟨rfl, rfl, rfl, Nat.le_refl _, fun _ _ => rfl⟩)
    have R10 := Lib.hid (show Rd (w9.drewN n10) v6 bs from R9.out)
    go_upto_region 20 with fail
    generalize w9.drewN n10 = W at *
    have hown0 : (W.alloc (.cells #[] 3)).ownsRow W.heap.size 3 1 (.slice (some ⟨W.heap.size, 0, none⟩) 0 0) 0 (ints []) := World.ownsRow_lit (base := W.heap.size) (e := 3) (size := 1) W #[] 0 (Nat.le_refl _) (by simp) rfl
    have hba := (Below.refl W.heap.size W).alloc (Nat.le_refl _) (.cells #[] 3)
    have hrdc := R10.out.belowAll hba
    have HB11 := Lib.hid hba
    clear R9 O9 B9 HBK8 O8 R8 B8 hba
    go_wp2_with (at_builtin; first
      | (refine wpList_cat rfl (.tmp 106) (.tmp 107) 24 rfl Try.underlying24 Try.infoInt W.heap.size (.slice (some ⟨W.heap.size, 0, none⟩) 0 0) 0 [] rfl hown0 _ bs rfl hrdc (by rw [HL.out]; decide) (by rw [HL.out]; decide) (by simp) ?_; intro v12 w12 hown12 hgrow12; have H12 := Lib.hid hown12; have B12 := Lib.hid (show Below W.heap.size W w12 from HB11.out.grown hgrow12 (by simp) (fun k hk => by have e : W.heap.size = k := (by simpa [Value.ownBlock] using hk); exact Nat.le_of_eq e)); have R12 := Lib.hid (R10.out.belowAll B12.out); have hs12 := B12.out.size; clear hown12 hgrow12 hown0 hrdc)
      | (refine wpList_cat rfl (.tmp 108) (.tmp 109) 24 rfl Try.underlying24 Try.infoInt W.heap.size _ _ bs rfl H12.out _ bs rfl R12.out (by rw [HL.out]; decide) (by rw [HL.out]; decide) hs12 ?_; intro v13 w13 hown13 hgrow13; have B13 := Lib.hid (show Below W.heap.size W w13 from B12.out.grown hgrow13 hs12 (fun k hk => (H12.out.lt k hk).1)); have R13 := Lib.hid (own_of_row hown13).rd; clear hown13 hgrow13))
    refine (HND.out _ _ R13.out).mono ?_
    rintro e w14 ⟨v14, rfl, o14, b14⟩
    have B14 := Lib.hid ((B10.out.trans (B13.out.mono B10.out.size)).trans (b14.mono (Nat.le_trans B10.out.size B13.out.size)))
    have hal := (Below.refl w14.heap.size w14).alloc (Nat.le_refl _) (.cells #[.int .i64 0, .int .i64 17] 3)
    have R14 := Lib.hid (o14.rd.belowAll hal)
    have B15 := Lib.hid (B14.out.trans (hal.mono B14.out.size))
    have RL := Lib.hid (own_lit2 (w := w14) (base := w14.heap.size) 0 17 (Nat.le_refl _)).rd
    clear b14 o14 hal B13 R13 B12 R12 H12
    go_wp2_with fail
    refine (vSame _ _ [0, 17] _ R14.out RL.out).mono ?_
    rintro e w16 ⟨rfl, n16, rfl⟩
    have B16 := Lib.hid (show Below w.heap.size w ((w14.alloc (.cells #[.int .i64 0, .int .i64 17] 3)).drewN n16) from B15.out.trans ⟨rfl, rfl, rfl, Nat.le_refl _, fun _ _ => rfl⟩)
    go_wp2
    go_meet
    exact B16.out
  case rest =>
  have B9 := hcut
  clear hcut HPP HP2 B8 R8 O8 HBK8 hne
  go_wp2_with fail
  refine (drawFF_any _ _ (HRL.out _ B9.out)).mono ?_
  rintro e w10 ⟨v10, ss, rfl, -, o10, b10⟩
  have B10 := Lib.hid (B9.out.trans (b10.mono B9.out.size))
  have R10 := Lib.hid o10.rd
  clear b10 o10 B9
  go_wp2_with fail
  refine (implFnd_any v10 ss _ R10.out).mono ?_
  rintro e w11 ⟨v11, rfl, o11, b11⟩
  have B11 := Lib.hid (B10.out.trans (b11.mono B10.out.size))
  have R11 := Lib.hid (R10.out.belowAll b11)
  have O11 := Lib.hid o11
  clear b11 o11 B10 R10
  go_wp2_with fail
  refine (specFnd_any v10 ss _ R11.out).mono ?_
  rintro e w12 ⟨v12, rfl, o12, b12⟩
  have B12 := Lib.hid (B11.out.trans (b12.mono B11.out.size))
  have R12 := Lib.hid (O11.out.belowAll b12).rd
  have R13 := Lib.hid o12.rd
  have heq : (fndOk ss == fndOk ss) = true := by simp
  clear b12 o12 B11 R11 O11
  go_wp2_with fail
  refine (vSame _ _ (fndR ss) _ R12.out R13.out).mono ?_
  rintro e w13 ⟨rfl, n13, rfl⟩
  have B13 := Lib.hid (show Below w.heap.size w (w12.drewN n13) from B12.out.trans ⟨rfl, rfl, rfl, Nat.le_refl _, fun _ _ => rfl⟩)
  go_wp2
  go_ret
  exact ⟨rfl, B13.out⟩
end Go.Proofs.Ytlemielobmbadaa
