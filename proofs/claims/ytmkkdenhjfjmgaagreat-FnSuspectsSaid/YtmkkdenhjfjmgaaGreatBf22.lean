/- Walks: DistinguishingLight, both. -/
import Derived.Test.YtmkkdenhjfjmgaaGreatBf06
import Derived.Test.YtmkkdenhjfjmgaaGreatBf10
import Derived.Deep.RegionHeld3
namespace Go.Proofs.YtmkkdenhjfjmgaaGreat
open Go.RowKit Go.Sort
set_option maxRecDepth 100000

def DsP (p : Pln) (a b : List Int) (w : World) (e : Ending) (w' : World) : Prop := e = .returned (.tuple #[.int .i64 (dsR p a b), .bool (dsOk p a b)]) ∧ Below w.heap.size w w'
set_option maxHeartbeats 3200000 in
theorem implDsl_any (v va vb : Value) (p : Pln) (a b : List Int) (w : World) (h : PlnR w v p) (ha : Rd w va a) (hb : Rd w vb b) (hfb : ∀ i : Nat, (lgA p i).fb.length ≤ 1100000) :
    Calls Tryz.prog 18 #[v, va, vb] w (DsP p a b w) := by
  have HGA := Lib.hid (fun w' (hb' : Below w.heap.size w w') => isGroupSet_any v va p a w' (h.behind hb') (ha.belowAll hb') hfb)
  have HGB := Lib.hid (fun w' (hb' : Below w.heap.size w w') => isGroupSet_any v vb p b w' (h.behind hb') (hb.belowAll hb') hfb)
  have HHA := Lib.hid (fun (ho : gsetOk p a = true) w' (hb' : Below w.heap.size w w') => hits_any v va p a w' (h.behind hb') (ha.belowAll hb') (plnOk_sz (gsetOk_parts ho).1).2.2.1 (plnOk_sz (gsetOk_parts ho).1).2.1 hfb (fun i hi => setOk_bd (gsetOk_parts ho).2 hi) (by have := setOk_len (gsetOk_parts ho).2; have := (plnOk_sz (gsetOk_parts ho).1).2.2.2; omega))
  have HHB := Lib.hid (fun (ho : gsetOk p b = true) w' (hb' : Below w.heap.size w w') => hits_any v vb p b w' (h.behind hb') (hb.belowAll hb') (plnOk_sz (gsetOk_parts ho).1).2.2.1 (plnOk_sz (gsetOk_parts ho).1).2.1 hfb (fun i hi => setOk_bd (gsetOk_parts ho).2 hi) (by have := setOk_len (gsetOk_parts ho).2; have := (plnOk_sz (gsetOk_parts ho).1).2.2.2; omega))
  obtain ⟨u1, u2, u3, rfl, r1, r2, r3, hsm⟩ := h
  have hnet : NetR w (.agg #[u1, u2]) p.n := ⟨u1, u2, rfl, r1, r2, hsm⟩
  obtain ⟨⟨a1, m1, c1, rfl⟩, a2, m2, c2, rfl⟩ := slice_of_net hnet
  obtain ⟨a3, m3, c3, rfl, HN3, -, hm3, ha3⟩ := lgt_opn r3
  have HA := Lib.hid ha3
  obtain ⟨aa, ca, na, -, rfl, -, -, -⟩ := ha.opn
  obtain ⟨ab, cb, nb, -, rfl, -, -, -⟩ := hb.opn
  obtain ⟨bx, bc, blt, -⟩ := box_facts w #[.slice a1 m1 c1, .slice a2 m2 c2, .slice a3 m3 c3] 38
  have q0 := bc 0 _ rfl
  have q1 := bc 1 _ rfl
  have q2 := bc 2 _ rfl
  have HBX := Lib.hid bx
  have HO := Lib.hid (show dsOk p a b = (gsetOk p a && gsetOk p b) from rfl)
  have HRN := Lib.hid (@dsR_no p a b)
  have HRA := Lib.hid (fun (ho : dsOk p a b = true) k hk => @dsR_at p a b ho k hk)
  have HRZ := Lib.hid (@dsR_none p a b)
  have HHS := Lib.hid (fun (ho : gsetOk p a = true) gs k hk => @hts_has p gs (gsetOk_parts ho).1 k hk)
  have HDF := Lib.hid (show ∀ k, dfr p a b k = (hitL p a (lgA p k) != hitL p b (lgA p k)) from fun _ => rfl)
  rw [HN3.out] at HRA HRZ HHS
  unfold DsP
  generalize dsR p a b = R at *
  generalize dsOk p a b = ok at *
  clear r1 r2 r3 hsm hnet hfb bx bc ha3 ha hb
  go_enter Tryz.func18, Tryz.ntmps18
  go_wp2_with fail
  generalize w.alloc (.cells #[.slice a1 m1 c1, .slice a2 m2 c2, .slice a3 m3 c3] 38) = w1 at *
  have HV1 := Lib.hid (HGA.out w1 HBX.out)
  cases hok : gsetOk p a
  · have HE := Lib.hid (show ok = false by rw [HO.out, hok]; rfl)
    have HR := Lib.hid (HRN.out HE.out)
    rw [hok] at HV1
    clear HGA HGB HHA HHB HRN HRA HRZ HHS HO
    refine HV1.out.mono ?_
    rintro e w2 ⟨rfl, b2⟩
    have HB2 := Lib.hid (HBX.out.trans (b2.mono HBX.out.size))
    clear b2
    go_wp2
    go_ret2
    exact ⟨by rw [HE.out, HR.out]; rfl, HB2.out⟩
  rw [hok] at HV1
  refine HV1.out.mono ?_
  rintro e w2 ⟨rfl, b2⟩
  have e0 := (b2.cell (p := ⟨w.heap.size, 0, none⟩) blt).trans q0
  have e1 := (b2.cell (p := ⟨w.heap.size, 1, none⟩) blt).trans q1
  have e2 := (b2.cell (p := ⟨w.heap.size, 2, none⟩) blt).trans q2
  have HB2 := Lib.hid (HBX.out.trans (b2.mono HBX.out.size))
  have HLT2 := Lib.hid (Nat.lt_of_lt_of_le blt b2.size)
  clear b2 q0 q1 q2
  have HV2 := Lib.hid (HGB.out w2 HB2.out)
  cases hob : gsetOk p b
  · have HE := Lib.hid (show ok = false by rw [HO.out, hok, hob]; rfl)
    have HR := Lib.hid (HRN.out HE.out)
    rw [hob] at HV2
    clear HGA HGB HHA HHB HRN HRA HRZ HHS HO hok hob
    go_wp2_with fail
    refine HV2.out.mono ?_
    rintro e w3 ⟨rfl, b3⟩
    have HB3 := Lib.hid (HB2.out.trans (b3.mono HB2.out.size))
    clear b3
    go_wp2
    go_ret2
    exact ⟨by rw [HE.out, HR.out]; rfl, HB3.out⟩
  have HE := Lib.hid (show ok = true by rw [HO.out, hok, hob]; rfl)
  have HRA1 := Lib.hid (HRA.out HE.out)
  have HRZ1 := Lib.hid (HRZ.out HE.out)
  have HXA := Lib.hid (HHA.out hok)
  have HXB := Lib.hid (HHB.out hob)
  have HSA := Lib.hid (HHS.out hok a)
  have HSB := Lib.hid (HHS.out hok b)
  rw [hob] at HV2
  clear HGA HGB HHA HHB HRN HRA HRZ HHS HO hok hob
  go_wp2_with fail
  refine HV2.out.mono ?_
  rintro e w3 ⟨rfl, b3⟩
  have f0 := (b3.cell (p := ⟨w.heap.size, 0, none⟩) HLT2.out).trans e0
  have f1 := (b3.cell (p := ⟨w.heap.size, 1, none⟩) HLT2.out).trans e1
  have f2 := (b3.cell (p := ⟨w.heap.size, 2, none⟩) HLT2.out).trans e2
  have HB3 := Lib.hid (HB2.out.trans (b3.mono HB2.out.size))
  have HLT3 := Lib.hid (Nat.lt_of_lt_of_le HLT2.out b3.size)
  clear b3 e0 e1 e2
  go_wp2
  have HS := Lib.hid (fun (w' : World) (hb : Below w3.heap.size w3 w') => show Below w3.heap.size w3 w' ∧ w'.cell? ⟨w.heap.size, 0, none⟩ = some (.slice a1 m1 c1) ∧ w'.cell? ⟨w.heap.size, 1, none⟩ = some (.slice a2 m2 c2) ∧ w'.cell? ⟨w.heap.size, 2, none⟩ = some (.slice a3 m3 c3) from
    ⟨hb, (hb.cell HLT3.out).trans f0, (hb.cell HLT3.out).trans f1, (hb.cell HLT3.out).trans f2⟩)
  have HBS := Lib.hid (fun (wx w' : World) (hb : Below w3.heap.size w3 wx) (hc : Below wx.heap.size wx w') => show Below w3.heap.size w3 w' from hb.trans (hc.mono hb.size))
  have HCA := Lib.hid (fun (w' : World) (hb : Below w3.heap.size w3 w') => HXA.out w' (HB3.out.trans (hb.mono HB3.out.size)))
  have HCB := Lib.hid (fun (w' : World) (hb : Below w3.heap.size w3 w') => HXB.out w' (HB3.out.trans (hb.mono HB3.out.size)))
  have s0 : Below w3.heap.size w3 w3.drew := (Below.refl w3.heap.size w3).drew
  clear f0 f1 f2
  go_region_held3 (fun w' => Below w3.heap.size w3 w' ∧ w'.cell? ⟨w.heap.size, 0, none⟩ = some (.slice a1 m1 c1) ∧ w'.cell? ⟨w.heap.size, 1, none⟩ = some (.slice a2 m2 c2) ∧ w'.cell? ⟨w.heap.size, 2, none⟩ = some (.slice a3 m3 c3))
    (first | exact HS.out _ (by assumption))
    (first
      | (go_at_call 64; first
        | ((with_reducible refine (HCA.out _ (And.left (by assumption))).mono ?_); rintro e w9 ⟨va9, rfl, oa, b9⟩; obtain ⟨aA, cA, nA, -, rfl, -, -, -⟩ := oa.rd.opn; have HOA := Lib.hid oa.rd; (try (have HOB := Lib.hid (HOB.out.belowAll b9))); have s9 := HBS.out _ _ (And.left (by assumption)) b9; clear b9 oa)
        | ((with_reducible refine (HCB.out _ (And.left (by assumption))).mono ?_); rintro e w9 ⟨vb9, rfl, ob, b9⟩; obtain ⟨aB, cB, nB, -, rfl, -, -, -⟩ := ob.rd.opn; have HOB := Lib.hid ob.rd; (try (have HOA := Lib.hid (HOA.out.belowAll b9))); have s9 := HBS.out _ _ (And.left (by assumption)) b9; clear b9 ob)))
  have HB9 := Lib.hid (HB3.out.trans (s9.mono HB3.out.size))
  have g2 := (HS.out w9 s9).2.2.2
  clear HCA HCB HXA HXB HS HBS s9 s0 HB2 HBX
  go_wp2
  go_loopw [11, 31] (fun _ i wr => ∃ k : Nat, k ≤ m3 ∧ i = .int .i64 k ∧ Hid (∀ j, j < k → dfr p a b j = false) ∧ Hid (Below w9.heap.size w9 wr)) (fun _ i _ => m3 - (intOf i).toNat)
  case atStart => exact ⟨0, Nat.zero_le _, rfl, (fun j hj => absurd hj (Nat.not_lt_zero j)), Below.refl _ _⟩
  case round =>
    obtain ⟨k, hk, rfl, HK, HB⟩ := hrel
    have HBW := Lib.hid (HB9.out.trans (HB.out.mono HB9.out.size))
    by_cases hlt : k < m3
    · have hltI : (k : Int) < (m3 : Int) := by omega
      obtain ⟨b', off, rfl, hbs, hcs⟩ := HA.out (by omega)
      obtain ⟨u, x0, x1, x2, x3, x4, hru⟩ := hcs k hlt
      have y0 := (HBW.out.cell (p := ⟨b', off + k * 5, none⟩) hbs).trans x0
      have y1 := (HBW.out.cell (p := ⟨b', off + k * 5 + 1, none⟩) hbs).trans x1
      have y2 := (HBW.out.cell (p := ⟨b', off + k * 5 + 2, none⟩) hbs).trans x2
      have y3 := (HBW.out.cell (p := ⟨b', off + k * 5 + 3, none⟩) hbs).trans x3
      have y4 := (HBW.out.cell (p := ⟨b', off + k * 5 + 4, none⟩) hbs).trans x4
      have HS1 := Lib.hid (HSA.out k hlt)
      have HS2 := Lib.hid (HSB.out k hlt)
      have HD := Lib.hid (HDF.out k)
      have HAT := Lib.hid (HRA1.out k hlt HK.out)
      have HNX := Lib.hid (fun h => upto_not (P := fun i => dfr p a b i = false) HK.out (k := k) h)
      obtain ⟨au, cu, nu, -, rfl, -, -, -⟩ := hru.opn
      unfold lgA at HS1 HS2 HD HAT
      clear hcs x0 x1 x2 x3 x4 hru
      generalize p.ls[k]?.getD nilL = x at *
      obtain ⟨bf, cf, blf, -⟩ := box_facts wr #[.int .i64 x.id, .int .i64 x.st, .slice au nu cu, .int .i64 x.fi, .int .i64 x.ct] 94
      have z0 := cf 0 _ rfl
      have HBF := Lib.hid (HB.out.trans (bf.mono HB.out.size))
      have HCA := Lib.hid (fun w' (hb : Below w9.heap.size w9 w') => containsI_any (.slice aA nA cA) (hts p a) x.id w' (HOA.out.belowAll hb))
      have HCB := Lib.hid (fun w' (hb : Below w9.heap.size w9 w') => containsI_any (.slice aB nB cB) (hts p b) x.id w' (HOB.out.belowAll hb))
      rw [HS1.out] at HCA
      rw [HS2.out] at HCB
      generalize hitL p a x = t1 at *
      generalize hitL p b x = t2 at *
      clear bf cf
      go_wp2
      generalize wr.alloc (.cells #[.int .i64 x.id, .int .i64 x.st, .slice au nu cu, .int .i64 x.fi, .int .i64 x.ct] 94) = w4 at *
      have j0 := rg z0
      have HCA4 := Lib.hid (fun dq osq => HCA.out (grow (redrawn w4 dq) osq) (HBF.out.trans ((below_regrown w4 dq osq).mono HBF.out.size)))
      have HCB4 := Lib.hid (fun dq osq => HCB.out (grow (redrawn w4 dq) osq) (HBF.out.trans ((below_regrown w4 dq osq).mono HBF.out.size)))
      clear y0 y1 y2 y3 y4
      refine wp_region_quiet_below (by kernel_rfl) (by kernel_rfl) ?_
      repeat (go_big_quiet_step (first | (go_at_call 65; first | (with_reducible exact rg_same (HCA4.out _ _)) | (with_reducible exact rg_same (HCB4.out _ _)))))
      refine wpQuiet_nil ?_
      rintro _ ⟨⟨dq, osq⟩, rfl⟩
      have z5 := j0 dq osq
      have HB5 := Lib.hid (HBF.out.trans ((below_regrown w4 dq osq).mono HBF.out.size))
      clear HCA HCB HCA4 HCB4 j0
      cases t1 <;> cases t2
      case false.false =>
        have HNX2 := Lib.hid (HNX.out (by show dfr p a b k = false; rw [HD.out]; rfl))
        go_wp2
        go_roundw
        case rel => exact ⟨k + 1, hlt, by go_num, HNX2.out, HB5.out⟩
        case measure => simp [intOf]; omega
      case false.true =>
        have HR := Lib.hid (HAT.out (by rw [HD.out]; rfl))
        go_wp2
        go_ret2
        exact ⟨by rw [HE.out, HR.out]; rfl, HB9.out.trans (HB5.out.mono HB9.out.size)⟩
      case true.false =>
        have HR := Lib.hid (HAT.out (by rw [HD.out]; rfl))
        go_wp2
        go_ret2
        exact ⟨by rw [HE.out, HR.out]; rfl, HB9.out.trans (HB5.out.mono HB9.out.size)⟩
      case true.true =>
        have HNX2 := Lib.hid (HNX.out (by show dfr p a b k = false; rw [HD.out]; rfl))
        go_wp2
        go_roundw
        case rel => exact ⟨k + 1, hlt, by go_num, HNX2.out, HB5.out⟩
        case measure => simp [intOf]; omega
    · obtain rfl : m3 = k := by omega
      have HR := Lib.hid (HRZ1.out HK.out)
      go_wp2
      go_ret2
      exact ⟨by rw [HE.out, HR.out]; rfl, HBW.out⟩
set_option maxHeartbeats 3200000 in
theorem specDsl_any (v va vb : Value) (p : Pln) (a b : List Int) (w : World) (h : PlnR w v p) (ha : Rd w va a) (hb : Rd w vb b) (hfb : ∀ i : Nat, (lgA p i).fb.length ≤ 1100000) :
    Calls Tryz.prog 15 #[v, va, vb] w (DsP p a b w) := by
  have HGA := Lib.hid (fun w' (hb' : Below w.heap.size w w') => l25Groups_any v va p a w' (h.behind hb') (ha.belowAll hb') hfb)
  have HGB := Lib.hid (fun w' (hb' : Below w.heap.size w w') => l25Groups_any v vb p b w' (h.behind hb') (hb.belowAll hb') hfb)
  have HHI := Lib.hid (fun (ho : gsetOk p a = true) w' (hb' : Below w.heap.size w w') => l25Hits_any v p w' (h.behind hb') (plnOk_sz (gsetOk_parts ho).1).2.2.1 (plnOk_sz (gsetOk_parts ho).1).2.1)
  have HUA := Lib.hid (fun (ho : gsetOk p a = true) w' (hb' : Below w.heap.size w w') vh (hh : Rd w' vh (nats (hmks p))) => l25Union_any vh va (hmks p) a w' hh (ha.belowAll hb') (fun m hm => Nat.lt_of_lt_of_le (hmks_mem p m hm) (Nat.pow_le_pow_right (by omega) (plnOk_sz (gsetOk_parts ho).1).2.1)) (fun i hi => by unfold hmks; rw [List.length_map]; exact setOk_bd (gsetOk_parts ho).2 hi))
  have HUB := Lib.hid (fun (ho : gsetOk p b = true) w' (hb' : Below w.heap.size w w') vh (hh : Rd w' vh (nats (hmks p))) => l25Union_any vh vb (hmks p) b w' hh (hb.belowAll hb') (fun m hm => Nat.lt_of_lt_of_le (hmks_mem p m hm) (Nat.pow_le_pow_right (by omega) (plnOk_sz (gsetOk_parts ho).1).2.1)) (fun i hi => by unfold hmks; rw [List.length_map]; exact setOk_bd (gsetOk_parts ho).2 hi))
  have HUL := Lib.hid (fun (ho : gsetOk p a = true) gs => show uni (hmks p) gs < 16777216 from le12 (uni_lt (hmks_mem p)) (plnOk_sz (gsetOk_parts ho).1).2.1)
  obtain ⟨u1, u2, u3, rfl, r1, r2, r3, hsm⟩ := h
  have hnet : NetR w (.agg #[u1, u2]) p.n := ⟨u1, u2, rfl, r1, r2, hsm⟩
  obtain ⟨⟨a1, m1, c1, rfl⟩, a2, m2, c2, rfl⟩ := slice_of_net hnet
  obtain ⟨a3, m3, c3, rfl, HN3, -, hm3, ha3⟩ := lgt_opn r3
  have HA := Lib.hid ha3
  obtain ⟨aa, ca, na, -, rfl, -, -, -⟩ := ha.opn
  obtain ⟨ab, cb, nb, -, rfl, -, -, -⟩ := hb.opn
  obtain ⟨bx, bc, blt, -⟩ := box_facts w #[.slice a1 m1 c1, .slice a2 m2 c2, .slice a3 m3 c3] 38
  have q0 := bc 0 _ rfl
  have q1 := bc 1 _ rfl
  have q2 := bc 2 _ rfl
  have HBX := Lib.hid bx
  have HO := Lib.hid (show dsOk p a b = (gsetOk p a && gsetOk p b) from rfl)
  have HRN := Lib.hid (@dsR_no p a b)
  have HRA := Lib.hid (fun (ho : dsOk p a b = true) k hk => @dsR_at p a b ho k hk)
  have HRZ := Lib.hid (@dsR_none p a b)
  have HXB := Lib.hid (fun k hk => @xor_bit p a b k hk)
  rw [HN3.out] at HRA HRZ HXB
  unfold DsP
  generalize dsR p a b = R at *
  generalize dsOk p a b = ok at *
  clear r1 r2 r3 hsm hnet hfb bx bc ha3 ha hb
  go_enter Tryz.func15, Tryz.ntmps15
  go_wp2_with fail
  generalize w.alloc (.cells #[.slice a1 m1 c1, .slice a2 m2 c2, .slice a3 m3 c3] 38) = w1 at *
  have HV1 := Lib.hid (HGA.out w1 HBX.out)
  cases hok : gsetOk p a
  · have HE := Lib.hid (show ok = false by rw [HO.out, hok]; rfl)
    have HR := Lib.hid (HRN.out HE.out)
    rw [hok] at HV1
    clear HGA HGB HHI HUA HUB HUL HRN HRA HRZ HO
    refine HV1.out.mono ?_
    rintro e w2 ⟨rfl, b2⟩
    have HB2 := Lib.hid (HBX.out.trans (b2.mono HBX.out.size))
    clear b2
    go_wp2
    go_ret2
    exact ⟨by rw [HE.out, HR.out]; rfl, HB2.out⟩
  rw [hok] at HV1
  refine HV1.out.mono ?_
  rintro e w2 ⟨rfl, b2⟩
  have e0 := (b2.cell (p := ⟨w.heap.size, 0, none⟩) blt).trans q0
  have e1 := (b2.cell (p := ⟨w.heap.size, 1, none⟩) blt).trans q1
  have e2 := (b2.cell (p := ⟨w.heap.size, 2, none⟩) blt).trans q2
  have HB2 := Lib.hid (HBX.out.trans (b2.mono HBX.out.size))
  have HLT2 := Lib.hid (Nat.lt_of_lt_of_le blt b2.size)
  clear b2 q0 q1 q2
  have HV2 := Lib.hid (HGB.out w2 HB2.out)
  cases hob : gsetOk p b
  · have HE := Lib.hid (show ok = false by rw [HO.out, hok, hob]; rfl)
    have HR := Lib.hid (HRN.out HE.out)
    rw [hob] at HV2
    clear HGA HGB HHI HUA HUB HUL HRN HRA HRZ HO hok hob
    go_wp2_with fail
    refine HV2.out.mono ?_
    rintro e w3 ⟨rfl, b3⟩
    have HB3 := Lib.hid (HB2.out.trans (b3.mono HB2.out.size))
    clear b3
    go_wp2
    go_ret2
    exact ⟨by rw [HE.out, HR.out]; rfl, HB3.out⟩
  have HE := Lib.hid (show ok = true by rw [HO.out, hok, hob]; rfl)
  have HRA1 := Lib.hid (HRA.out HE.out)
  have HRZ1 := Lib.hid (HRZ.out HE.out)
  have HH := Lib.hid (HHI.out hok)
  have HUA1 := Lib.hid (HUA.out hok)
  have HUB1 := Lib.hid (HUB.out hob)
  have HLA := Lib.hid (HUL.out hok a)
  have HLB := Lib.hid (HUL.out hok b)
  have h12 : m3 ≤ 12 := by have := (plnOk_sz (gsetOk_parts hok).1).2.1; have := HN3.out; omega
  have HOA := Lib.hid hok
  rw [hob] at HV2
  clear HGA HGB HHI HUA HUB HUL HRN HRA HRZ HO hok hob
  go_wp2_with fail
  refine HV2.out.mono ?_
  rintro e w3 ⟨rfl, b3⟩
  have f0 := (b3.cell (p := ⟨w.heap.size, 0, none⟩) HLT2.out).trans e0
  have f1 := (b3.cell (p := ⟨w.heap.size, 1, none⟩) HLT2.out).trans e1
  have f2 := (b3.cell (p := ⟨w.heap.size, 2, none⟩) HLT2.out).trans e2
  have HB3 := Lib.hid (HB2.out.trans (b3.mono HB2.out.size))
  have HLT3 := Lib.hid (Nat.lt_of_lt_of_le HLT2.out b3.size)
  clear b3 e0 e1 e2
  go_wp2_with fail
  refine (HH.out w3 HB3.out).mono ?_
  rintro e w4 ⟨v4, rfl, o4, b4⟩
  have g2 := (b4.cell (p := ⟨w.heap.size, 2, none⟩) HLT3.out).trans f2
  have HB4 := Lib.hid (HB3.out.trans (b4.mono HB3.out.size))
  have HU4 := Lib.hid (HUA1.out w4 HB4.out v4 o4.rd)
  have HU5 := Lib.hid (HUB1.out w4 HB4.out v4 o4.rd)
  obtain ⟨a5, c5, n5, -, rfl, -, -, -⟩ := o4.rd.opn
  clear b4 o4 HH HUA1 HUB1 f0 f1 f2
  go_wp2_with fail
  refine HU4.out.mono ?_
  rintro e w5 ⟨rfl, rfl⟩
  go_wp2_with fail
  refine HU5.out.mono ?_
  rintro e w6 ⟨rfl, rfl⟩
  have hxr := bits_xor HLA.out HLB.out
  have HXL := Lib.hid (show uni (hmks p) a ^^^ uni (hmks p) b < 16777216 from xor_lt24 HLA.out HLB.out)
  clear HU4 HU5 HLA HLB
  generalize uni (hmks p) a ^^^ uni (hmks p) b = M at *
  generalize uni (hmks p) a = MA at *
  generalize uni (hmks p) b = MB at *
  go_wp2
  go_loopw [10] (fun i wr => ∃ k : Nat, k ≤ m3 ∧ i = .int .i64 k ∧ Hid (∀ j, j < k → dfr p a b j = false) ∧ wr = w4) (fun i _ => m3 - (intOf i).toNat)
  case atStart => exact ⟨0, Nat.zero_le _, rfl, (fun j hj => absurd hj (Nat.not_lt_zero j)), rfl⟩
  case round =>
    obtain ⟨k, hk, rfl, HK, rfl⟩ := hrel
    by_cases hlt : k < m3
    · have hltI : (k : Int) < (m3 : Int) := by omega
      obtain ⟨b', off, rfl, hbs, hcs⟩ := HA.out (by omega)
      obtain ⟨u, x0, -⟩ := hcs k hlt
      have y0 := (HB4.out.cell (p := ⟨b', off + k * 5, none⟩) hbs).trans x0
      have HAT := Lib.hid (HRA1.out k hlt HK.out)
      have HNX := Lib.hid (fun h => upto_not (P := fun i => dfr p a b i = false) HK.out (k := k) h)
      have HBT := Lib.hid (HXB.out k hlt)
      unfold lgA at HAT
      clear hcs x0
      generalize p.ls[k]?.getD nilL = x at *
      cases htb : M.testBit k
      · have HNX2 := Lib.hid (HNX.out (by show dfr p a b k = false; rw [← HBT.out, htb]))
        have hbt := bit_off HXL.out htb
        clear htb
        go_wp2
        go_roundw
        case rel => exact ⟨k + 1, hlt, by go_num, HNX2.out, trivial⟩
        case measure => simp [intOf]; omega
      · have HR := Lib.hid (HAT.out (by rw [← HBT.out, htb]))
        have hbt := bit_on HXL.out htb
        clear htb
        go_wp2
        go_ret2
        exact ⟨by rw [HE.out, HR.out]; rfl, HB4.out⟩
    · obtain rfl : m3 = k := by omega
      have HR := Lib.hid (HRZ1.out HK.out)
      go_wp2
      go_ret2
      exact ⟨by rw [HE.out, HR.out]; rfl, HB4.out⟩
end Go.Proofs.YtmkkdenhjfjmgaaGreat
