/- Joined: XGod XHit XHis. -/
import Derived.Test.YtmkkdenhjfjmgaaGreatBf10
import Derived.Test.YtmkkdenhjfjmgaaGreatBf07
import Derived.Test.YtmkkdenhjfjmgaaGreatBf05
namespace Go.Proofs.YtmkkdenhjfjmgaaGreat
open Go.RowKit Go.Sort
set_option maxRecDepth 100000

theorem take_any_no {α : Type} {zs : List α} {f : α → Bool} {nil : α} {k : Nat} (h : ∀ j, j < k → f (zs[j]?.getD nil) = false) : (zs.take k).any f = false := by
  rw [List.any_eq_false]
  intro x hx
  obtain ⟨j, hj, rfl⟩ := List.mem_take_iff_getElem.1 hx
  have := h j (by omega)
  rw [List.getElem?_eq_getElem (by omega)] at this
  simpa using this
theorem take_any_yes {α : Type} {zs : List α} {f : α → Bool} {nil : α} {k j : Nat} (hj : j < k) (hl : j < zs.length) (h : f (zs[j]?.getD nil) = true) : (zs.take k).any f = true := by
  rw [List.any_eq_true]
  rw [List.getElem?_eq_getElem hl] at h
  exact ⟨zs[j], List.mem_take_iff_getElem.2 ⟨j, by omega, rfl⟩, h⟩
set_option maxHeartbeats 3200000 in
theorem l9Good_any (v : Value) (p : Pln) (w : World) (h : PlnR w v p) (hfb : ∀ i : Nat, (lgA p i).fb.length ≤ 1100000) :
    Calls Tryz.prog 90 #[v] w fun e w' => e = .returned (.bool (plnOk p)) ∧ Below w.heap.size w w' := by
  obtain ⟨u1, u2, u3, rfl, r1, r2, r3, hsm⟩ := h
  have hnet : NetR w (.agg #[u1, u2]) p.n := ⟨u1, u2, rfl, r1, r2, hsm⟩
  obtain ⟨⟨a1, m1, c1, rfl⟩, a2, m2, c2, rfl⟩ := slice_of_net hnet
  obtain ⟨a3, m3, c3, rfl, HN3, hc3, hm3, ha3⟩ := lgt_opn r3
  have HNV := Lib.hid (fun w' (hb : Below w.heap.size w w') => l2Good_any _ p.n w' (hnet.behind hb))
  have HNE := Lib.hid hnet
  have HA := Lib.hid ha3
  have HR3 := Lib.hid r3
  have HFB := Lib.hid hfb
  have HX1 := Lib.hid (@plnOk_net p)
  have HX2 := Lib.hid (@plnOk_len p)
  have HX3 := Lib.hid (fun i hi h => @plnOk_at p i hi h)
  have HX4 := Lib.hid (@plnOk_all p)
  rw [HN3.out] at HX2 HX3 HX4
  obtain ⟨bx, bc, blt, -⟩ := box_facts w #[.slice a1 m1 c1, .slice a2 m2 c2, .slice a3 m3 c3] 38
  have q0 := bc 0 _ rfl
  have q1 := bc 1 _ rfl
  have q2 := bc 2 _ rfl
  have HBX := Lib.hid bx
  clear bx bc ha3 r1 r2 r3 hsm hnet hfb
  generalize plnOk p = q at *
  go_enter Tryz.func90, Tryz.ntmps90
  go_wp2_with fail
  generalize w.alloc (.cells #[.slice a1 m1 c1, .slice a2 m2 c2, .slice a3 m3 c3] 38) = w1 at *
  have HNV1 := Lib.hid (HNV.out w1 HBX.out)
  cases hok : netOk p.n
  · have HF := Lib.hid (HX1.out hok)
    rw [hok] at HNV1
    refine HNV1.out.mono ?_
    rintro e w2 ⟨rfl, b2⟩
    have HB2 := Lib.hid (HBX.out.trans (b2.mono HBX.out.size))
    clear b2 hok
    go_wp2
    go_ret
    exact ⟨by rw [HF.out]; rfl, HB2.out⟩
  rw [hok] at HNV1
  refine HNV1.out.mono ?_
  rintro e w2 ⟨rfl, b2⟩
  have p2 := (b2.cell blt).trans q2
  have HB2 := Lib.hid b2
  clear b2
  by_cases h12 : m3 ≤ 12
  case neg =>
    have HF := Lib.hid (HX2.out h12)
    have hd : decide (12 < (m3 : Int)) = true := decide_eq_true (by omega)
    have hd2 : decide (12 < m3) = true := decide_eq_true (by omega)
    clear h12
    go_wp2
    go_ret
    exact ⟨by rw [HF.out]; rfl, HBX.out.trans (HB2.out.mono HBX.out.size)⟩
  have hd : decide (12 < (m3 : Int)) = false := decide_eq_false (by omega)
  have hd2 : decide (12 < m3) = false := decide_eq_false (by omega)
  go_wp2
  clear hd hd2
  go_loopw [3, 4] (fun i _ wr => ∃ k : Nat, k ≤ m3 ∧ i = .int .i64 k ∧ Hid (∀ i, i < k → ltOk p i = true) ∧ Hid (Below w1.heap.size w1 wr)) (fun i _ _ => m3 - (intOf i).toNat)
  case atStart => exact ⟨0, Nat.zero_le _, rfl, fun i hi => by omega, HB2.out⟩
  case round =>
    obtain ⟨k, hk, rfl, HK, HB⟩ := hrel
    by_cases hlt : k < m3
    · have hltI : (k : Int) < (m3 : Int) := by omega
      obtain ⟨b, off, rfl, hbs, hcs⟩ := HA.out (by omega)
      have HCS := Lib.hid hcs
      obtain ⟨u, e0, e1, e2, e3, e4, hru⟩ := hcs k hlt
      have BW := HBX.out.trans (HB.out.mono HBX.out.size)
      have HBW := Lib.hid BW
      have x0 := (BW.cell (p := ⟨b, off + k * 5, none⟩) hbs).trans e0
      have x1 := (BW.cell (p := ⟨b, off + k * 5 + 1, none⟩) hbs).trans e1
      have x2 := (BW.cell (p := ⟨b, off + k * 5 + 2, none⟩) hbs).trans e2
      have x3 := (BW.cell (p := ⟨b, off + k * 5 + 3, none⟩) hbs).trans e3
      have x4 := (BW.cell (p := ⟨b, off + k * 5 + 4, none⟩) hbs).trans e4
      have p0 := (HB.out.cell (p := ⟨w.heap.size, 0, none⟩) blt).trans q0
      have p1 := (HB.out.cell (p := ⟨w.heap.size, 1, none⟩) blt).trans q1
      have p2 := (HB.out.cell (p := ⟨w.heap.size, 2, none⟩) blt).trans q2
      have HRU := Lib.hid hru
      obtain ⟨au, cu, nu, -, rfl, -, -, -⟩ := hru.opn
      have HV := Lib.hid (show ltOk p k = (lgtOk p.n (p.ls[k]?.getD nilL) && (!(decide (0 < k) && decide ((p.ls[k]?.getD nilL).id ≤ (p.ls[k - 1]?.getD nilL).id)) && !((p.ls.take k).any fun y => collB y (p.ls[k]?.getD nilL)))) from rfl)
      have HNO := Lib.hid (HX3.out k hlt)
      have HST := Lib.hid (fun h => upto_succ HK.out (k := k) h)
      have HFK := Lib.hid (show (p.ls[k]?.getD nilL).fb.length ≤ 1100000 from HFB.out k)
      have HXC := Lib.hid (And.intro e0 (And.intro e1 (And.intro e2 (And.intro e3 e4))))
      clear hcs e0 e1 e2 e3 e4 BW hru
      generalize p.ls[k]?.getD nilL = l at *
      have HIL := Lib.hid (fun wx (hb : Below w.heap.size w wx) => l9Light_any (.slice a1 m1 c1) (.slice a2 m2 c2) (.slice au nu cu) p.n l wx (HNE.out.behind hb) hok (HRU.out.belowAll hb) HFK.out)
      cases hlo : lgtOk p.n l
      · have HF := Lib.hid (HNO.out (by rw [HV.out, hlo]; rfl))
        rw [hlo] at HIL
        go_wp2
        have j0 := rg p0
        have j1 := rg p1
        have j2 := rg p2
        have k0 := rg x0
        have k1 := rg x1
        have k2 := rg x2
        have k3 := rg x3
        have k4 := rg x4
        have HIL2 := Lib.hid (fun d os => HIL.out (grow (redrawn wr d) os) (HBW.out.trans ((below_regrown wr d os).mono HBW.out.size)))
        clear x0 x1 x2 x3 x4 p0 p1 p2
        refine wp_region_quiet_below (by kernel_rfl) (by kernel_rfl) ?_
        repeat (go_big_quiet_step (first | (go_at_call 140; exact Calls.regrown_of (HIL2.out _ _))))
        refine wpQuiet_nil ?_
        rintro _ ⟨⟨dq, osq⟩, rfl⟩
        go_wp2
        go_ret
        exact ⟨by rw [HF.out]; rfl, HBW.out.trans ((below_regrown _ dq osq).mono HBW.out.size)⟩
      have hbl : blkOk l.fi l.ct = true := by unfold lgtOk at hlo; simp only [Bool.and_eq_true] at hlo; exact hlo.2
      rw [hlo] at HIL HV
      have HNY := Lib.hid (fun h => take_any_no (zs := p.ls) (f := fun y => collB y l) (nil := nilL) (k := k) h)
      have HYY := Lib.hid (fun j h1 h2 h3 => take_any_yes (zs := p.ls) (f := fun y => collB y l) (nil := nilL) (k := k) (j := j) h1 h2 h3)
      clear hlo
      by_cases hk0 : k = 0
      · have hk0b : decide (0 < k) = false := decide_eq_false (by omega)
        have hk0c : decide (0 < (k : Int)) = false := decide_eq_false (by omega)
        have hv := HV.out
        rw [hk0b] at hv
        have HV2 := Lib.hid (show ltOk p k = !((p.ls.take k).any fun y => collB y l) by rw [hv]; rfl)
        clear hk0 hv HV
        go_wp2
        have j0 := rg p0
        have j1 := rg p1
        have j2 := rg p2
        have k0 := rg x0
        have k1 := rg x1
        have k2 := rg x2
        have k3 := rg x3
        have k4 := rg x4
        have HIL2 := Lib.hid (fun d os => HIL.out (grow (redrawn wr d) os) (HBW.out.trans ((below_regrown wr d os).mono HBW.out.size)))
        clear x0 x1 x2 x3 x4 p0 p1 p2
        refine wp_region_quiet_below (by kernel_rfl) (by kernel_rfl) ?_
        repeat (go_big_quiet_step (first | (go_at_call 140; exact Calls.regrown_of (HIL2.out _ _))))
        refine wpQuiet_nil ?_
        rintro _ ⟨⟨dq, osq⟩, rfl⟩
        have bq := below_regrown wr dq osq
        have HBQ := Lib.hid (HB.out.trans (bq.mono HB.out.size))
        generalize grow (redrawn wr dq) osq = w4 at *
        clear bq j0 j1 j2 k0 k1 k2 k3 k4
        go_wp2
        go_loopw [4] (fun i wi => ∃ j : Nat, j ≤ k ∧ i = .int .i64 j ∧ Hid (∀ i, i < j → collB (p.ls[i]?.getD nilL) l = false) ∧ Hid (Below w1.heap.size w1 wi)) (fun i _ => k - (intOf i).toNat)
        case atStart => exact ⟨0, Nat.zero_le _, rfl, fun i hi => by omega, HBQ.out⟩
        case round =>
          obtain ⟨j, hj, rfl, HJ, HBJ⟩ := hrel
          by_cases hjt : j < k
          · have hjI : (j : Int) < (k : Int) := by omega
            have hjm : j < m3 := by omega
            have hjmI : (j : Int) < (m3 : Int) := by omega
            obtain ⟨uj, e0, e1, e2, e3, e4, hrj⟩ := HCS.out j hjm
            obtain ⟨g0, g1, g2, g3, g4⟩ := HXC.out
            have BJ := HBX.out.trans (HBJ.out.mono HBX.out.size)
            have e0 := rg ((BJ.cell (p := ⟨b, off + j * 5, none⟩) hbs).trans e0)
            have e1 := rg ((BJ.cell (p := ⟨b, off + j * 5 + 1, none⟩) hbs).trans e1)
            have e2 := rg ((BJ.cell (p := ⟨b, off + j * 5 + 2, none⟩) hbs).trans e2)
            have e3 := rg ((BJ.cell (p := ⟨b, off + j * 5 + 3, none⟩) hbs).trans e3)
            have e4 := rg ((BJ.cell (p := ⟨b, off + j * 5 + 4, none⟩) hbs).trans e4)
            have g0 := rg ((BJ.cell (p := ⟨b, off + k * 5, none⟩) hbs).trans g0)
            have g1 := rg ((BJ.cell (p := ⟨b, off + k * 5 + 1, none⟩) hbs).trans g1)
            have g2 := rg ((BJ.cell (p := ⟨b, off + k * 5 + 2, none⟩) hbs).trans g2)
            have g3 := rg ((BJ.cell (p := ⟨b, off + k * 5 + 3, none⟩) hbs).trans g3)
            have g4 := rg ((BJ.cell (p := ⟨b, off + k * 5 + 4, none⟩) hbs).trans g4)
            have p2 := rg ((HBJ.out.cell (p := ⟨w.heap.size, 2, none⟩) blt).trans q2)
            have HBJW := Lib.hid BJ
            have HCO := Lib.hid (fun d os => l9Collide_any uj (.slice au nu cu) (p.ls[j]?.getD nilL) l (grow (redrawn wr d) os) (hrj.belowAll (HBJW.out.trans ((below_regrown wr d os).mono HBJW.out.size))) (HRU.out.belowAll (HBJW.out.trans ((below_regrown wr d os).mono HBJW.out.size))) (ltOk_blk (HK.out j hjt)) hbl (HFB.out j))
            have HJS := Lib.hid (fun (h : collB (p.ls[j]?.getD nilL) l = false) => show ∀ i, i < j + 1 → collB (p.ls[i]?.getD nilL) l = false from fun i hi => by
              rcases Nat.lt_or_ge i j with e | e
              · exact HJ.out i e
              · have : i = j := by omega
                rw [this]; exact h)
            have HYJ := Lib.hid (HYY.out j hjt (by rw [HN3.out]; exact hjm))
            obtain ⟨aj, cj, nj, -, rfl, -, -, -⟩ := hrj.opn
            clear hrj BJ
            generalize p.ls[j]?.getD nilL = z at *
            generalize collB z l = co at *
            cases co
            · have HS := Lib.hid (HJS.out rfl)
              go_wp2
              refine wp_region_quiet_below (by kernel_rfl) (by kernel_rfl) ?_
              repeat (go_big_quiet_step (first | (go_at_call 141; exact Calls.regrown_of (HCO.out _ _))))
              refine wpQuiet_nil ?_
              rintro _ ⟨⟨dr, osr⟩, rfl⟩
              go_wp2
              go_roundw
              case rel => exact ⟨j + 1, hjt, by go_num, HS.out, HBJ.out.trans ((below_regrown wr dr osr).mono HBJ.out.size)⟩
              case measure => simp [intOf]; omega
            · have HF := Lib.hid (HNO.out (by rw [HV2.out, HYJ.out rfl]; rfl))
              go_wp2
              refine wp_region_quiet_below (by kernel_rfl) (by kernel_rfl) ?_
              repeat (go_big_quiet_step (first | (go_at_call 141; exact Calls.regrown_of (HCO.out _ _))))
              refine wpQuiet_nil ?_
              rintro _ ⟨⟨dr, osr⟩, rfl⟩
              go_wp2
              go_ret
              exact ⟨by rw [HF.out]; rfl, HBX.out.trans ((HBJ.out.trans ((below_regrown wr dr osr).mono HBJ.out.size)).mono HBX.out.size)⟩
          · obtain rfl : k = j := by omega
            have HS := Lib.hid (HST.out (by rw [HV2.out, HNY.out HJ.out]; rfl))
            go_wp2
            go_roundw
            case rel => exact ⟨k + 1, hlt, by go_num, HS.out, HBJ.out⟩
            case measure => simp [intOf]; omega
      · obtain ⟨k', hk'⟩ : ∃ k', k = k' + 1 := ⟨k - 1, by omega⟩
        have hkk : k - 1 = k' := by omega
        have hk0b : decide (0 < k) = true := decide_eq_true (by omega)
        have hk0c : decide (0 < (k : Int)) = true := decide_eq_true (by omega)
        have hkp : (0 : Int) < (k : Int) := by omega
        have f1w : IntKind.i64.wrap ((k : Int) - 1) = (k' : Int) := by rw [IntWalk.i64_in _ (by omega)]; omega
        have f2w : (k' : Int) < (m3 : Int) := by omega
        have f3w : k' < m3 := by omega
        obtain ⟨u', t0, -, -, -, -, -⟩ := HCS.out k' f3w
        have t0 := (HBW.out.cell (p := ⟨b, off + k' * 5, none⟩) hbs).trans t0
        have hv := HV.out
        rw [hkk, hk0b] at hv
        generalize hpid : (p.ls[k']?.getD nilL).id = pid at *
        have HV1 := Lib.hid hv
        clear hk0 hv HV hk' hkk hpid
        cases hge : decide (l.id ≤ pid)
        case true =>
          have HF := Lib.hid (HNO.out (by rw [HV1.out, hge]; rfl))
          clear HV1 HST HNO
          go_wp2
          have j0 := rg p0
          have j1 := rg p1
          have j2 := rg p2
          have k0 := rg x0
          have k1 := rg x1
          have k2 := rg x2
          have k3 := rg x3
          have k4 := rg x4
          have jt := rg t0
          have HIL2 := Lib.hid (fun d os => HIL.out (grow (redrawn wr d) os) (HBW.out.trans ((below_regrown wr d os).mono HBW.out.size)))
          clear x0 x1 x2 x3 x4 p0 p1 p2
          refine wp_region_quiet_below (by kernel_rfl) (by kernel_rfl) ?_
          repeat (go_big_quiet_step (first | (go_at_call 140; exact Calls.regrown_of (HIL2.out _ _))))
          refine wpQuiet_nil ?_
          rintro _ ⟨⟨dq, osq⟩, rfl⟩
          have bq := below_regrown wr dq osq
          have HBQ := Lib.hid (HB.out.trans (bq.mono HB.out.size))
          generalize grow (redrawn wr dq) osq = w4 at *
          clear bq j0 j1 j2 k0 k1 k2 k3 k4
          go_wp2
          go_ret
          exact ⟨by rw [HF.out]; rfl, HBX.out.trans (HBQ.out.mono HBX.out.size)⟩
        have HV2 := Lib.hid (show ltOk p k = !((p.ls.take k).any fun y => collB y l) by rw [HV1.out, hge]; rfl)
        clear HV1
        go_wp2
        have j0 := rg p0
        have j1 := rg p1
        have j2 := rg p2
        have k0 := rg x0
        have k1 := rg x1
        have k2 := rg x2
        have k3 := rg x3
        have k4 := rg x4
        have jt := rg t0
        have HIL2 := Lib.hid (fun d os => HIL.out (grow (redrawn wr d) os) (HBW.out.trans ((below_regrown wr d os).mono HBW.out.size)))
        clear x0 x1 x2 x3 x4 p0 p1 p2
        refine wp_region_quiet_below (by kernel_rfl) (by kernel_rfl) ?_
        repeat (go_big_quiet_step (first | (go_at_call 140; exact Calls.regrown_of (HIL2.out _ _))))
        refine wpQuiet_nil ?_
        rintro _ ⟨⟨dq, osq⟩, rfl⟩
        have bq := below_regrown wr dq osq
        have HBQ := Lib.hid (HB.out.trans (bq.mono HB.out.size))
        generalize grow (redrawn wr dq) osq = w4 at *
        clear bq j0 j1 j2 k0 k1 k2 k3 k4
        go_wp2
        go_loopw [4] (fun i wi => ∃ j : Nat, j ≤ k ∧ i = .int .i64 j ∧ Hid (∀ i, i < j → collB (p.ls[i]?.getD nilL) l = false) ∧ Hid (Below w1.heap.size w1 wi)) (fun i _ => k - (intOf i).toNat)
        case atStart => exact ⟨0, Nat.zero_le _, rfl, fun i hi => by omega, HBQ.out⟩
        case round =>
          obtain ⟨j, hj, rfl, HJ, HBJ⟩ := hrel
          by_cases hjt : j < k
          · have hjI : (j : Int) < (k : Int) := by omega
            have hjm : j < m3 := by omega
            have hjmI : (j : Int) < (m3 : Int) := by omega
            obtain ⟨uj, e0, e1, e2, e3, e4, hrj⟩ := HCS.out j hjm
            obtain ⟨g0, g1, g2, g3, g4⟩ := HXC.out
            have BJ := HBX.out.trans (HBJ.out.mono HBX.out.size)
            have e0 := rg ((BJ.cell (p := ⟨b, off + j * 5, none⟩) hbs).trans e0)
            have e1 := rg ((BJ.cell (p := ⟨b, off + j * 5 + 1, none⟩) hbs).trans e1)
            have e2 := rg ((BJ.cell (p := ⟨b, off + j * 5 + 2, none⟩) hbs).trans e2)
            have e3 := rg ((BJ.cell (p := ⟨b, off + j * 5 + 3, none⟩) hbs).trans e3)
            have e4 := rg ((BJ.cell (p := ⟨b, off + j * 5 + 4, none⟩) hbs).trans e4)
            have g0 := rg ((BJ.cell (p := ⟨b, off + k * 5, none⟩) hbs).trans g0)
            have g1 := rg ((BJ.cell (p := ⟨b, off + k * 5 + 1, none⟩) hbs).trans g1)
            have g2 := rg ((BJ.cell (p := ⟨b, off + k * 5 + 2, none⟩) hbs).trans g2)
            have g3 := rg ((BJ.cell (p := ⟨b, off + k * 5 + 3, none⟩) hbs).trans g3)
            have g4 := rg ((BJ.cell (p := ⟨b, off + k * 5 + 4, none⟩) hbs).trans g4)
            have p2 := rg ((HBJ.out.cell (p := ⟨w.heap.size, 2, none⟩) blt).trans q2)
            have HBJW := Lib.hid BJ
            have HCO := Lib.hid (fun d os => l9Collide_any uj (.slice au nu cu) (p.ls[j]?.getD nilL) l (grow (redrawn wr d) os) (hrj.belowAll (HBJW.out.trans ((below_regrown wr d os).mono HBJW.out.size))) (HRU.out.belowAll (HBJW.out.trans ((below_regrown wr d os).mono HBJW.out.size))) (ltOk_blk (HK.out j hjt)) hbl (HFB.out j))
            have HJS := Lib.hid (fun (h : collB (p.ls[j]?.getD nilL) l = false) => show ∀ i, i < j + 1 → collB (p.ls[i]?.getD nilL) l = false from fun i hi => by
              rcases Nat.lt_or_ge i j with e | e
              · exact HJ.out i e
              · have : i = j := by omega
                rw [this]; exact h)
            have HYJ := Lib.hid (HYY.out j hjt (by rw [HN3.out]; exact hjm))
            obtain ⟨aj, cj, nj, -, rfl, -, -, -⟩ := hrj.opn
            clear hrj BJ
            generalize p.ls[j]?.getD nilL = z at *
            generalize collB z l = co at *
            cases co
            · have HS := Lib.hid (HJS.out rfl)
              go_wp2
              refine wp_region_quiet_below (by kernel_rfl) (by kernel_rfl) ?_
              repeat (go_big_quiet_step (first | (go_at_call 141; exact Calls.regrown_of (HCO.out _ _))))
              refine wpQuiet_nil ?_
              rintro _ ⟨⟨dr, osr⟩, rfl⟩
              go_wp2
              go_roundw
              case rel => exact ⟨j + 1, hjt, by go_num, HS.out, HBJ.out.trans ((below_regrown wr dr osr).mono HBJ.out.size)⟩
              case measure => simp [intOf]; omega
            · have HF := Lib.hid (HNO.out (by rw [HV2.out, HYJ.out rfl]; rfl))
              go_wp2
              refine wp_region_quiet_below (by kernel_rfl) (by kernel_rfl) ?_
              repeat (go_big_quiet_step (first | (go_at_call 141; exact Calls.regrown_of (HCO.out _ _))))
              refine wpQuiet_nil ?_
              rintro _ ⟨⟨dr, osr⟩, rfl⟩
              go_wp2
              go_ret
              exact ⟨by rw [HF.out]; rfl, HBX.out.trans ((HBJ.out.trans ((below_regrown wr dr osr).mono HBJ.out.size)).mono HBX.out.size)⟩
          · obtain rfl : k = j := by omega
            have HS := Lib.hid (HST.out (by rw [HV2.out, HNY.out HJ.out]; rfl))
            go_wp2
            go_roundw
            case rel => exact ⟨k + 1, hlt, by go_num, HS.out, HBJ.out⟩
            case measure => simp [intOf]; omega
    · obtain rfl : m3 = k := by omega
      have p2 := (HB.out.cell (p := ⟨w.heap.size, 2, none⟩) blt).trans q2
      have HE := Lib.hid (HX4.out hok h12 HK.out)
      go_wp2
      go_ret
      exact ⟨by rw [HE.out]; rfl, HBX.out.trans (HB.out.mono HBX.out.size)⟩
end Go.Proofs.YtmkkdenhjfjmgaaGreat
namespace Go.Proofs.YtmkkdenhjfjmgaaGreat
open Go.RowKit Go.Sort
set_option maxRecDepth 100000

theorem rowF {w : World} {base n : Nat} {T : TypeId} {v : Value} {us : List Value} {m : Nat} (h : w.ownsRow base T m v n us) : ∃ a c, v = .slice a n c := by
  rcases h.2 with ⟨rfl, rfl⟩ | ⟨g, cap, cur, rfl, _⟩
  · exact ⟨none, 0, rfl⟩
  · exact ⟨_, cap, rfl⟩
theorem rowB {w w' : World} {base n : Nat} {T : TypeId} {v : Value} {us : List Value} {m : Nat} (h : w.ownsRow base T m v n us) (hb : Below w.heap.size w w') : w'.ownsRow base T m v n us := by
  refine ⟨h.1, ?_⟩
  rcases h.2 with q | ⟨g, cap, cur, rfl, q1, q2, q3⟩
  · exact .inl q
  · exact .inr ⟨g, cap, cur, rfl, q1, by rw [hb.block g (Array.getElem?_eq_some_iff.1 q2).1]; exact q2, q3⟩
/-- Append of integers that are there: where the result lies. -/
theorem wpList_catP {P : Program} {ops : Array Oper} {rest : List Oper} {o : Oper} {a : Act} {Q : Exit → Act → World → Prop} {w : World} (hgd : o.guard = none) (s x : Operand) (T : TypeId)
    (ho : o.op = .call { callee := .builtin .append, args := #[s, x], argTypes := #[T, T] }) (ht : P.underlying T = some (.slice 3))
    (hinfo : (P.info? 3).map (fun i => (i.zero, i.size, i.bytes)) = some (some (.int .i64 0), 1, 8))
    (base : Nat) (v : Value) (n : Nat) (xs : List Int) (hs : a.eval s = v) (hown : w.ownsRow base 3 1 v n (ints xs))
    (b off m c : Nat) (ys : List Int) (hx : a.eval x = .slice (some ⟨b, off, none⟩) m c) (hm : ys.length = m) (hm0 : 0 < m) (hc : ∀ j, j < m → w.cell? ⟨b, off + j, none⟩ = some (.int .i64 (ys[j]?.getD 0))) (hn : n + m ≤ 1000000) (hbase : base ≤ w.heap.size)
    (h : ∀ v' w', w'.ownsRow base 3 1 v' (n + m) (ints (xs ++ ys)) → w.grownBy w' v.ownBlock → (∀ g, v'.ownBlock = some g → v.ownBlock = some g ∨ w.heap.size ≤ g) → wpList P ops Q rest (a.put o.dst v') w') :
    wpList P ops Q (o :: rest) a w := by
  obtain ⟨i0, hi, hz0, hz1, hz2⟩ := info_parts hinfo
  refine wpList_append_lies _ hgd s x T ho base 3 i0 (.int .i64 0) 1 8 ht hi hz0 hz1 hz2 rfl (by decide) v n (ints xs) hs hown ⟨b, off, none⟩ m c (ints ys) hx (by simpa using hm) ?_ (ints_oneCell _ _) hm0 (by unfold maxLen; omega) (by omega) hbase _ rfl ?_
  · intro j u hu
    have hj : j < ys.length := by have := (List.getElem?_eq_some_iff.1 hu).1; simpa using this
    have e : (⟨b, off, none⟩ : Addr).add j = ⟨b, off + j, none⟩ := by unfold Addr.add; split <;> simp_all
    rw [e, hc j (by omega), ← hu]
    simp [hj]
  · intro g cap w' g1 g2 g3 _
    refine h _ w' (by simpa [ints] using g1) g2 fun k hk => ?_
    have : g = k := by simpa [Value.ownBlock] using hk
    subst this
    rcases g3 with e | e
    · exact .inl e
    · exact .inr (by omega)
theorem gA_pos (n : Net) (g : Nat) : ∀ G ∈ gA n g, 0 < G.length := by
  induction g with
  | zero => simp [gA]
  | succ g ih =>
    intro G hG
    unfold gA at hG
    split at hG
    · exact ih G hG
    · rename_i h0
      rcases List.mem_append.1 hG with h | h
      · exact ih G h
      · rw [List.mem_singleton.1 h]; exact Nat.pos_of_ne_zero h0
theorem gS_pos (n : Net) (k : Nat) : ∀ G ∈ gS n k, 0 < G.length := by
  induction k with
  | zero => simp [gS]
  | succ k ih =>
    intro G hG
    unfold gS at hG
    split at hG
    · rcases List.mem_append.1 hG with h | h
      · exact ih G h
      · rw [List.mem_singleton.1 h]; simp
    · exact ih G hG
theorem grA_pos {n : Net} {g : Int} (h0 : 0 ≤ g) (h1 : g < (grps n).length) : 0 < (grA n g).length := by
  unfold grA
  have h : g.toNat < (grps n).length := by omega
  rw [List.getElem?_eq_getElem h, Option.getD_some]
  have hm : (grps n)[g.toNat] ∈ gA n 9 ++ gS n n.fs.length := List.getElem_mem h
  rcases List.mem_append.1 hm with q | q
  · exact gA_pos n 9 _ q
  · exact gS_pos n _ _ q
theorem Ofr.kept {w w' : World} {base : Nat} {d : Dt} {v : Value} (h : Ofr w base d v) (hk : ∀ g, base ≤ g → g < w.heap.size → w'.heap[g]? = w.heap[g]?) : Ofr w' base d v := by
  obtain ⟨fp, h1, h2, h3⟩ := h
  exact ⟨fp, h1.kept fun b hb => hk b (h3 b hb) (h1.lt b hb), h2, h3⟩
theorem ssD_row {w : World} {v : Value} {xss : List (List Int)} {a : Option Addr} {n cap : Nat} (h : Rdt w (ssD xss) v) (hv : v = .slice a n cap) {i : Nat} (hi : i < n) :
    ∃ b off u, a = some ⟨b, off, none⟩ ∧ w.cell? ⟨b, off + i, none⟩ = some u ∧ Rd w u (xss[i]?.getD []) := by
  obtain ⟨a', n', cap', e, HN, h1, h2, h3⟩ := ssD_opn h
  rw [hv] at e
  simp only [Value.slice.injEq] at e
  obtain ⟨rfl, rfl, rfl⟩ := e
  obtain ⟨b, off, rfl, _, hc⟩ := h3 (by omega)
  obtain ⟨u, k1, k2⟩ := hc i hi
  exact ⟨b, off, u, rfl, k1, k2⟩

theorem row_lt {w : World} {base n : Nat} {T : TypeId} {v : Value} {us : List Value} {m : Nat} (h : w.ownsRow base T m v n us) : ∀ g, v.ownBlock = some g → base ≤ g ∧ g < w.heap.size := fun g hg => h.lt g hg
theorem keep5 {w3 wr w5 : World} {v v5 : Value} {c : Nat} (h : w3.heap.size ≤ wr.heap.size ∧ (∀ g, v.ownBlock = some g → g = c + 1 ∨ w3.heap.size ≤ g) ∧ ∀ g, c + 2 ≤ g → g < w3.heap.size → wr.heap[g]? = w3.heap[g]?)
    (hg : wr.grownBy w5 v.ownBlock) (hl : ∀ g, v5.ownBlock = some g → v.ownBlock = some g ∨ wr.heap.size ≤ g) :
    w3.heap.size ≤ w5.heap.size ∧ (∀ g, v5.ownBlock = some g → g = c + 1 ∨ w3.heap.size ≤ g) ∧ ∀ g, c + 2 ≤ g → g < w3.heap.size → w5.heap[g]? = w3.heap[g]? := by
  obtain ⟨h1, h2, h3⟩ := h
  refine ⟨Nat.le_trans h1 hg.size, fun g hv => ?_, fun g k1 k2 => ?_⟩
  · rcases hl g hv with e | e
    · exact h2 g e
    · exact .inr (Nat.le_trans h1 e)
  · rw [hg.block g (Nat.lt_of_lt_of_le k2 h1) (fun e => by rcases h2 g e.symm with q | q <;> omega), h3 g k1 k2]

set_option maxHeartbeats 3200000 in
theorem fibersOf_any (u1 u2 vg : Value) (n : Net) (gs : List Int) (w : World) (h : NetR w (.agg #[u1, u2]) n) (hv : Rd w vg gs) (hl : n.fs.length ≤ 14)
    (hgs : ∀ i : Nat, i < gs.length → 0 ≤ gs[i]?.getD 0 ∧ gs[i]?.getD 0 < (grps n).length) (hgl : gs.length ≤ 10000) :
    Calls Tryz.prog 111 #[.agg #[u1, u2], vg] w fun e w' => ∃ v', e = .returned v' ∧ Own w' w.heap.size v' (fof n gs) ∧ Below w.heap.size w w' := by
  have HGG := Lib.hid (fun w' (hb : Below w.heap.size w w') => groups_any u1 u2 n w' (h.behind hb) (by omega))
  obtain ⟨⟨a1, m1, c1, rfl⟩, a2, m2, c2, rfl⟩ := slice_of_net h
  obtain ⟨a, ca, k0, HN, rfl, _, hn, hca⟩ := hv.opn
  have HA := Lib.hid hca
  have HGS := Lib.hid hgs
  have HFL := Lib.hid (fun k => Nat.le_trans (fof_len n gs k) (Nat.mul_le_mul_left k (show n.fs.length + 1 ≤ 15 by omega)))
  have HFT := Lib.hid (fun k hk => @fof_take n gs k hk)
  have HAL := Lib.hid (fun g => Nat.le_trans (grA_len n g) (show n.fs.length + 1 ≤ 15 by omega))
  have HFN := Lib.hid (show fof n (gs.take k0) = fof n gs by rw [List.take_of_length_le (Nat.le_of_eq HN.out)])
  have hk10 : k0 ≤ 10000 := by have := HN.out; omega
  rw [HN.out] at HGS HFT
  clear hca hv h hl hgs hgl
  obtain ⟨bx, bc, blt, -⟩ := box_facts w #[.slice a1 m1 c1, .slice a2 m2 c2] 35
  have q0 := bc 0 _ rfl
  have q1 := bc 1 _ rfl
  have HBX := Lib.hid bx
  have hs1 : (w.alloc (.cells #[.slice a1 m1 c1, .slice a2 m2 c2] 35)).heap.size = w.heap.size + 1 := by simp
  have HR0 := Lib.hid (show ((w.alloc (.cells #[.slice a1 m1 c1, .slice a2 m2 c2] 35)).alloc (.cells #[] 3)).ownsRow w.heap.size 3 1 (.slice (some ⟨w.heap.size + 1, 0, none⟩) 0 0) 0 (ints []) by rw [← hs1]; exact World.ownsRow_made _ #[] 0 bx.size (Nat.zero_le _) (by simp))
  have HB0 := Lib.hid (bx.alloc bx.size (.cells #[] 3))
  have q0' := ((Below.refl _ _).alloc (Nat.le_refl _) (.cells #[] 3)).cell (p := ⟨w.heap.size, 0, none⟩) blt
  have q1' := ((Below.refl _ _).alloc (Nat.le_refl _) (.cells #[] 3)).cell (p := ⟨w.heap.size, 1, none⟩) blt
  rw [q0] at q0'
  rw [q1] at q1'
  clear bx bc hs1 q0 q1
  go_enter Tryz.func111, Tryz.ntmps111
  go_wp2_with fail
  generalize hww : (w.alloc (.cells #[.slice a1 m1 c1, .slice a2 m2 c2] 35)).alloc (.cells #[] 3) = w2 at *
  refine (HGG.out w2 HB0.out).mono ?_
  rintro e w3 ⟨vr, rfl, or, b3⟩
  obtain ⟨ar, nr, cr, rfl, HNR, hcr, hnr, har⟩ := ssD_opn or.rd
  have HB3 := Lib.hid (HB0.out.trans (b3.mono HB0.out.size))
  have HR3 := Lib.hid (rowB HR0.out b3)
  have HGA := Lib.hid (show ∀ g : Int, grA n g = (grps n)[g.toNat]?.getD [] from fun _ => rfl)
  have HGP := Lib.hid (fun g h0 h1 => @grA_pos n g h0 h1)
  rw [HNR.out] at HGS HGP
  have hs2 : w2.heap.size = w.heap.size + 2 := by rw [← hww]; simp
  have HOR := Lib.hid (fun wx (hk : ∀ g, w.heap.size + 2 ≤ g → g < w3.heap.size → wx.heap[g]? = w3.heap[g]?) i hi => ssD_row (i := i) ((or.kept (w' := wx) (fun g h1 h2 => hk g (by omega) h2)).rd) rfl hi)
  have HS3 := Lib.hid (show w.heap.size + 2 ≤ w3.heap.size by have := b3.size; omega)
  clear b3 or har HR0 HB0 HGG hs2 hww
  generalize grps n = R at *
  go_wp2
  go_loopw [5, 8, 14] (fun s5 _ i wr => ∃ (k m : Nat) (a5 : Option Addr) (c5 : Nat), k ≤ k0 ∧ i = .int .i64 k ∧ s5 = .slice a5 m c5 ∧ m ≤ k * 15 ∧ Hid (wr.ownsRow w.heap.size 3 1 (.slice a5 m c5) m (ints (fof n (gs.take k)))) ∧ Hid (Below w.heap.size w wr) ∧ Hid (w3.heap.size ≤ wr.heap.size ∧ (∀ g, (Value.slice a5 m c5).ownBlock = some g → g = w.heap.size + 1 ∨ w3.heap.size ≤ g) ∧ ∀ g, w.heap.size + 2 ≤ g → g < w3.heap.size → wr.heap[g]? = w3.heap[g]?)) (fun _ _ i _ => k0 - (intOf i).toNat)
  case atStart => exact ⟨0, 0, _, _, Nat.zero_le _, rfl, rfl, Nat.zero_le _, HR3.out, HB3.out, Nat.le_refl _, (fun g hg => .inl (by simpa [Value.ownBlock] using hg.symm)), fun _ _ _ => rfl⟩
  case round =>
    obtain ⟨k, m, a5, c5, hk, rfl, rfl, hm, HO, HB, HK⟩ := hrel
    by_cases hlt : k < k0
    · have hltI : (k : Int) < (k0 : Int) := by omega
      obtain ⟨b, off, rfl, hbs, hcs⟩ := HA.out (by omega)
      have c0 := (HB.out.cell (p := ⟨b, off + k, none⟩) hbs).trans (hcs k hlt)
      have HT := Lib.hid (HFT.out k hlt)
      have hgb := HGS.out k hlt
      have HGP1 := Lib.hid (HGP.out (gs[k]?.getD 0) hgb.1 (by omega))
      have HGL := Lib.hid (HAL.out (gs[k]?.getD 0))
      have HGA1 := Lib.hid (HGA.out (gs[k]?.getD 0))
      clear hcs
      generalize gs[k]?.getD 0 = g at *
      obtain ⟨gn, rfl⟩ : ∃ gn : Nat, g = (gn : Int) := ⟨g.toNat, by omega⟩
      have hgn : gn < nr := by omega
      have hgnI : (gn : Int) < (nr : Int) := by omega
      obtain ⟨br, offr, ur, rfl, hu, hru⟩ := HOR.out wr HK.out.2.2 gn hgn
      rw [← (show grA n (gn : Int) = R[gn]?.getD [] from by rw [HGA1.out]; rfl)] at hru
      obtain ⟨ag, cg, mg, HMG, rfl, hcg, hmg, hag⟩ := hru.opn
      have hmg0 : 0 < mg := by have := HGP1.out; have := HMG.out; omega
      have hmg15 : mg ≤ 15 := by have := HGL.out; have := HMG.out; omega
      obtain ⟨bg, og, rfl, hbg, hcg2⟩ := hag hmg0
      have HCG := Lib.hid hcg2
      clear hru hag hcg2 HGP1 HGL HGA1
      generalize grA n (gn : Int) = G at *
      generalize fof n (gs.take k) = out at *
      go_wp2_with (at_builtin; go_loud (refine wpList_catP rfl (.tmp 18) (.tmp 22) 29 rfl Tryz.underlying29 Tryz.infoI w.heap.size _ m out rfl HO.out bg og mg cg G rfl HMG.out hmg0 HCG.out (by omega) HB.out.size ?_); intro v5 w5 o5 g5 l5; obtain ⟨a6, c6, rfl⟩ := rowF o5; have HO5 := Lib.hid o5; have HB5 := Lib.hid (HB.out.grown g5 HB.out.size (fun q hq => ((row_lt HO.out q hq).1))); have HK5 := Lib.hid (keep5 HK.out g5 l5); clear o5 g5 l5)
      go_roundw
      case rel => exact ⟨k + 1, m + mg, _, _, hlt, by go_num, rfl, by omega, by rw [HT.out]; exact HO5.out, HB5.out, HK5.out⟩
      case measure => simp [intOf]; omega
    · obtain rfl : k0 = k := by omega
      have HE := Lib.hid HFN.out
      generalize fof n (gs.take k0) = out at *
      go_wp2
      go_ret
      exact ⟨_, rfl, by rw [← HE.out]; exact own_of_row HO.out, HB.out⟩

theorem keepB {w3 wr w5 : World} {c : Nat} {v : Value} (h : w3.heap.size ≤ wr.heap.size ∧ (∀ g, v.ownBlock = some g → g = c + 1 ∨ w3.heap.size ≤ g) ∧ ∀ g, c + 2 ≤ g → g < w3.heap.size → wr.heap[g]? = w3.heap[g]?) (hb : Below wr.heap.size wr w5) :
    w3.heap.size ≤ w5.heap.size ∧ (∀ g, v.ownBlock = some g → g = c + 1 ∨ w3.heap.size ≤ g) ∧ ∀ g, c + 2 ≤ g → g < w3.heap.size → w5.heap[g]? = w3.heap[g]? :=
  ⟨Nat.le_trans h.1 hb.size, h.2.1, fun g h1 h2 => by rw [hb.block g (Nat.lt_of_lt_of_le h2 h.1), h.2.2 g h1 h2]⟩
set_option maxHeartbeats 3200000 in
theorem hits_any (v vg : Value) (p : Pln) (gs : List Int) (w : World) (h : PlnR w v p) (hv : Rd w vg gs) (hl : p.n.fs.length ≤ 14) (hls : p.ls.length ≤ 12) (hfb : ∀ i : Nat, (lgA p i).fb.length ≤ 1100000)
    (hgs : ∀ i : Nat, i < gs.length → 0 ≤ gs[i]?.getD 0 ∧ gs[i]?.getD 0 < (grps p.n).length) (hgl : gs.length ≤ 10000) :
    Calls Tryz.prog 64 #[v, vg] w fun e w' => ∃ v', e = .returned v' ∧ Own w' w.heap.size v' (hts p gs) ∧ Below w.heap.size w w' := by
  obtain ⟨u1, u2, u3, rfl, r1, r2, r3, hsm⟩ := h
  have hnet : NetR w (.agg #[u1, u2]) p.n := ⟨u1, u2, rfl, r1, r2, hsm⟩
  have HFO := Lib.hid (fun w' (hb : Below w.heap.size w w') => fibersOf_any u1 u2 vg p.n gs w' (hnet.behind hb) (hv.belowAll hb) hl hgs hgl)
  obtain ⟨⟨a1, m1, c1, rfl⟩, a2, m2, c2, rfl⟩ := slice_of_net hnet
  obtain ⟨a3, m3, c3, rfl, HN3, hc3, hm3, ha3⟩ := lgt_opn r3
  obtain ⟨ag, cg, ng, -, rfl, -, -, -⟩ := hv.opn
  have HA := Lib.hid ha3
  have HFB := Lib.hid hfb
  have HY := Lib.hid (fun k h1 h2 => @hitTo_yes p gs k h1 h2)
  have HZ := Lib.hid (fun k h1 h2 => @hitTo_no p gs k h1 h2)
  have HL := Lib.hid (hitTo_len p gs)
  have HT := Lib.hid (show hitTo p gs m3 = hts p gs by unfold hts; rw [HN3.out])
  have h12 : m3 ≤ 12 := by have := HN3.out; omega
  rw [HN3.out] at HY HZ
  clear ha3 hv hl hgs hgl hfb r1 r2 r3 hsm hnet hls
  obtain ⟨bx, bc, blt, -⟩ := box_facts w #[.slice a1 m1 c1, .slice a2 m2 c2, .slice a3 m3 c3] 38
  have q0 := bc 0 _ rfl
  have q1 := bc 1 _ rfl
  have q2 := bc 2 _ rfl
  have HBX := Lib.hid bx
  have hs1 : (w.alloc (.cells #[.slice a1 m1 c1, .slice a2 m2 c2, .slice a3 m3 c3] 38)).heap.size = w.heap.size + 1 := by simp
  have HR0 := Lib.hid (show Own ((w.alloc (.cells #[.slice a1 m1 c1, .slice a2 m2 c2, .slice a3 m3 c3] 38)).alloc (.cells #[] 3)) w.heap.size (.slice (some ⟨w.heap.size + 1, 0, none⟩) 0 0) [] by rw [← hs1]; exact (own_none _ 3).mono bx.size)
  have HB0 := Lib.hid (bx.alloc bx.size (.cells #[] 3))
  have e0 := ((Below.refl _ _).alloc (Nat.le_refl _) (.cells #[] 3)).cell (p := ⟨w.heap.size, 0, none⟩) blt
  have e1 := ((Below.refl _ _).alloc (Nat.le_refl _) (.cells #[] 3)).cell (p := ⟨w.heap.size, 1, none⟩) blt
  have e2 := ((Below.refl _ _).alloc (Nat.le_refl _) (.cells #[] 3)).cell (p := ⟨w.heap.size, 2, none⟩) blt
  rw [q0] at e0
  rw [q1] at e1
  rw [q2] at e2
  clear bx bc hs1 q0 q1 q2
  go_enter Tryz.func64, Tryz.ntmps64
  go_wp2_with fail
  generalize hww : (w.alloc (.cells #[.slice a1 m1 c1, .slice a2 m2 c2, .slice a3 m3 c3] 38)).alloc (.cells #[] 3) = w2 at *
  refine (HFO.out w2 HB0.out).mono ?_
  rintro e w3 ⟨vr, rfl, or, b3⟩
  have p2 := (b3.cell (p := ⟨w.heap.size, 2, none⟩) (World.block_lt_of_cell? _ _ e2)).trans e2
  obtain ⟨ar, cr, nr, -, rfl, -, -, -⟩ := or.rd.opn
  have HB3 := Lib.hid (HB0.out.trans (b3.mono HB0.out.size))
  have HR3 := Lib.hid (HR0.out.belowAll b3)
  have hs2 : w2.heap.size = w.heap.size + 2 := by rw [← hww]; simp
  have HOR := Lib.hid (fun wx (hk : ∀ g, w.heap.size + 2 ≤ g → g < w3.heap.size → wx.heap[g]? = w3.heap[g]?) => (or.kept (w' := wx) (fun g hg => hk g (by have := or.lt g hg; omega) (or.lt g hg).2)).rd)
  have HS3 := Lib.hid (show w.heap.size + 2 ≤ w3.heap.size by have := b3.size; omega)
  clear b3 or HR0 HB0 HFO hs2 hww e0 e1 e2
  generalize hF : fof p.n gs = F at *
  go_wp2
  clear p2
  go_loopw [5, 8, 17] (fun s5 _ i wr => ∃ (k : Nat), k ≤ m3 ∧ i = .int .i64 k ∧ Hid (Own wr w.heap.size s5 (hitTo p gs k)) ∧ Hid (Below w.heap.size w wr) ∧ Hid (w3.heap.size ≤ wr.heap.size ∧ (∀ g, s5.ownBlock = some g → g = w.heap.size + 1 ∨ w3.heap.size ≤ g) ∧ ∀ g, w.heap.size + 2 ≤ g → g < w3.heap.size → wr.heap[g]? = w3.heap[g]?)) (fun _ _ i _ => m3 - (intOf i).toNat)
  case atStart => exact ⟨0, Nat.zero_le _, rfl, HR3.out, HB3.out, Nat.le_refl _, (fun g hg => .inl (by simpa [Value.ownBlock] using hg.symm)), fun _ _ _ => rfl⟩
  case round =>
    obtain ⟨k, hk, rfl, HO, HB, HK⟩ := hrel
    obtain ⟨a5, c5, m5, HN5, rfl, _, _, -⟩ := HO.out.rd.opn
    by_cases hlt : k < m3
    · have hltI : (k : Int) < (m3 : Int) := by omega
      obtain ⟨b, off, rfl, hbs, hcs⟩ := HA.out (by omega)
      obtain ⟨u, x0, x1, x2, x3, x4, hru⟩ := hcs k hlt
      have y0 := (HB.out.cell (p := ⟨b, off + k * 5, none⟩) hbs).trans x0
      have y1 := (HB.out.cell (p := ⟨b, off + k * 5 + 1, none⟩) hbs).trans x1
      have y2 := (HB.out.cell (p := ⟨b, off + k * 5 + 2, none⟩) hbs).trans x2
      have y3 := (HB.out.cell (p := ⟨b, off + k * 5 + 3, none⟩) hbs).trans x3
      have y4 := (HB.out.cell (p := ⟨b, off + k * 5 + 4, none⟩) hbs).trans x4
      have HYK := Lib.hid (HY.out k hlt)
      have HZK := Lib.hid (HZ.out k hlt)
      have HFK := Lib.hid (HFB.out k)
      have HLK := Lib.hid (show (hitTo p gs k).length ≤ 4000000 by have := HL.out k; omega)
      unfold lgA at HYK HZK HFK
      clear hcs x0 x1 x2 x3 x4
      generalize p.ls[k]?.getD nilL = x at *
      obtain ⟨bf, cf, blf, -⟩ := box_facts wr #[.int .i64 x.id, .int .i64 x.st, u, .int .i64 x.fi, .int .i64 x.ct] 94
      have z0 := cf 0 _ rfl
      have z2 := cf 2 _ rfl
      have HBF := Lib.hid (HB.out.trans (bf.mono HB.out.size))
      have HOF := Lib.hid (HO.out.belowAll bf)
      have HKF := Lib.hid (keepB HK.out bf)
      have HCM := Lib.hid (common_any u (.slice ar nr cr) x.fb F _ ((hru.belowAll HB.out).belowAll bf) (HOR.out _ HKF.out.2.2) HFK.out)
      obtain ⟨au, cu, nu, -, rfl, -, -, -⟩ := hru.opn
      have HME := Lib.hid (meets_cmn x.fb F)
      clear bf cf hru
      generalize ust (cmn x.fb F) = cm at *
      go_wp2_with fail
      generalize wr.alloc (.cells #[.int .i64 x.id, .int .i64 x.st, .slice au nu cu, .int .i64 x.fi, .int .i64 x.ct] 94) = w4 at *
      refine HCM.out.mono ?_
      rintro e w5 ⟨v5, rfl, o5, b5⟩
      have t0 := (b5.cell (p := ⟨wr.heap.size, 0, none⟩) blf).trans z0
      obtain ⟨a6, c6, m6, HN6, rfl, -, -, -⟩ := o5.rd.opn
      have HB5 := Lib.hid (HBF.out.trans (b5.mono HBF.out.size))
      have HO5 := Lib.hid (HOF.out.belowAll b5)
      have HK5 := Lib.hid (keepB HKF.out b5)
      clear b5 o5 HCM z0 z2
      cases hme : meets x.fb F
      · have HE := Lib.hid (HZK.out hme)
        have d0 : ¬ 0 < m6 := fun h => by have h1 := HME.out; rw [hme, HN6.out] at h1; simp [h] at h1
        have d1 : decide (0 < (m6 : Int)) = false := decide_eq_false (by omega)
        have d2 : decide (0 < m6) = false := decide_eq_false d0
        clear d0 hme
        go_wp2
        go_roundw
        case rel => exact ⟨k + 1, hlt, by go_num, by rw [HE.out]; exact HO5.out, HB5.out, HK5.out⟩
        case measure => simp [intOf]; omega
      · have HE := Lib.hid (HYK.out hme)
        have d0 : 0 < m6 := by have h1 := HME.out; rw [hme, HN6.out] at h1; exact of_decide_eq_true h1.symm
        have d1 : decide (0 < (m6 : Int)) = true := decide_eq_true (by omega)
        have d2 : decide (0 < m6) = true := decide_eq_true d0
        clear d0 hme
        go_wp2_with (at_builtin; go_loud (refine wpList_pushI rfl (.tmp 28) (.tmp 31) 29 rfl Tryz.underlying29 Tryz.infoI w.heap.size _ _ rfl HO5.out rfl HLK.out HB5.out.size ?_); intro v7 w7 o7 g7 l7; have HO7 := Lib.hid o7; have HB7 := Lib.hid (HB5.out.grown g7 HB5.out.size (fun q hq => (HO5.out.lt q hq).1)); have HK7 := Lib.hid (keep5 HK5.out g7 l7); clear o7 g7 l7)
        go_roundw
        case rel => exact ⟨k + 1, hlt, by go_num, by rw [HE.out]; exact HO7.out, HB7.out, HK7.out⟩
        case measure => simp [intOf]; omega
    · obtain rfl : m3 = k := by omega
      have HE := Lib.hid HT.out
      generalize hitTo p gs m3 = out at *
      go_wp2
      go_ret
      exact ⟨_, rfl, by rw [← HE.out]; exact HO.out, HB.out⟩

theorem gsetOk_no {p : Pln} {gs : List Int} (h : plnOk p = false) : gsetOk p gs = false := by unfold gsetOk; rw [h]; rfl
theorem gsetOk_yes {p : Pln} {gs : List Int} (h : plnOk p = true) : gsetOk p gs = setOk gs (grps p.n).length := by unfold gsetOk; rw [h]; rfl
set_option maxHeartbeats 1600000 in
theorem isGroupSet_any (v vg : Value) (p : Pln) (gs : List Int) (w : World) (h : PlnR w v p) (hv : Rd w vg gs) (hfb : ∀ i : Nat, (lgA p i).fb.length ≤ 1100000) :
    Calls Tryz.prog 63 #[v, vg] w fun e w' => e = .returned (.bool (gsetOk p gs)) ∧ Below w.heap.size w w' := by
  have HVP := Lib.hid (fun w' (hb : Below w.heap.size w w') => IsValidPlan_any v p w' (h.behind hb) hfb)
  obtain ⟨u1, u2, u3, rfl, r1, r2, r3, hsm⟩ := h
  have hnet : NetR w (.agg #[u1, u2]) p.n := ⟨u1, u2, rfl, r1, r2, hsm⟩
  have HGG := Lib.hid (fun hl w' (hb : Below w.heap.size w w') => groups_any u1 u2 p.n w' (hnet.behind hb) hl)
  have HIS := Lib.hid (fun (m : Nat) w' (hb : Below w.heap.size w w') (hm : m ≤ 1000000) => isSet_any vg gs m w' (hv.belowAll hb) hm)
  obtain ⟨⟨a1, m1, c1, rfl⟩, a2, m2, c2, rfl⟩ := slice_of_net hnet
  obtain ⟨a3, m3, c3, rfl, -, -, -, -⟩ := lgt_opn r3
  obtain ⟨ag, cg, ng, -, rfl, -, -, -⟩ := hv.opn
  obtain ⟨bx, bc, blt, -⟩ := box_facts w #[.slice a1 m1 c1, .slice a2 m2 c2, .slice a3 m3 c3] 38
  have q0 := bc 0 _ rfl
  have q1 := bc 1 _ rfl
  have q2 := bc 2 _ rfl
  have HBX := Lib.hid bx
  have HGN := Lib.hid (@gsetOk_no p gs)
  have HGY := Lib.hid (@gsetOk_yes p gs)
  have HPS := Lib.hid (@plnOk_sz p)
  clear hv r1 r2 r3 hsm hnet hfb bx bc
  go_enter Tryz.func63, Tryz.ntmps63
  go_wp2_with fail
  generalize w.alloc (.cells #[.slice a1 m1 c1, .slice a2 m2 c2, .slice a3 m3 c3] 38) = w1 at *
  have HV1 := Lib.hid (HVP.out w1 HBX.out)
  cases hok : plnOk p
  · have HE := Lib.hid (HGN.out hok)
    rw [hok] at HV1
    clear hok
    refine HV1.out.mono ?_
    rintro e w2 ⟨rfl, b2⟩
    have HB2 := Lib.hid (HBX.out.trans (b2.mono HBX.out.size))
    clear b2
    go_wp2
    go_ret
    exact ⟨by rw [HE.out]; rfl, HB2.out⟩
  have HE := Lib.hid (HGY.out hok)
  have HSZ := Lib.hid (HPS.out hok)
  rw [hok] at HV1
  clear hok
  refine HV1.out.mono ?_
  rintro e w2 ⟨rfl, b2⟩
  have e0 := (b2.cell (p := ⟨w.heap.size, 0, none⟩) blt).trans q0
  have e1 := (b2.cell (p := ⟨w.heap.size, 1, none⟩) blt).trans q1
  have HB2 := Lib.hid (HBX.out.trans (b2.mono HBX.out.size))
  clear b2 q0 q1 q2
  go_wp2_with fail
  refine (HGG.out (by have := HSZ.out.2.2.1; omega) w2 HB2.out).mono ?_
  rintro e w3 ⟨v3, rfl, o3, b3⟩
  obtain ⟨a5, n5, c5, rfl, HN5, -, hn5, -⟩ := ssD_opn o3.rd
  have HB3 := Lib.hid (HB2.out.trans (b3.mono HB2.out.size))
  have h23 : n5 ≤ 1000000 := by have := HSZ.out.2.2.2; have := HN5.out; omega
  rw [HN5.out] at HE
  clear b3 o3 HGG
  have HI3 := Lib.hid (HIS.out n5 w3 HB3.out h23)
  go_wp2_with fail
  refine HI3.out.mono ?_
  rintro e w4 ⟨rfl, b4⟩
  have HB4 := Lib.hid (HB3.out.trans (b4.mono HB3.out.size))
  clear b4
  generalize setOk gs (n5 : Int) = q at *
  go_wp2
  go_ret
  exact ⟨by rw [HE.out]; rfl, HB4.out⟩
end Go.Proofs.YtmkkdenhjfjmgaaGreat
namespace Go.Proofs.YtmkkdenhjfjmgaaGreat
open Go.RowKit Go.Sort
set_option maxRecDepth 100000

theorem mkTo_yes {p : Pln} {G : List Int} {k : Nat} (h : meets (lgA p k).fb G = true) : mkTo p G (k + 1) = mkTo p G k ||| 2 ^ k := by
  show (if meets (lgA p k).fb G then mkTo p G k ||| 2 ^ k else mkTo p G k) = _
  rw [h]; rfl
theorem mkTo_nof {p : Pln} {G : List Int} {k : Nat} (h : meets (lgA p k).fb G = false) : mkTo p G (k + 1) = mkTo p G k := by
  show (if meets (lgA p k).fb G then mkTo p G k ||| 2 ^ k else mkTo p G k) = _
  rw [h]; rfl
def hmT (p : Pln) (g : Nat) : List Nat := ((grps p.n).take g).map fun G => mkTo p G p.ls.length
theorem hmT_next {p : Pln} {g : Nat} (h : g < (grps p.n).length) : hmT p (g + 1) = hmT p g ++ [mkTo p ((grps p.n)[g]?.getD []) p.ls.length] := by
  unfold hmT
  rw [List.take_add_one, List.map_append, List.getElem?_eq_getElem h]
  rfl
theorem nats_app (a : List Nat) (k : Nat) : nats (a ++ [k]) = nats a ++ [(k : Int)] := by simp [nats]
set_option maxHeartbeats 3200000 in
theorem l25Hits_any (v : Value) (p : Pln) (w : World) (h : PlnR w v p) (hl : p.n.fs.length ≤ 14) (hls : p.ls.length ≤ 12) :
    Calls Tryz.prog 59 #[v] w fun e w' => ∃ v', e = .returned v' ∧ Own w' w.heap.size v' (nats (hmks p)) ∧ Below w.heap.size w w' := by
  obtain ⟨u1, u2, u3, rfl, r1, r2, r3, hsm⟩ := h
  have hnet : NetR w (.agg #[u1, u2]) p.n := ⟨u1, u2, rfl, r1, r2, hsm⟩
  have HGG := Lib.hid (fun w' (hb : Below w.heap.size w w') => l2Groups_any u1 u2 p.n w' (hnet.behind hb) (by omega))
  obtain ⟨⟨a1, m1, c1, rfl⟩, a2, m2, c2, rfl⟩ := slice_of_net hnet
  obtain ⟨a3, m3, c3, rfl, HN3, hc3, hm3, ha3⟩ := lgt_opn r3
  have HA := Lib.hid ha3
  have HGL := Lib.hid (show (grps p.n).length ≤ 23 by have := grps_len p.n; omega)
  have HTN := Lib.hid (fun g h => @hmT_next p g h)
  have HTE := Lib.hid (show ∀ k, (grps p.n).length = k → hmT p k = hmks p from fun k e => by unfold hmT hmks; rw [List.take_of_length_le (Nat.le_of_eq e)])
  have HTL := Lib.hid (show ∀ k, (nats (hmT p k)).length ≤ k from fun k => by rw [nats_len]; unfold hmT; rw [List.length_map]; exact List.length_take_le _ _)
  have h12 : m3 ≤ 12 := by have := HN3.out; omega
  clear ha3 hl r1 r2 r3 hsm hnet hls
  obtain ⟨bx, bc, blt, -⟩ := box_facts w #[.slice a1 m1 c1, .slice a2 m2 c2, .slice a3 m3 c3] 38
  have q0 := bc 0 _ rfl
  have q1 := bc 1 _ rfl
  have q2 := bc 2 _ rfl
  have HBX := Lib.hid bx
  rw [HN3.out] at HTN
  clear bx bc
  go_enter Tryz.func59, Tryz.ntmps59
  go_wp2_with fail
  generalize w.alloc (.cells #[.slice a1 m1 c1, .slice a2 m2 c2, .slice a3 m3 c3] 38) = w1 at *
  refine (HGG.out w1 HBX.out).mono ?_
  rintro e w3 ⟨vr, rfl, or, b3⟩
  obtain ⟨ar, nr, cr, rfl, HNR, hcr, hnr, -⟩ := ssD_opn or.rd
  have p2 := (b3.cell (p := ⟨w.heap.size, 2, none⟩) blt).trans q2
  have HLT := Lib.hid (Nat.lt_of_lt_of_le blt b3.size)
  have HB3 := Lib.hid (HBX.out.trans (b3.mono HBX.out.size))
  have HOR := Lib.hid (fun wx (hk : Below w3.heap.size w3 wx) i hi => ssD_row (i := i) ((or.rd.behind hk)) rfl hi)
  have h23 : nr ≤ 23 := by have := HGL.out; have := HNR.out; omega
  have HTE2 := Lib.hid (HTE.out nr HNR.out)
  have HON := Lib.hid ((own_none w3 3))
  have HB4 := Lib.hid ((Below.refl w3.heap.size w3).alloc (Nat.le_refl _) (.cells #[] 3))
  rw [HNR.out] at HTN
  clear b3 or HGG q0 q1 q2
  go_wp2
  generalize w3.alloc (.cells #[] 3) = w4 at *
  go_loopw [4, 5] (fun s4 i wr => ∃ (g : Nat), g ≤ nr ∧ i = .int .i64 g ∧ Hid (Own wr w3.heap.size s4 (nats (hmT p g))) ∧ Hid (Below w3.heap.size w3 wr)) (fun _ i _ => nr - (intOf i).toNat)
  case atStart => exact ⟨0, Nat.zero_le _, rfl, HON.out, HB4.out⟩
  case round =>
    obtain ⟨g, hg, rfl, HO, HB⟩ := hrel
    obtain ⟨wo, hwo⟩ : ∃ wo, wo = wr := ⟨_, rfl⟩
    subst hwo
    obtain ⟨a5, c5, m5, HN5, rfl, _, _, -⟩ := HO.out.rd.opn
    by_cases hlt : g < nr
    · have hltI : (g : Int) < (nr : Int) := by omega
      have HNX := Lib.hid (show nats (hmT p (g + 1)) = nats (hmT p g) ++ [((mkTo p ((grps p.n)[g]?.getD []) m3 : Nat) : Int)] by rw [HTN.out g hlt, nats_app])
      have HLO := Lib.hid (show (nats (hmT p g)).length ≤ 4000000 by have := HTL.out g; omega)
      obtain ⟨br, offr, ur, rfl, hu, hru⟩ := HOR.out wo HB.out g hlt
      have HU := Lib.hid (fun wx (hb : Below wo.heap.size wo wx) => hru.belowAll hb)
      have HUL := Lib.hid (World.block_lt_of_cell? _ _ hu)
      obtain ⟨ag, cg, mg, -, rfl, -, -, -⟩ := hru.opn
      clear hru
      generalize (grps p.n)[g]?.getD [] = G at *
      generalize nats (hmT p g) = out at *
      go_wp2
      go_loopw [6, 7] (fun s6 i wx => ∃ k : Nat, k ≤ m3 ∧ i = .int .i64 k ∧ s6 = .int .i64 (mkTo p G k) ∧ Hid (Below wo.heap.size wo wx)) (fun _ i _ => m3 - (intOf i).toNat)
      case atStart => exact ⟨0, Nat.zero_le _, rfl, rfl, Below.refl _ _⟩
      case round =>
        obtain ⟨k, hk, rfl, rfl, HBI⟩ := hrel
        have B3R := HB.out.trans (HBI.out.mono HB.out.size)
        have t2 := (B3R.cell (p := ⟨w.heap.size, 2, none⟩) HLT.out).trans p2
        have HB3R := Lib.hid B3R
        by_cases hlk : k < m3
        · have hlkI : (k : Int) < (m3 : Int) := by omega
          obtain ⟨b, off, rfl, hbs, hcs⟩ := HA.out (by omega)
          obtain ⟨u, x0, x1, x2, x3, x4, hxu⟩ := hcs k hlk
          have BW := HB3.out.trans (B3R.mono HB3.out.size)
          have y1 := (BW.cell (p := ⟨b, off + k * 5 + 1, none⟩) hbs).trans x1
          have y2 := (BW.cell (p := ⟨b, off + k * 5 + 2, none⟩) hbs).trans x2
          have v0 := (HBI.out.cell HUL.out).trans hu
          have HUS := Lib.hid (l4Uses_any u (.slice ag mg cg) ⟨(p.ls[k]?.getD nilL).st, (p.ls[k]?.getD nilL).fb⟩ G)
          have HXU := Lib.hid (hxu.belowAll BW)
          have HUG := Lib.hid (HU.out wr HBI.out)
          have HMY := Lib.hid (@mkTo_yes p G k)
          have HMN := Lib.hid (@mkTo_nof p G k)
          have HML := Lib.hid (show mkTo p G k < 16777216 from le12 (mkTo_lt p G k) (by omega))
          unfold lgA at HMY HMN
          obtain ⟨au, cu, nu, -, rfl, -, -, -⟩ := hxu.opn
          clear hcs x0 x1 x2 x3 x4 hxu BW B3R hu
          generalize p.ls[k]?.getD nilL = x at *
          generalize mkTo p G k = mk at *
          have j1 := rg y1
          have j2 := rg y2
          have j3 := rg v0
          have j4 := rg t2
          have HUQ := Lib.hid (fun w' hb => HUS.out w' (HXU.out.belowAll hb) (HUG.out.belowAll hb))
          cases hme : meets x.fb G
          · have HE := Lib.hid (HMN.out hme)
            simp only [hme] at HUQ
            clear hme
            go_wp2
            clear y1 y2 v0 t2
            refine wp_region_quiet_below (by kernel_rfl) (by kernel_rfl) ?_
            repeat (go_big_quiet_step (first | (go_at_call 105; exact Calls.regrown_of (HUQ.out _ (below_regrown _ _ _)))))
            refine wpQuiet_nil ?_
            rintro _ ⟨⟨dq, osq⟩, rfl⟩
            have HBQ := Lib.hid (HBI.out.trans ((below_regrown wr dq osq).mono HBI.out.size))
            go_wp2
            go_roundw
            case rel => exact ⟨k + 1, hlk, by go_num, by rw [HE.out], HBQ.out⟩
            case measure => simp [intOf]; omega
          · have HE := Lib.hid (HMY.out hme)
            have hsh := shl_one (k := k) (by omega)
            have hp24 := pow_lt24 (k := k) (by omega)
            generalize (2 : Nat) ^ k = P at *
            have hor := bits_or HML.out hp24
            simp only [hme] at HUQ
            clear hme
            go_wp2
            clear y1 y2 v0 t2
            refine wp_region_quiet_below (by kernel_rfl) (by kernel_rfl) ?_
            repeat (go_big_quiet_step (first | (go_at_call 105; exact Calls.regrown_of (HUQ.out _ (below_regrown _ _ _)))))
            refine wpQuiet_nil ?_
            rintro _ ⟨⟨dq, osq⟩, rfl⟩
            have HBQ := Lib.hid (HBI.out.trans ((below_regrown wr dq osq).mono HBI.out.size))
            go_wp2
            go_roundw
            case rel => exact ⟨k + 1, hlk, by go_num, by rw [HE.out], HBQ.out⟩
            case measure => simp [intOf]; omega
        · obtain rfl : m3 = k := by omega
          have HOI := Lib.hid (HO.out.belowAll HBI.out)
          have hs := Nat.le_trans HB.out.size HBI.out.size
          have HSI := Lib.hid hs
          clear B3R hs
          generalize mkTo p G m3 = mk at *
          go_wp2_with (at_builtin; go_loud (refine wpList_pushI rfl (.tmp 41) (.tmp 43) 29 rfl Tryz.underlying29 Tryz.infoI w3.heap.size _ _ rfl HOI.out rfl HLO.out HSI.out ?_); intro v7 w7 o7 g7 l7; have HO7 := Lib.hid o7; have HB7 := Lib.hid (HB3R.out.grown g7 HSI.out (fun q hq => (HOI.out.lt q hq).1)); clear o7 g7 l7)
          go_roundw
          case rel => exact ⟨g + 1, hlt, by go_num, by rw [HNX.out]; exact HO7.out, HB7.out⟩
          case measure => simp [intOf]; omega
    · obtain rfl : nr = g := by omega
      have HE := Lib.hid (show nats (hmT p nr) = nats (hmks p) by rw [HTE2.out])
      generalize nats (hmT p nr) = out at *
      go_wp2
      go_ret
      exact ⟨_, rfl, by rw [← HE.out]; exact HO.out.mono HB3.out.size, HB3.out.trans (HB.out.mono HB3.out.size)⟩
end Go.Proofs.YtmkkdenhjfjmgaaGreat
