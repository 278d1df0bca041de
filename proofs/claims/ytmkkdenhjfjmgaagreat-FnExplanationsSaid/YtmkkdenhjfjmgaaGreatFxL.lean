/- FnExplanations: the walk of the law. -/
import Derived.Test.YtmkkdenhjfjmgaaGreatBf25
import Derived.Test.YtmkkdenhjfjmgaaGreatBf26
import Derived.Test.YtmkkdenhjfjmgaaGreatBf14
import Derived.Test.YtmkkdenhjfjmgaaGreatBf16
namespace Go.Proofs.YtmkkdenhjfjmgaaGreat
open Go.RowKit Go.Sort
set_option maxRecDepth 100000

set_option maxHeartbeats 12800000 in
theorem FnExplanations_walk (a0 : Option Addr) (len0 cap0 : Nat) (z0 : List Int) (w : World) (hr : RawB w a0 len0 cap0 z0) :
    Calls Tryz.prog 12 #[.slice a0 len0 cap0] w fun e w' => e = .returned (.bool true) ∧ Below w.heap.size w w' := by
  show Calls Tryz.prog 12 #[.slice a0 len0 cap0] w (LawP w)
  by_cases hbig : (65536 : Int) < (len0 : Int)
  · have hd : decide ((65536 : Int) < (len0 : Int)) = true := by simpa using hbig
    go_enter Tryz.func12, Tryz.ntmps12
    go_wp2_with fail
    refine (vBig_any _ _ _ _).mono ?_
    rintro e w' ⟨rfl, rfl⟩
    go_wp2
    go_ret
    exact ⟨rfl, Below.refl _ _⟩
  have hd : decide ((65536 : Int) < (len0 : Int)) = false := by simpa using hbig
  have hrd := hr.rd (by omega)
  obtain ⟨NP, hNP⟩ : ∃ NP, NP = LawP w := ⟨_, rfl⟩
  rw [← hNP]
  have HRD := Lib.hid hrd
  clear hr hrd
  go_enter Tryz.func12, Tryz.ntmps12
  go_wp2_with fail
  refine (vBig_any _ _ _ _).mono ?_
  rintro e w' ⟨rfl, rfl⟩
  go_wp2_with fail
  refine (drawME_any a0 len0 cap0 w HRD.out).mono ?_
  rintro e w1 ⟨u1, u2, u3, v, n, ps, xs, rfl, hdd, ho, hxl, hb1⟩
  obtain ⟨⟨a1, c1, rfl⟩, ⟨a2, c2, rfl⟩⟩ := hdd.n.slices
  obtain ⟨a3, c3, rfl⟩ := row_form0 hdd.l.row
  obtain ⟨av, cv, nv, -, rfl, -, -, -⟩ := ho.rd.opn
  have M2 := Lib.hid (Mm.mk' hdd hb1)
  have R2 := Lib.hid (ho.rd.belowAll ((Below.refl w1.heap.size w1).alloc (Nat.le_refl _) (.cells #[.slice a1 n.ns.length c1, .slice a2 n.fs.length c2, .slice a3 ps.length c3] 38)))
  clear hdd ho hb1
  go_upto_region 4 with fail
  generalize w1.alloc (.cells #[.slice a1 n.ns.length c1, .slice a2 n.fs.length c2, .slice a3 ps.length c3] 38) = w2 at *
  generalize w1.heap.size = bP at *
  generalize hp : (⟨n, ps.map Prod.fst⟩ : Pln) = p at *
  clear hp
  have ay0 := blkc M2.out.box (show _ = some (Value.slice a1 n.ns.length c1) from rfl) (j := 0)
  have ay1 := blkc M2.out.box (show _ = some (Value.slice a2 n.fs.length c2) from rfl) (j := 1)
  have ay2 := blkc M2.out.box (show _ = some (Value.slice a3 ps.length c3) from rfl) (j := 2)
  go_wp2_with fail
  refine (implMin_any _ _ p xs w2 M2.out.pr R2.out M2.out.fb).mono ?_
  rintro e w3 ⟨v3, rfl, o3, b3⟩
  have M3 := Lib.hid (M2.out.below b3)
  have R3 := Lib.hid (R2.out.belowAll b3)
  have L3 := Lib.hid o3.rd
  obtain ⟨al, nl, cl, hvl, HNL, -, -, -⟩ := ssD_opn L3.out
  subst hvl
  have hnl40 : nl ≤ 40 := by have := HNL.out; have := (minR_len (p := p) (d := xs)).1; omega
  clear M2 R2 b3 o3 ay0 ay1 ay2
  have ay0 := blkc M3.out.box (show _ = some (Value.slice a1 n.ns.length c1) from rfl) (j := 0)
  have ay1 := blkc M3.out.box (show _ = some (Value.slice a2 n.fs.length c2) from rfl) (j := 1)
  have ay2 := blkc M3.out.box (show _ = some (Value.slice a3 ps.length c3) from rfl) (j := 2)
  go_wp2_with fail
  refine (specMin_any _ _ p xs w3 M3.out.pr R3.out M3.out.fb).mono ?_
  rintro e w4 ⟨v4, rfl, o4, b4⟩
  have M4 := Lib.hid (M3.out.below b4)
  have R4 := Lib.hid (R3.out.belowAll b4)
  have L4 := Lib.hid (L3.out.behind b4)
  obtain ⟨aq, nq, cq, hvq, HNQ, -, -, -⟩ := ssD_opn o4.rd
  subst hvq
  obtain rfl : nl = nq := by have := HNL.out; have := HNQ.out; omega
  clear M3 R3 L3 b4 o4 ay0 ay1 ay2
  have HMO := Lib.hid (fun h i hi => @minR_at p xs h i hi)
  have HPO := Lib.hid (fun (hm : minOk p xs = true) => show decide (0 < nl) = fewB p xs from by
    rw [← HNL.out, ← minA_pos]
    unfold minR
    rw [if_pos hm])
  have HFE := Lib.hid (fun hd h => @few_hits p xs hd h)
  have HFF := Lib.hid (show ffR p xs = if dwOk p xs then fewL p xs else [] from rfl)
  have HFB := Lib.hid (show ffB p xs = (dwOk p xs && fewB p xs) from rfl)
  generalize hmt : minOk p xs = mo at *
  have HMT := Lib.hid hmt
  clear hmt
  have hne1 : (mo != mo) = false := by simp
  have hne2 : ((nl : Int) != (nl : Int)) = false := by simp
  go_upto_region 8 with fail
  have ay0 := blkc M4.out.box (show _ = some (Value.slice a1 n.ns.length c1) from rfl) (j := 0)
  have ay1 := blkc M4.out.box (show _ = some (Value.slice a2 n.fs.length c2) from rfl) (j := 1)
  have ay2 := blkc M4.out.box (show _ = some (Value.slice a3 ps.length c3) from rfl) (j := 2)
  go_wp2_with fail
  refine (implFew_any _ _ p xs w4 M4.out.pr R4.out M4.out.fb).mono ?_
  rintro e w5 ⟨v5, rfl, o5, b5⟩
  have M5 := Lib.hid (M4.out.below b5)
  have R5 := Lib.hid (R4.out.belowAll b5)
  have L5 := Lib.hid (L4.out.behind b5)
  have F5 := Lib.hid o5.own.rd
  obtain ⟨af, cf, nf, HNF, hvf, -, -, -⟩ := F5.out.opn
  subst hvf
  have hnf : nf ≤ 1000 := by have := HNF.out; have := ffR_len (p := p) (d := xs); omega
  clear M4 R4 L4 b5 o5 ay0 ay1 ay2
  have ay0 := blkc M5.out.box (show _ = some (Value.slice a1 n.ns.length c1) from rfl) (j := 0)
  have ay1 := blkc M5.out.box (show _ = some (Value.slice a2 n.fs.length c2) from rfl) (j := 1)
  have ay2 := blkc M5.out.box (show _ = some (Value.slice a3 ps.length c3) from rfl) (j := 2)
  go_wp2_with fail
  refine (specFew_any _ _ p xs w5 M5.out.pr R5.out M5.out.fb).mono ?_
  rintro e w6 ⟨v6, rfl, o6, b6⟩
  have M6 := Lib.hid (M5.out.below b6)
  have R6 := Lib.hid (R5.out.belowAll b6)
  have L6 := Lib.hid (L5.out.behind b6)
  have F6 := Lib.hid (F5.out.belowAll b6)
  have G6 := Lib.hid o6.own.rd
  obtain ⟨ag, cg, ng, -, hvg, -, -, -⟩ := G6.out.opn
  subst hvg
  clear M5 R5 L5 F5 b6 o6 ay0 ay1 ay2
  generalize ffB p xs = fb at *
  generalize hdw : dwOk p xs = dw at *
  have hne3 : (fb != fb) = false := by simp
  have hne4 : (dw != dw) = false := by simp
  have hne5 : (fb == fb) = true := by simp
  have hne6 : (dw == dw) = true := by simp
  have HDW := Lib.hid hdw
  clear hdw
  go_wp2_with fail
  refine (vInts_any _ _ (ffR p xs) (ffR p xs) w6 F6.out G6.out).mono ?_
  rintro e w7 ⟨he, m7, rfl⟩
  rw [eqL_refl] at he
  subst he
  have M7 := Lib.hid (M6.out.below (drewN_bel (m := m7)))
  have R7 := Lib.hid (R6.out.belowAll (drewN_bel (m := m7)))
  have L7 := Lib.hid (L6.out.behind (drewN_bel (m := m7)))
  have F7 := Lib.hid (F6.out.belowAll (drewN_bel (m := m7)))
  have G7 := Lib.hid (G6.out.belowAll (drewN_bel (m := m7)))
  clear M6 R6 L6 F6 G6
  generalize w6.drewN m7 = w8 at *
  cases dw
  · go_wp2_with fail
    refine (vInts_any _ _ (ffR p xs) (ffR p xs) w8 F7.out G7.out).mono ?_
    rintro e w9 ⟨he, m9, rfl⟩
    rw [eqL_refl] at he
    subst he
    have HB := Lib.hid (M7.out.bel.trans ((drewN_bel (w := w8) (m := m9)).mono M7.out.bel.size))
    go_wp2_with fail
    subst hNP
    exact ⟨rfl, HB.out⟩
  have hff : ffR p xs = fewL p xs := by
    have h := HFF.out
    first
      | exact h.trans (if_pos (by first | rfl | trivial))
      | (rw [HDW.out] at h; exact h.trans (if_pos rfl))
  have HFQ := Lib.hid (show fb = fewB p xs from by
    have h := HFB.out
    first
      | exact h.trans (Bool.true_and _)
      | (rw [HDW.out] at h; exact h.trans (Bool.true_and _)))
  have HFX := Lib.hid hff
  rw [hff] at F7 HNF
  clear hff G7 HFF HFB
  cases fb
  · have HPX := Lib.hid (fun hm => (HPO.out hm).trans HFQ.out.symm)
    clear HFQ hne3 hne5
    cases mo
    · have HB := Lib.hid M7.out.bel
      go_wp2_with fail
      subst hNP
      exact ⟨rfl, HB.out⟩
    have hpx := HPX.out (by first | rfl | trivial)
    have hpd : decide ((0 : Int) < (nl : Int)) = false := by rw [← hpx]; exact decide_eq_decide.2 (by omega)
    have hpn : ¬ ((0 : Int) < (nl : Int)) := by (try unfold id); first | exact of_decide_eq_true hpd | exact of_decide_eq_false hpd
    (try simp only [id_eq] at hpn)
    have hpq : (decide ((0 : Int) < (nl : Int)) != false) = false := by rw [hpd]; rfl
    have HMI := Lib.hid (fun i hi => HMO.out (by first | rfl | trivial) i hi)
    clear HPX HMO HPO
    go_upto_region 18 with fail
    have ay0 := blkc M7.out.box (show _ = some (Value.slice a1 n.ns.length c1) from rfl) (j := 0)
    have ay1 := blkc M7.out.box (show _ = some (Value.slice a2 n.fs.length c2) from rfl) (j := 1)
    have ay2 := blkc M7.out.box (show _ = some (Value.slice a3 ps.length c3) from rfl) (j := 2)
    go_wp2_with fail
    refine (implCer_any _ _ p xs _ M7.out.pr R7.out M7.out.fb).mono ?_
    rintro e wC ⟨vc, vp, rfl, oc, op, -, bC⟩
    rw [show minOk p xs = true from HMT.out]
    have MA := Lib.hid (M7.out.below bC)
    have DA := Lib.hid (R7.out.belowAll bC)
    have LA := Lib.hid (L7.out.behind bC)
    have FA := Lib.hid (F7.out.belowAll bC)
    have CA := Lib.hid oc.own.rd
    have PA := Lib.hid op.own.rd
    obtain ⟨acr, ccr, ncr, HNCR, hvc, -, -, hacr⟩ := CA.out.opn
    subst hvc
    obtain ⟨apo, cpo, npo, -, hvp, -, -, -⟩ := PA.out.opn
    subst hvp
    have hncr : ncr ≤ 1000 := by have := HNCR.out; have := cgC_len (p := p) (d := xs); omega
    have HACR := Lib.hid hacr
    clear M7 R7 L7 F7 oc op bC ay0 ay1 ay2 hacr
    obtain rfl : nl = 0 := by have := of_decide_eq_false hpd; omega
    clear hpx hpd hpn hpq HMI HNL HNQ
    have hz : decide ((0 : Int) < ((0 : Nat) : Int)) = false := by decide
    go_upto_region 22 with fail
    go_loopw [20] (fun s20 wr => s20 = .int .i64 0 ∧ wr = wC) (fun _ _ => 0)
    case atStart => exact ⟨rfl, rfl⟩
    case round =>
      obtain ⟨rfl, rfl⟩ := hrel
      have HB := Lib.hid MA.out.bel
      go_wp2_with fail
      subst hNP
      exact ⟨rfl, HB.out⟩
  · have HPX := Lib.hid (fun hm => (HPO.out hm).trans HFQ.out.symm)
    have HFG := Lib.hid (HFE.out (by first | rfl | trivial) HFQ.out.symm)
    clear HFQ hne3 hne5
    go_upto_region 13 with fail
    have ay0 := blkc M7.out.box (show _ = some (Value.slice a1 n.ns.length c1) from rfl) (j := 0)
    have ay1 := blkc M7.out.box (show _ = some (Value.slice a2 n.fs.length c2) from rfl) (j := 1)
    have ay2 := blkc M7.out.box (show _ = some (Value.slice a3 ps.length c3) from rfl) (j := 2)
    go_wp2_with fail
    refine (implHit_any _ _ p (fewL p xs) w8 M7.out.pr F7.out M7.out.fb).mono ?_
    rintro e w9 ⟨v9, rfl, o9, b9⟩
    have hok := HFG.out.1
    rw [htR_yes hok, HFG.out.2] at o9
    rw [hok]
    have M9 := Lib.hid (M7.out.below b9)
    have R9 := Lib.hid (R7.out.belowAll b9)
    have L9 := Lib.hid (L7.out.behind b9)
    have F9 := Lib.hid (F7.out.belowAll b9)
    have H9 := Lib.hid o9.own.rd
    obtain ⟨ah, ch, nh, -, hvh, -, -, -⟩ := H9.out.opn
    subst hvh
    clear M7 R7 L7 F7 b9 o9 ay0 ay1 ay2 hok
    go_wp2_with fail
    refine (vInts_any _ _ xs xs w9 H9.out R9.out).mono ?_
    rintro e wA ⟨he, mA, rfl⟩
    rw [eqL_refl] at he
    subst he
    have M7 := Lib.hid (M9.out.below (drewN_bel (m := mA)))
    have R7 := Lib.hid (R9.out.belowAll (drewN_bel (m := mA)))
    have L7 := Lib.hid (L9.out.behind (drewN_bel (m := mA)))
    have F7 := Lib.hid (F9.out.belowAll (drewN_bel (m := mA)))
    clear M9 R9 L9 F9 H9
    generalize w9.drewN mA = w8' at *
    go_upto_region 16 with fail
    cases mo
    · have HB := Lib.hid M7.out.bel
      go_wp2_with fail
      subst hNP
      exact ⟨rfl, HB.out⟩
    have hpx := HPX.out (by first | rfl | trivial)
    have hpd : decide ((0 : Int) < (nl : Int)) = true := by rw [← hpx]; exact decide_eq_decide.2 (by omega)
    have hpn : id ((0 : Int) < (nl : Int)) := by (try unfold id); first | exact of_decide_eq_true hpd | exact of_decide_eq_false hpd
    (try simp only [id_eq] at hpn)
    have hpq : (decide ((0 : Int) < (nl : Int)) != true) = false := by rw [hpd]; rfl
    have HMI := Lib.hid (fun i hi => HMO.out (by first | rfl | trivial) i hi)
    clear HPX HMO HPO
    go_upto_region 18 with fail
    have ay0 := blkc M7.out.box (show _ = some (Value.slice a1 n.ns.length c1) from rfl) (j := 0)
    have ay1 := blkc M7.out.box (show _ = some (Value.slice a2 n.fs.length c2) from rfl) (j := 1)
    have ay2 := blkc M7.out.box (show _ = some (Value.slice a3 ps.length c3) from rfl) (j := 2)
    go_wp2_with fail
    refine (implCer_any _ _ p xs _ M7.out.pr R7.out M7.out.fb).mono ?_
    rintro e wC ⟨vc, vp, rfl, oc, op, -, bC⟩
    rw [show minOk p xs = true from HMT.out]
    have MA := Lib.hid (M7.out.below bC)
    have DA := Lib.hid (R7.out.belowAll bC)
    have LA := Lib.hid (L7.out.behind bC)
    have FA := Lib.hid (F7.out.belowAll bC)
    have CA := Lib.hid oc.own.rd
    have PA := Lib.hid op.own.rd
    obtain ⟨acr, ccr, ncr, HNCR, hvc, -, -, hacr⟩ := CA.out.opn
    subst hvc
    obtain ⟨apo, cpo, npo, -, hvp, -, -, -⟩ := PA.out.opn
    subst hvp
    have hncr : ncr ≤ 1000 := by have := HNCR.out; have := cgC_len (p := p) (d := xs); omega
    have HACR := Lib.hid hacr
    clear M7 R7 L7 F7 oc op bC ay0 ay1 ay2 hacr
    obtain ⟨al', nl', cl', hvl', HNL', -, -, hal⟩ := ssD_opn LA.out
    simp only [Value.slice.injEq] at hvl'
    obtain ⟨rfl, rfl, rfl⟩ := hvl'
    have HAL := Lib.hid hal
    clear hal
    go_upto_region 22 with fail
    clear hpn hpd hpq hpx
    go_loopw [20] (fun s20 wr => ∃ i : Nat, i ≤ nl ∧ s20 = .int .i64 i ∧ Hid (Below wC.heap.size wC wr)) (fun s20 _ => nl - (intOf s20).toNat)
    case atStart => exact ⟨0, Nat.zero_le _, rfl, Below.refl _ _⟩
    case round =>
      obtain ⟨i, hi, rfl, BI⟩ := hrel
      by_cases hlt : i < nl
      · have hltI : (i : Int) < (nl : Int) := by omega
        have hwi : IntKind.i64.wrap ((i : Int) + 1) = (i : Int) + 1 := IntWalk.i64_in _ (by omega)
        obtain ⟨bl, ol, rfl, hbl, hcl⟩ := HAL.out (by omega)
        obtain ⟨ue, hce, hue⟩ := hcl i hlt
        obtain ⟨ae, ce, ne, HNE, hve, hce1, hce2, hae⟩ := hue.opn
        subst hve
        have UE := Lib.hid hue
        have HI := Lib.hid (HMI.out i (by rw [HNL.out]; exact hlt))
        have hne23 : ne ≤ 23 := by
          have := HNE.out
          have h2 := (minR_len (p := p) (d := xs)).2 ((minR p xs)[i]?.getD []) (by rw [List.getElem?_eq_getElem (by rw [HNL.out]; exact hlt)]; exact List.getElem_mem _)
          omega
        have hle : nf ≤ ne := by have := HNE.out; have := HNF.out; have := HI.out.1.2; omega
        have hleI : ¬ (ne : Int) < (nf : Int) := by omega
        have hleD : decide (ne < nf) = false := decide_eq_false (by omega)
        have hleE : decide ((ne : Int) < (nf : Int)) = false := decide_eq_false hleI
        have HCE := Lib.hid hce
        generalize hxe : (minR p xs)[i]?.getD [] = xe at *
        have HAE := Lib.hid hae
        clear hcl hce hue hae hxe
        have HSS := Lib.hid (fun (W : World) (hb : Below wC.heap.size wC W) => show (W.cell? ⟨bP, 0, none⟩ = some (.slice a1 n.ns.length c1) ∧ W.cell? ⟨bP, 1, none⟩ = some (.slice a2 n.fs.length c2) ∧ W.cell? ⟨bP, 2, none⟩ = some (.slice a3 ps.length c3)) ∧ W.cell? ⟨bl, ol + i, none⟩ = some (.slice ae ne ce) from
          ⟨⟨blkc (Lib.hid (MA.out.below hb)).out.box rfl, blkc (Lib.hid (MA.out.below hb)).out.box rfl, blkc (Lib.hid (MA.out.below hb)).out.box rfl⟩, (hb.cell (p := ⟨bl, ol + i, none⟩) hbl).trans HCE.out⟩)
        have BD := Lib.hid (BI.out.drew)
        go_wp2_with fail
        refine wp_region_L [0, 1, 2, 3, 4, 5, 6, 7, 8, 9, 10, 11] (S := fun W => (W.cell? ⟨bP, 0, none⟩ = some (.slice a1 n.ns.length c1) ∧ W.cell? ⟨bP, 1, none⟩ = some (.slice a2 n.fs.length c2) ∧ W.cell? ⟨bP, 2, none⟩ = some (.slice a3 ps.length c3)) ∧ W.cell? ⟨bl, ol + i, none⟩ = some (.slice ae ne ce)) (by kernel_rfl) (HSS.out _ BD.out) (fun hH => ?_)
        refine hlTake 0 (v := ?v1) rfl (by kernel_rfl) (by kernel_rfl) (by kernel_rfl) (by kernel_rfl) (fun _ _ _ h => h) (by rfl) ?hy1 hH ?rest1
        case hy1 => ((intro w hSw); (try dsimp only at hSw); go_simp); try with_reducible rfl
        try simp only [Act.put, List.setIfInBounds_toArray, List.set_cons_zero, List.set_cons_succ]
        refine hlTake 1 (v := ?v2) rfl (by kernel_rfl) (by kernel_rfl) (by kernel_rfl) (by kernel_rfl) (fun _ _ _ h => h) (by rfl) ?hy2 hH ?rest2
        case hy2 => ((intro w hSw); (try dsimp only at hSw); go_simp); try with_reducible rfl
        try simp only [Act.put, List.setIfInBounds_toArray, List.set_cons_zero, List.set_cons_succ]
        refine hlTake 2 (v := ?v3) rfl (by kernel_rfl) (by kernel_rfl) (by kernel_rfl) (by kernel_rfl) (fun _ _ _ h => h) (by rfl) ?hy3 hH ?rest3
        case hy3 => ((intro w hSw); (try dsimp only at hSw); go_simp); try with_reducible rfl
        try simp only [Act.put, List.setIfInBounds_toArray, List.set_cons_zero, List.set_cons_succ]
        refine hlTake 3 (v := ?v4) rfl (by kernel_rfl) (by kernel_rfl) (by kernel_rfl) (by kernel_rfl) (fun _ _ _ h => h) (by rfl) ?hy4 hH ?rest4
        case hy4 => ((intro w hSw); (try dsimp only at hSw); go_simp); try with_reducible rfl
        try simp only [Act.put, List.setIfInBounds_toArray, List.set_cons_zero, List.set_cons_succ]
        refine hlTake 4 (v := ?v5) rfl (by kernel_rfl) (by kernel_rfl) (by kernel_rfl) (by kernel_rfl) (fun _ _ _ h => h) (by rfl) ?hy5 hH ?rest5
        case hy5 => ((intro w hSw); (try dsimp only at hSw); go_simp); try with_reducible rfl
        try simp only [Act.put, List.setIfInBounds_toArray, List.set_cons_zero, List.set_cons_succ]
        refine hlTake 5 (v := ?v6) rfl (by kernel_rfl) (by kernel_rfl) (by kernel_rfl) (by kernel_rfl) (fun _ _ _ h => h) (by rfl) ?hy6 hH ?rest6
        case hy6 => ((intro w hSw); (try dsimp only at hSw); go_simp); try with_reducible rfl
        try simp only [Act.put, List.setIfInBounds_toArray, List.set_cons_zero, List.set_cons_succ]
        refine hlReady (rs := [6]) (by kernel_rfl) (by simp) ?_
        refine AllReadyL.cons rfl (fun KK hKK => ?_) AllReadyL.nil
        -- order 6
        go_simp
        go_at_call 22
        refine (implIe_any _ _ _ p xs xe _ (MA.out.below BD.out).pr (DA.out.belowAll BD.out) (UE.out.belowAll BD.out) MA.out.fb).mono ?_
        rintro e wE ⟨rfl, bE⟩
        have BE := Lib.hid (BD.out.trans (bE.mono BD.out.size))
        have hie := HI.out.1.1
        rw [hie.1, hie.2]
        refine hKK.out _ _ (HSS.out _ BE.out) (fun hH => ?_)
        clear hKK KK
        try simp only [Act.put, List.setIfInBounds_toArray, List.set_cons_zero, List.set_cons_succ]
        refine hlTake 7 (v := ?v7) rfl (by kernel_rfl) (by kernel_rfl) (by kernel_rfl) (by kernel_rfl) (fun _ _ _ h => h) (by rfl) ?hy7 hH ?rest7
        case hy7 => ((intro w hSw); (try dsimp only at hSw); go_simp); try with_reducible rfl
        try simp only [Act.put, List.setIfInBounds_toArray, List.set_cons_zero, List.set_cons_succ]
        refine hlTake 8 (v := ?v8) rfl (by kernel_rfl) (by kernel_rfl) (by kernel_rfl) (by kernel_rfl) (fun _ _ _ h => h) (by rfl) ?hy8 hH ?rest8
        case hy8 => ((intro w hSw); (try dsimp only at hSw); go_simp); try with_reducible rfl
        try simp only [Act.put, List.setIfInBounds_toArray, List.set_cons_zero, List.set_cons_succ]
        refine hlTake 9 (v := ?v9) rfl (by kernel_rfl) (by kernel_rfl) (by kernel_rfl) (by kernel_rfl) (fun _ _ _ h => h) (by rfl) ?hy9 hH ?rest9
        case hy9 => ((intro w hSw); (try dsimp only at hSw); go_simp); try with_reducible rfl
        try simp only [Act.put, List.setIfInBounds_toArray, List.set_cons_zero, List.set_cons_succ]
        refine hlTake 10 (v := ?v10) rfl (by kernel_rfl) (by kernel_rfl) (by kernel_rfl) (by kernel_rfl) (fun _ _ _ h => h) (by rfl) ?hy10 hH ?rest10
        case hy10 => ((intro w hSw); (try dsimp only at hSw); go_simp); try with_reducible rfl
        try simp only [Act.put, List.setIfInBounds_toArray, List.set_cons_zero, List.set_cons_succ]
        refine hlStep 11 rfl (by kernel_rfl) (by kernel_rfl) (fun KK hKK => ?_)
        go_simp
        refine hKK.out _ _ ?_
        clear hKK KK
        try simp only [Act.put, List.setIfInBounds_toArray, List.set_cons_zero, List.set_cons_succ]
        refine hlDone (by kernel_rfl) ?_ _
        rotate_left 1
        have hce := (HSS.out _ BE.out).2
        clear BD hH hie
        go_upto_region 28 with fail
        clear hce
        go_loopw [23] (fun s23 wr => ∃ k : Nat, k ≤ ne ∧ s23 = .int .i64 k ∧ Hid (Below wC.heap.size wC wr)) (fun s23 _ => ne - (intOf s23).toNat)
        case atStart => exact ⟨0, Nat.zero_le _, rfl, BE.out⟩
        case round =>
          clear BE
          obtain ⟨k, hk, rfl, BK⟩ := hrel
          have hce := (HSS.out _ BK.out).2
          by_cases hlk : k < ne
          · have hlkI : (k : Int) < (ne : Int) := by omega
            have hwk : IntKind.i64.wrap ((k : Int) + 1) = (k : Int) + 1 := IntWalk.i64_in _ (by omega)
            have hkx : k < xe.length := by rw [HNE.out]; exact hlk
            have HIK := Lib.hid (HI.out.2.1 k hkx)
            have BD := Lib.hid (BK.out.drew)
            go_upto_region 30 with fail
            clear hce
            refine wp_region_L [0, 1, 2, 3, 4, 5, 6, 7, 8, 9, 10, 11, 12, 13] (S := fun W => (W.cell? ⟨bP, 0, none⟩ = some (.slice a1 n.ns.length c1) ∧ W.cell? ⟨bP, 1, none⟩ = some (.slice a2 n.fs.length c2) ∧ W.cell? ⟨bP, 2, none⟩ = some (.slice a3 ps.length c3)) ∧ W.cell? ⟨bl, ol + i, none⟩ = some (.slice ae ne ce)) (by kernel_rfl) (HSS.out _ BD.out) (fun hH => ?_)
            refine hlTake 0 (v := ?v11) rfl (by kernel_rfl) (by kernel_rfl) (by kernel_rfl) (by kernel_rfl) (fun _ _ _ h => h) (by rfl) ?hy11 hH ?rest11
            case hy11 => ((intro w hSw); (try dsimp only at hSw); go_simp); try with_reducible rfl
            try simp only [Act.put, List.setIfInBounds_toArray, List.set_cons_zero, List.set_cons_succ]
            refine hlTake 1 (v := ?v12) rfl (by kernel_rfl) (by kernel_rfl) (by kernel_rfl) (by kernel_rfl) (fun _ _ _ h => h) (by rfl) ?hy12 hH ?rest12
            case hy12 => ((intro w hSw); (try dsimp only at hSw); go_simp); try with_reducible rfl
            try simp only [Act.put, List.setIfInBounds_toArray, List.set_cons_zero, List.set_cons_succ]
            refine hlTake 2 (v := ?v13) rfl (by kernel_rfl) (by kernel_rfl) (by kernel_rfl) (by kernel_rfl) (fun _ _ _ h => h) (by rfl) ?hy13 hH ?rest13
            case hy13 => ((intro w hSw); (try dsimp only at hSw); go_simp); try with_reducible rfl
            try simp only [Act.put, List.setIfInBounds_toArray, List.set_cons_zero, List.set_cons_succ]
            refine hlTake 3 (v := ?v14) rfl (by kernel_rfl) (by kernel_rfl) (by kernel_rfl) (by kernel_rfl) (fun _ _ _ h => h) (by rfl) ?hy14 hH ?rest14
            case hy14 => ((intro w hSw); (try dsimp only at hSw); go_simp); try with_reducible rfl
            try simp only [Act.put, List.setIfInBounds_toArray, List.set_cons_zero, List.set_cons_succ]
            refine hlTake 4 (v := ?v15) rfl (by kernel_rfl) (by kernel_rfl) (by kernel_rfl) (by kernel_rfl) (fun _ _ _ h => h) (by rfl) ?hy15 hH ?rest15
            case hy15 => ((intro w hSw); (try dsimp only at hSw); go_simp); try with_reducible rfl
            try simp only [Act.put, List.setIfInBounds_toArray, List.set_cons_zero, List.set_cons_succ]
            refine hlTake 5 (v := ?v16) rfl (by kernel_rfl) (by kernel_rfl) (by kernel_rfl) (by kernel_rfl) (fun _ _ _ h => h) (by rfl) ?hy16 hH ?rest16
            case hy16 => ((intro w hSw); (try dsimp only at hSw); go_simp); try with_reducible rfl
            try simp only [Act.put, List.setIfInBounds_toArray, List.set_cons_zero, List.set_cons_succ]
            refine hlTake 6 (v := ?v17) rfl (by kernel_rfl) (by kernel_rfl) (by kernel_rfl) (by kernel_rfl) (fun _ _ _ h => h) (by rfl) ?hy17 hH ?rest17
            case hy17 => ((intro w hSw); (try dsimp only at hSw); go_simp); try with_reducible rfl
            try simp only [Act.put, List.setIfInBounds_toArray, List.set_cons_zero, List.set_cons_succ]
            refine hlReady (rs := [7]) (by kernel_rfl) (by simp) ?_
            refine AllReadyL.cons rfl (fun KK hKK => ?_) AllReadyL.nil
            -- order 7
            go_simp
            go_at_call 51
            refine (rWithout_any _ xe k _ (UE.out.belowAll BD.out) hkx (by rw [HNE.out]; omega)).mono ?_
            rintro e wF ⟨vw, rfl, ow, bF⟩
            have BF := Lib.hid (BD.out.trans (bF.mono BD.out.size))
            obtain ⟨aw, cw, nw, -, hvw, -, -, -⟩ := ow.rd.opn
            subst hvw
            refine hKK.out _ _ (HSS.out _ BF.out) (fun hH => ?_)
            clear hKK KK
            try simp only [Act.put, List.setIfInBounds_toArray, List.set_cons_zero, List.set_cons_succ]
            refine hlReady (rs := [8]) (by kernel_rfl) (by simp) ?_
            refine AllReadyL.cons rfl (fun KK hKK => ?_) AllReadyL.nil
            -- order 7 8
            go_simp
            go_at_call 22
            refine (implIe_any _ _ _ p xs (xe.eraseIdx k) _ (MA.out.below BF.out).pr (DA.out.belowAll BF.out) ow.rd MA.out.fb).mono ?_
            rintro e wG ⟨rfl, bG⟩
            have BG := Lib.hid (BF.out.trans (bG.mono BF.out.size))
            have hie := HIK.out.1
            rw [hie.1, hie.2]
            refine hKK.out _ _ (HSS.out _ BG.out) (fun hH => ?_)
            clear hKK KK
            try simp only [Act.put, List.setIfInBounds_toArray, List.set_cons_zero, List.set_cons_succ]
            refine hlTake 9 (v := ?v18) rfl (by kernel_rfl) (by kernel_rfl) (by kernel_rfl) (by kernel_rfl) (fun _ _ _ h => h) (by rfl) ?hy18 hH ?rest18
            case hy18 => ((intro w hSw); (try dsimp only at hSw); go_simp); try with_reducible rfl
            try simp only [Act.put, List.setIfInBounds_toArray, List.set_cons_zero, List.set_cons_succ]
            refine hlTake 10 (v := ?v19) rfl (by kernel_rfl) (by kernel_rfl) (by kernel_rfl) (by kernel_rfl) (fun _ _ _ h => h) (by rfl) ?hy19 hH ?rest19
            case hy19 => ((intro w hSw); (try dsimp only at hSw); go_simp); try with_reducible rfl
            try simp only [Act.put, List.setIfInBounds_toArray, List.set_cons_zero, List.set_cons_succ]
            refine hlTake 11 (v := ?v20) rfl (by kernel_rfl) (by kernel_rfl) (by kernel_rfl) (by kernel_rfl) (fun _ _ _ h => h) (by rfl) ?hy20 hH ?rest20
            case hy20 => ((intro w hSw); (try dsimp only at hSw); go_simp); try with_reducible rfl
            try simp only [Act.put, List.setIfInBounds_toArray, List.set_cons_zero, List.set_cons_succ]
            refine hlTake 12 (v := ?v21) rfl (by kernel_rfl) (by kernel_rfl) (by kernel_rfl) (by kernel_rfl) (fun _ _ _ h => h) (by rfl) ?hy21 hH ?rest21
            case hy21 => ((intro w hSw); (try dsimp only at hSw); go_simp); try with_reducible rfl
            try simp only [Act.put, List.setIfInBounds_toArray, List.set_cons_zero, List.set_cons_succ]
            refine hlStep 13 rfl (by kernel_rfl) (by kernel_rfl) (fun KK hKK => ?_)
            go_simp
            refine hKK.out _ _ ?_
            clear hKK KK
            try simp only [Act.put, List.setIfInBounds_toArray, List.set_cons_zero, List.set_cons_succ]
            refine hlDone (by kernel_rfl) ?_ _
            rotate_left 1
            have hce := (HSS.out _ BG.out).2
            obtain ⟨be, oe, hae', hbe, hch⟩ := HAE.out (by omega)
            subst hae'
            have hbeC : be < wC.heap.size := hbe
            have hck := (BG.out.cell (p := ⟨be, oe + k, none⟩) hbeC).trans (hch k hlk)
            have hpo := HIK.out.2
            generalize xe[k]?.getD 0 = ye at *
            have HPY := Lib.hid hpo
            clear hch hpo BF BD hH hie ow
            go_wp2_with fail
            refine (vHas_any _ (cgP p xs) ye _ (PA.out.belowAll BG.out)).mono ?_
            rintro e wH ⟨rfl, rfl⟩
            rw [HPY.out]
            go_wp2_with fail
            clear hce hck
            go_roundw
            case rel => exact ⟨k + 1, by omega, by go_num, BG.out⟩
            case measure => simp [intOf]; omega
          · obtain rfl : k = ne := by omega
            go_upto_region 34 with fail
            clear hce
            go_loopw [26] (fun s26 wr => ∃ q : Nat, q ≤ ncr ∧ s26 = .int .i64 q ∧ Hid (Below wC.heap.size wC wr)) (fun s26 _ => ncr - (intOf s26).toNat)
            case atStart => exact ⟨0, Nat.zero_le _, rfl, BK.out⟩
            case round =>
              clear BK
              obtain ⟨q, hq, rfl, BQ⟩ := hrel
              by_cases hlq : q < ncr
              · have hlqI : (q : Int) < (ncr : Int) := by omega
                have hwq : IntKind.i64.wrap ((q : Int) + 1) = (q : Int) + 1 := IntWalk.i64_in _ (by omega)
                obtain ⟨bc, oc, hac', hbc, hcc⟩ := HACR.out (by omega)
                subst hac'
                have hcq := hcc q hlq
                have hyc : xe.contains ((cgC p xs)[q]?.getD 0) = true := HI.out.2.2 _ (by rw [List.getElem?_eq_getElem (by rw [HNCR.out]; exact hlq)]; exact List.getElem_mem _)
                generalize (cgC p xs)[q]?.getD 0 = yq at *
                have HYQ := Lib.hid hyc
                have BD := Lib.hid (BQ.out.drew)
                have HQQ := Lib.hid (fun (W : World) (hb : Below wC.heap.size wC W) => show W.cell? ⟨bl, ol + i, none⟩ = some (.slice ae k ce) ∧ W.cell? ⟨bc, oc + q, none⟩ = some (.int .i64 yq) from ⟨(HSS.out _ hb).2, (hb.cell (p := ⟨bc, oc + q, none⟩) hbc).trans hcq⟩)
                have hcqb := (BQ.out.cell (p := ⟨bc, oc + q, none⟩) hbc).trans hcq
                clear hcc hcq hyc
                go_upto_region 36 with fail
                clear hcqb
                refine wp_region_L [0, 1, 2, 3, 4, 5, 6, 7, 8, 9] (S := fun W => W.cell? ⟨bl, ol + i, none⟩ = some (.slice ae k ce) ∧ W.cell? ⟨bc, oc + q, none⟩ = some (.int .i64 yq)) (by kernel_rfl) (HQQ.out _ BD.out) (fun hH => ?_)
                refine hlTake 0 (v := ?v22) rfl (by kernel_rfl) (by kernel_rfl) (by kernel_rfl) (by kernel_rfl) (fun _ _ _ h => h) (by rfl) ?hy22 hH ?rest22
                case hy22 => ((intro w hSw); (try dsimp only at hSw); go_simp); try with_reducible rfl
                try simp only [Act.put, List.setIfInBounds_toArray, List.set_cons_zero, List.set_cons_succ]
                refine hlTake 1 (v := ?v23) rfl (by kernel_rfl) (by kernel_rfl) (by kernel_rfl) (by kernel_rfl) (fun _ _ _ h => h) (by rfl) ?hy23 hH ?rest23
                case hy23 => ((intro w hSw); (try dsimp only at hSw); go_simp); try with_reducible rfl
                try simp only [Act.put, List.setIfInBounds_toArray, List.set_cons_zero, List.set_cons_succ]
                refine hlTake 2 (v := ?v24) rfl (by kernel_rfl) (by kernel_rfl) (by kernel_rfl) (by kernel_rfl) (fun _ _ _ h => h) (by rfl) ?hy24 hH ?rest24
                case hy24 => ((intro w hSw); (try dsimp only at hSw); go_simp); try with_reducible rfl
                try simp only [Act.put, List.setIfInBounds_toArray, List.set_cons_zero, List.set_cons_succ]
                refine hlTake 3 (v := ?v25) rfl (by kernel_rfl) (by kernel_rfl) (by kernel_rfl) (by kernel_rfl) (fun _ _ _ h => h) (by rfl) ?hy25 hH ?rest25
                case hy25 => ((intro w hSw); (try dsimp only at hSw); go_simp); try with_reducible rfl
                try simp only [Act.put, List.setIfInBounds_toArray, List.set_cons_zero, List.set_cons_succ]
                refine hlTake 4 (v := ?v26) rfl (by kernel_rfl) (by kernel_rfl) (by kernel_rfl) (by kernel_rfl) (fun _ _ _ h => h) (by rfl) ?hy26 hH ?rest26
                case hy26 => ((intro w hSw); (try dsimp only at hSw); go_simp); try with_reducible rfl
                try simp only [Act.put, List.setIfInBounds_toArray, List.set_cons_zero, List.set_cons_succ]
                refine hlTake 5 (v := ?v27) rfl (by kernel_rfl) (by kernel_rfl) (by kernel_rfl) (by kernel_rfl) (fun _ _ _ h => h) (by rfl) ?hy27 hH ?rest27
                case hy27 => ((intro w hSw); (try dsimp only at hSw); go_simp); try with_reducible rfl
                try simp only [Act.put, List.setIfInBounds_toArray, List.set_cons_zero, List.set_cons_succ]
                refine hlTake 6 (v := ?v28) rfl (by kernel_rfl) (by kernel_rfl) (by kernel_rfl) (by kernel_rfl) (fun _ _ _ h => h) (by rfl) ?hy28 hH ?rest28
                case hy28 => ((intro w hSw); (try dsimp only at hSw); go_simp); try with_reducible rfl
                try simp only [Act.put, List.setIfInBounds_toArray, List.set_cons_zero, List.set_cons_succ]
                refine hlTake 7 (v := ?v29) rfl (by kernel_rfl) (by kernel_rfl) (by kernel_rfl) (by kernel_rfl) (fun _ _ _ h => h) (by rfl) ?hy29 hH ?rest29
                case hy29 => ((intro w hSw); (try dsimp only at hSw); go_simp); try with_reducible rfl
                try simp only [Act.put, List.setIfInBounds_toArray, List.set_cons_zero, List.set_cons_succ]
                refine hlReady (rs := [8]) (by kernel_rfl) (by simp) ?_
                refine AllReadyL.cons rfl (fun KK hKK => ?_) AllReadyL.nil
                -- order 8
                go_simp
                go_at_call 33
                refine (vHas_any _ xe yq _ (UE.out.belowAll BD.out)).mono ?_
                rintro e wH ⟨rfl, rfl⟩
                rw [HYQ.out]
                refine hKK.out _ _ (HQQ.out _ BD.out) (fun hH => ?_)
                clear hKK KK
                try simp only [Act.put, List.setIfInBounds_toArray, List.set_cons_zero, List.set_cons_succ]
                refine hlStep 9 rfl (by kernel_rfl) (by kernel_rfl) (fun KK hKK => ?_)
                go_simp
                refine hKK.out _ _ ?_
                clear hKK KK
                try simp only [Act.put, List.setIfInBounds_toArray, List.set_cons_zero, List.set_cons_succ]
                refine hlDone (by kernel_rfl) ?_ _
                rotate_left 1
                clear hH
                go_wp2_with fail
                go_roundw
                case rel => exact ⟨q + 1, by omega, by go_num, BD.out⟩
                case measure => simp [intOf]; omega
              · obtain rfl : q = ncr := by omega
                go_wp2_with fail
                go_roundw
                case rel => exact ⟨i + 1, by omega, by go_num, BQ.out⟩
                case measure => simp [intOf]; omega
      · obtain rfl : i = nl := by omega
        have HB := Lib.hid (MA.out.below BI.out).bel
        go_wp2_with fail
        subst hNP
        exact ⟨rfl, HB.out⟩
end Go.Proofs.YtmkkdenhjfjmgaaGreat
