/- FnBursts: the walk of the law. -/
import Derived.Test.YtmkkdenhjfjmgaaGreatBf23
import Derived.Test.YtmkkdenhjfjmgaaGreatBf24
import Derived.Test.YtmkkdenhjfjmgaaGreatBf25
namespace Go.Proofs.YtmkkdenhjfjmgaaGreat
open Go.RowKit Go.Sort
set_option maxRecDepth 100000

def hasK (R : List (List Int)) (y : Int) (k : Nat) : Bool := (R.take k).any fun r => r.contains y
theorem hasK_0 (R : List (List Int)) (y : Int) : hasK R y 0 = false := rfl
theorem hasK_s {R : List (List Int)} {y : Int} {k : Nat} (h : k < R.length) : hasK R y (k + 1) = (hasK R y k || (R[k]?.getD []).contains y) := by
  unfold hasK
  rw [List.take_add_one, List.any_append, List.getElem?_eq_getElem h]
  simp
theorem hasK_all (R : List (List Int)) (y : Int) : hasK R y R.length = R.any fun r => r.contains y := by
  unfold hasK; rw [List.take_length]
set_option maxHeartbeats 12800000 in
theorem FnBursts_walk (a0 : Option Addr) (len0 cap0 : Nat) (z0 : List Int) (w : World) (hr : RawB w a0 len0 cap0 z0) :
    Calls Tryz.prog 9 #[.slice a0 len0 cap0] w fun e w' => e = .returned (.bool true) ∧ Below w.heap.size w w' := by
  show Calls Tryz.prog 9 #[.slice a0 len0 cap0] w (LawP w)
  by_cases hbig : (65536 : Int) < (len0 : Int)
  · have hd : decide ((65536 : Int) < (len0 : Int)) = true := by simpa using hbig
    go_enter Tryz.func9, Tryz.ntmps9
    go_wp2_with fail
    refine (vBig_any _ _ _ _).mono ?_
    rintro e w' ⟨rfl, rfl⟩
    go_wp2
    go_ret
    exact ⟨rfl, Below.refl _ _⟩
  have hd : decide ((65536 : Int) < (len0 : Int)) = false := by simpa using hbig
  have hrd := hr.rd (by omega)
  have HRL := Lib.hid (fun (w' : World) (hb : Below w.heap.size w w') => RdB.behind hrd hb)
  obtain ⟨NP, hNP⟩ : ∃ NP, NP = LawP w := ⟨_, rfl⟩
  rw [← hNP]
  have HRD := Lib.hid hrd
  clear hr hrd
  go_enter Tryz.func9, Tryz.ntmps9
  go_wp2_with fail
  refine (vBig_any _ _ _ _).mono ?_
  rintro e w' ⟨rfl, rfl⟩
  go_wp2_with fail
  refine (drawAB_any a0 len0 cap0 w HRD.out).mono ?_
  rintro e w1 ⟨v, zs, g, rfl, ha, hzl, hb1⟩
  obtain ⟨aA, nA, cA, rfl, HNA, -, -, -⟩ := flt_opn (m := 2) (enc := almE) (fun _ => rfl) (by omega) nilA ha.rd
  have RA := Lib.hid ha.rd
  have B1 := Lib.hid hb1
  have hnA : nA ≤ 60 := by have := HNA.out; omega
  clear ha hb1
  go_wp2_with fail
  refine (implAlb_any _ zs g w1 RA.out).mono ?_
  rintro e w2 ⟨v2, rfl, o2, b2⟩
  have B2 := Lib.hid (B1.out.trans (b2.mono B1.out.size))
  have RA2 := Lib.hid (RA.out.behind b2)
  have L2 := Lib.hid o2.rd
  obtain ⟨al, nl, cl, hvl, HNL, -, hnl, -⟩ := ssD_opn L2.out
  subst hvl
  clear RA B1 o2 b2
  go_wp2_with fail
  refine (specAlb_any _ zs g w2 RA2.out).mono ?_
  rintro e w3 ⟨v3, rfl, o3, b3⟩
  have B3 := Lib.hid (B2.out.trans (b3.mono B2.out.size))
  have RA3 := Lib.hid (RA2.out.behind b3)
  have L3 := Lib.hid (L2.out.behind b3)
  obtain ⟨aq, nq, cq, hvl, HNQ, -, -, -⟩ := ssD_opn o3.rd
  subst hvl
  obtain rfl : nl = nq := by have := HNL.out; have := HNQ.out; omega
  clear RA2 L2 o3 b3 B2
  have HBG := Lib.hid (fun h => @albOk_big zs g h)
  have HAB := Lib.hid (fun h => @alb_big zs g h)
  have HHA := Lib.hid (fun h i hi => @alb_has zs g h i hi)
  generalize hok : albOk zs g = ok at *
  have HOK := Lib.hid hok
  clear hok
  have hne1 : (ok != ok) = false := by simp
  have hne2 : ((nl : Int) != (nl : Int)) = false := by simp
  cases ok
  · have HRW := Lib.hid (HRL.out _ B3.out)
    clear HBG HAB HHA HRL HRD RA3 L3
    -- w3: the world, B3: Below w.heap.size w w3 (hidden), HRW: RdB
    go_wp2_with fail
    refine (drawPC_any a0 len0 cap0 w3 HRW.out).mono ?_
    rintro e y1 ⟨u1, u2, u3, v, n, ps, ys, g2, rfl, hdd, hay, hyl, hb1⟩
    obtain ⟨⟨a1, c1, rfl⟩, ⟨a2, c2, rfl⟩⟩ := hdd.n.slices
    obtain ⟨a3, c3, rfl⟩ := row_form0 hdd.l.row
    obtain ⟨aY, nY, cY, rfl, -, -, -, -⟩ := flt_opn (m := 2) (enc := almE) (fun _ => rfl) (by omega) nilA hay.rd
    have M2 := Lib.hid (Mm.mk' hdd hb1)
    have R2 := Lib.hid (hay.rd.behind ((Below.refl y1.heap.size y1).alloc (Nat.le_refl _) (.cells #[.slice a1 n.ns.length c1, .slice a2 n.fs.length c2, .slice a3 ps.length c3] 38)))
    clear hdd hay hb1
    go_upto_region 23 with fail
    generalize y1.alloc (.cells #[.slice a1 n.ns.length c1, .slice a2 n.fs.length c2, .slice a3 ps.length c3] 38) = y2 at *
    generalize y1.heap.size = bP at *
    generalize hp : (⟨n, ps.map Prod.fst⟩ : Pln) = p at *
    clear hp
    have ay0 := blkc M2.out.box (show _ = some (Value.slice a1 n.ns.length c1) from rfl) (j := 0)
    have ay1 := blkc M2.out.box (show _ = some (Value.slice a2 n.fs.length c2) from rfl) (j := 1)
    have ay2 := blkc M2.out.box (show _ = some (Value.slice a3 ps.length c3) from rfl) (j := 2)
    go_wp2_with fail
    refine (implPrb_any _ _ p ys g2 y2 M2.out.pr R2.out M2.out.fb).mono ?_
    rintro e y3 ⟨v3, rfl, o3, b3⟩
    have M3 := Lib.hid (M2.out.below b3)
    have R3 := Lib.hid (R2.out.behind b3)
    have L3 := Lib.hid o3.rd
    obtain ⟨apc, npc, cpc, hvp, HNP2, -, hnpc, -⟩ := ssD_opn L3.out
    subst hvp
    clear M2 R2 b3 o3 ay0 ay1 ay2
    have ay0 := blkc M3.out.box (show _ = some (Value.slice a1 n.ns.length c1) from rfl) (j := 0)
    have ay1 := blkc M3.out.box (show _ = some (Value.slice a2 n.fs.length c2) from rfl) (j := 1)
    have ay2 := blkc M3.out.box (show _ = some (Value.slice a3 ps.length c3) from rfl) (j := 2)
    go_wp2_with fail
    refine (specPrb_any _ _ p ys g2 y3 M3.out.pr R3.out M3.out.fb).mono ?_
    rintro e y4 ⟨v4, rfl, o4, b4⟩
    have M4 := Lib.hid (M3.out.below b4)
    have R4 := Lib.hid (R3.out.behind b4)
    have L4 := Lib.hid (L3.out.behind b4)
    obtain ⟨apd, npd, cpd, hvp, HNP3, -, -, -⟩ := ssD_opn o4.rd
    subst hvp
    obtain rfl : npc = npd := by have := HNP2.out; have := HNP3.out; omega
    clear M3 R3 L3 b4 o4 ay0 ay1 ay2
    have HPA := Lib.hid (fun h => @pc_at p ys g2 h)
    generalize hpk : pcOk p ys g2 = pk at *
    have HPK := Lib.hid hpk
    clear hpk
    have hpn1 : (pk != pk) = false := by simp
    have hpn2 : (pk == pk) = true := by simp
    have hpn3 : ((npc : Int) != (npc : Int)) = false := by simp
    have hpn4 : ((npc : Int) == (npc : Int)) = true := by simp
    cases pk
    · have HB := Lib.hid M4.out.bel
      go_wp2_with fail
      subst hNP
      exact ⟨rfl, (Hid.out B3).trans (HB.out.mono (Hid.out B3).size)⟩
    have HPC := Lib.hid (HPA.out (by first | rfl | trivial))
    clear HPA
    go_upto_region 27 with fail
    go_wp2_with fail
    refine (implAlb_any _ ys g2 y4 R4.out).mono ?_
    rintro e yA ⟨v5, rfl, o5, b5⟩
    rw [HPC.out.1]
    have MA := Lib.hid (M4.out.below b5)
    have LA := Lib.hid (L4.out.behind b5)
    have QA := Lib.hid o5.rd
    obtain ⟨aal, nal, cal, hvp, HNA2, -, -, hal⟩ := ssD_opn QA.out
    subst hvp
    obtain ⟨apc', npc', cpc', hvl', HNL', -, -, hpl⟩ := ssD_opn LA.out
    simp only [Value.slice.injEq] at hvl'
    obtain ⟨rfl, rfl, rfl⟩ := hvl'
    obtain rfl : npc = nal := by have := HNA2.out; have := HNP2.out; have := HPC.out.2.1; omega
    have HAL := Lib.hid hal
    have HPL := Lib.hid hpl
    clear hal hpl M4 R4 L4 b5 o5 QA LA
    go_upto_region 31 with fail
    go_loopw [23] (fun s23 wr => ∃ i : Nat, i ≤ npc ∧ s23 = .int .i64 i ∧ Hid (Below yA.heap.size yA wr)) (fun s23 _ => npc - (intOf s23).toNat)
    case atStart => exact ⟨0, Nat.zero_le _, rfl, Below.refl _ _⟩
    case round =>
      obtain ⟨i, hi, rfl, BI⟩ := hrel
      by_cases hlt : i < npc
      · have hltI : (i : Int) < (npc : Int) := by omega
        have hwi : IntKind.i64.wrap ((i : Int) + 1) = (i : Int) + 1 := IntWalk.i64_in _ (by omega)
        obtain ⟨bl, ol, rfl, hbl, hcl⟩ := HPL.out (by omega)
        obtain ⟨ue, hce, hue⟩ := hcl i hlt
        obtain ⟨ae, ce, ne, HNE, hve, -, -, -⟩ := hue.opn
        subst hve
        obtain ⟨bm, om, rfl, hbm, hcm⟩ := HAL.out (by omega)
        obtain ⟨uf, hcf, huf⟩ := hcm i hlt
        obtain ⟨af, cf, nf, -, hvf, -, -, -⟩ := huf.opn
        subst hvf
        have UE := Lib.hid hue
        have UF := Lib.hid huf
        have HII := Lib.hid (HPC.out.2.2 i (by have := HNP2.out; omega))
        have HSS := Lib.hid (fun (W : World) (hb : Below yA.heap.size yA W) => show (W.cell? ⟨bP, 0, none⟩ = some (.slice a1 n.ns.length c1) ∧ W.cell? ⟨bP, 1, none⟩ = some (.slice a2 n.fs.length c2) ∧ W.cell? ⟨bP, 2, none⟩ = some (.slice a3 ps.length c3)) ∧ W.cell? ⟨bl, ol + i, none⟩ = some (.slice ae ne ce) ∧ W.cell? ⟨bm, om + i, none⟩ = some (.slice af nf cf) from
          ⟨⟨blkc (Lib.hid (MA.out.below hb)).out.box rfl, blkc (Lib.hid (MA.out.below hb)).out.box rfl, blkc (Lib.hid (MA.out.below hb)).out.box rfl⟩, (hb.cell (p := ⟨bl, ol + i, none⟩) hbl).trans hce, (hb.cell (p := ⟨bm, om + i, none⟩) hbm).trans hcf⟩)
        generalize hxe : (pcR p ys g2)[i]?.getD [] = xe at *
        generalize hxf : (albR ys g2)[i]?.getD [] = xf at *
        clear hcl hce hue hcm hcf huf hxe hxf
        have hci := (HSS.out _ BI.out).2.1
        by_cases hz : ne = 0
        · subst hz
          have hz1 : ((0 : Nat) : Int) = 0 := rfl
          go_wp2_with fail
          clear hci
          go_roundw
          case rel => exact ⟨i + 1, by omega, by go_num, BI.out⟩
          case measure => simp [intOf]; omega
        have hzi : ¬ (ne : Int) = 0 := by omega
        have hzb : ((ne : Int) == 0) = false := by rw [beq_eq_false_iff_ne]; exact hzi
        have hzd : decide ((ne : Int) = 0) = false := decide_eq_false hzi
        have hzn : decide (ne = 0) = false := decide_eq_false hz
        have HIE := Lib.hid (HII.out (by have := HNE.out; omega))
        have BD := Lib.hid (BI.out.drew)
        go_upto_region 34 with fail
        clear hci
        refine wp_region_L [0, 1, 2, 3, 4, 5, 6, 7, 8, 9, 10, 11, 12, 13, 14] (S := fun W => (W.cell? ⟨bP, 0, none⟩ = some (.slice a1 n.ns.length c1) ∧ W.cell? ⟨bP, 1, none⟩ = some (.slice a2 n.fs.length c2) ∧ W.cell? ⟨bP, 2, none⟩ = some (.slice a3 ps.length c3)) ∧ W.cell? ⟨bl, ol + i, none⟩ = some (.slice ae ne ce) ∧ W.cell? ⟨bm, om + i, none⟩ = some (.slice af nf cf)) (by kernel_rfl) (HSS.out _ BD.out) (fun hH => ?_)
        refine hlTake 0 (v := ?v1) rfl (by kernel_rfl) (by kernel_rfl) (by kernel_rfl) (by kernel_rfl) (fun _ _ _ h => h) (by rfl) ?hy1 hH ?rest1
        case hy1 => ((intro w hSw); (try dsimp only at hSw); go_simp); try with_reducible rfl
        try simp only [Act.put, List.setIfInBounds_toArray, List.set_cons_zero, List.set_cons_succ]
        refine hlTake 1 (v := ?v2) rfl (by kernel_rfl) (by kernel_rfl) (by kernel_rfl) (by kernel_rfl) (fun _ _ _ h => h) (by rfl) ?hy2 hH ?rest2
        case hy2 => ((intro w hSw); (try dsimp only at hSw); go_simp); try with_reducible rfl
        try simp only [Act.put, List.setIfInBounds_toArray, List.set_cons_zero, List.set_cons_succ]
        refine hlTake 2 (v := ?v3) rfl (by kernel_rfl) (by kernel_rfl) (by kernel_rfl) (by kernel_rfl) (fun _ _ _ h => h) (by rfl) ?hy3 hH ?rest3
        case hy3 => ((intro w hSw); (try dsimp only at hSw); go_simp); try with_reducible rfl
        try simp only [Act.put, List.setIfInBounds_toArray, List.set_cons_zero, List.set_cons_succ]
        refine hlTake 3 (v := ?v4) rfl (by kernel_rfl) (by kernel_rfl) (by kernel_rfl) (by kernel_rfl) (fun _ _ _ h => h) (by rfl) ?hy4 hH ?rest4
        case hy4 => ((intro w hSw); (try dsimp only at hSw); go_simp); try with_reducible rfl
        try simp only [Act.put, List.setIfInBounds_toArray, List.set_cons_zero, List.set_cons_succ]
        refine hlTake 4 (v := ?v5) rfl (by kernel_rfl) (by kernel_rfl) (by kernel_rfl) (by kernel_rfl) (fun _ _ _ h => h) (by rfl) ?hy5 hH ?rest5
        case hy5 => ((intro w hSw); (try dsimp only at hSw); go_simp); try with_reducible rfl
        try simp only [Act.put, List.setIfInBounds_toArray, List.set_cons_zero, List.set_cons_succ]
        refine hlTake 5 (v := ?v6) rfl (by kernel_rfl) (by kernel_rfl) (by kernel_rfl) (by kernel_rfl) (fun _ _ _ h => h) (by rfl) ?hy6 hH ?rest6
        case hy6 => ((intro w hSw); (try dsimp only at hSw); go_simp); try with_reducible rfl
        try simp only [Act.put, List.setIfInBounds_toArray, List.set_cons_zero, List.set_cons_succ]
        refine hlTake 6 (v := ?v7) rfl (by kernel_rfl) (by kernel_rfl) (by kernel_rfl) (by kernel_rfl) (fun _ _ _ h => h) (by rfl) ?hy7 hH ?rest7
        case hy7 => ((intro w hSw); (try dsimp only at hSw); go_simp); try with_reducible rfl
        try simp only [Act.put, List.setIfInBounds_toArray, List.set_cons_zero, List.set_cons_succ]
        refine hlTake 7 (v := ?v8) rfl (by kernel_rfl) (by kernel_rfl) (by kernel_rfl) (by kernel_rfl) (fun _ _ _ h => h) (by rfl) ?hy8 hH ?rest8
        case hy8 => ((intro w hSw); (try dsimp only at hSw); go_simp); try with_reducible rfl
        try simp only [Act.put, List.setIfInBounds_toArray, List.set_cons_zero, List.set_cons_succ]
        refine hlTake 8 (v := ?v9) rfl (by kernel_rfl) (by kernel_rfl) (by kernel_rfl) (by kernel_rfl) (fun _ _ _ h => h) (by rfl) ?hy9 hH ?rest9
        case hy9 => ((intro w hSw); (try dsimp only at hSw); go_simp); try with_reducible rfl
        try simp only [Act.put, List.setIfInBounds_toArray, List.set_cons_zero, List.set_cons_succ]
        refine hlReady (rs := [9]) (by kernel_rfl) (by simp) ?_
        refine AllReadyL.cons rfl (fun KK hKK => ?_) AllReadyL.nil
        -- order 9
        go_simp
        go_at_call 22
        refine (implIe_any _ _ _ p xf xe _ (MA.out.below BD.out).pr (UF.out.belowAll BD.out) (UE.out.belowAll BD.out) MA.out.fb).mono ?_
        rintro e wE ⟨rfl, bE⟩
        have BE := Lib.hid (BD.out.trans (bE.mono BD.out.size))
        have hie := HIE.out
        rw [hie.1, hie.2]
        refine hKK.out _ _ (HSS.out _ BE.out) (fun hH => ?_)
        clear hKK KK
        try simp only [Act.put, List.setIfInBounds_toArray, List.set_cons_zero, List.set_cons_succ]
        refine hlTake 10 (v := ?v10) rfl (by kernel_rfl) (by kernel_rfl) (by kernel_rfl) (by kernel_rfl) (fun _ _ _ h => h) (by rfl) ?hy10 hH ?rest10
        case hy10 => ((intro w hSw); (try dsimp only at hSw); go_simp); try with_reducible rfl
        try simp only [Act.put, List.setIfInBounds_toArray, List.set_cons_zero, List.set_cons_succ]
        refine hlTake 11 (v := ?v11) rfl (by kernel_rfl) (by kernel_rfl) (by kernel_rfl) (by kernel_rfl) (fun _ _ _ h => h) (by rfl) ?hy11 hH ?rest11
        case hy11 => ((intro w hSw); (try dsimp only at hSw); go_simp); try with_reducible rfl
        try simp only [Act.put, List.setIfInBounds_toArray, List.set_cons_zero, List.set_cons_succ]
        refine hlTake 12 (v := ?v12) rfl (by kernel_rfl) (by kernel_rfl) (by kernel_rfl) (by kernel_rfl) (fun _ _ _ h => h) (by rfl) ?hy12 hH ?rest12
        case hy12 => ((intro w hSw); (try dsimp only at hSw); go_simp); try with_reducible rfl
        try simp only [Act.put, List.setIfInBounds_toArray, List.set_cons_zero, List.set_cons_succ]
        refine hlTake 13 (v := ?v13) rfl (by kernel_rfl) (by kernel_rfl) (by kernel_rfl) (by kernel_rfl) (fun _ _ _ h => h) (by rfl) ?hy13 hH ?rest13
        case hy13 => ((intro w hSw); (try dsimp only at hSw); go_simp); try with_reducible rfl
        try simp only [Act.put, List.setIfInBounds_toArray, List.set_cons_zero, List.set_cons_succ]
        refine hlStep 14 rfl (by kernel_rfl) (by kernel_rfl) (fun KK hKK => ?_)
        go_simp
        refine hKK.out _ _ ?_
        clear hKK KK
        try simp only [Act.put, List.setIfInBounds_toArray, List.set_cons_zero, List.set_cons_succ]
        refine hlDone (by kernel_rfl) ?_ _
        rotate_left 1
        clear BD hH hie
        go_wp2_with fail
        go_roundw
        case rel => exact ⟨i + 1, by omega, by go_num, BE.out⟩
        case measure => simp [intOf]; omega
      · obtain rfl : i = npc := by omega
        have HB := Lib.hid (MA.out.below BI.out).bel
        go_wp2_with fail
        subst hNP
        exact ⟨rfl, (Hid.out B3).trans (HB.out.mono (Hid.out B3).size)⟩
  have HBH := Lib.hid (HBG.out (by first | rfl | trivial))
  have HAC := Lib.hid (HAB.out (by first | rfl | trivial))
  have HHB := Lib.hid (HHA.out (by first | rfl | trivial))
  clear hne1 hne2 HBG HAB HHA
  go_upto_region 9 with fail
  go_wp2_with fail
  refine (implAlb_any _ zs 1000000 w3 RA3.out).mono ?_
  rintro e w4 ⟨v4, rfl, o4, b4⟩
  rw [HBH.out]
  have B4 := Lib.hid (B3.out.trans (b4.mono B3.out.size))
  have RA4 := Lib.hid (RA3.out.behind b4)
  have L4 := Lib.hid (L3.out.behind b4)
  obtain ⟨ah, nh, ch, hvl, HNH, -, -, -⟩ := ssD_opn o4.rd
  subst hvl
  have hnh1 : nh ≤ 1 := by have := HNH.out; have := HAC.out.1; omega
  have hnh2 : nh ≤ nl := by have := HNH.out; have := HNL.out; have := HAC.out.2; omega
  have hq1 : decide ((nl : Int) < (nh : Int)) = false := decide_eq_false (by omega)
  have hq2 : decide ((1 : Int) < (nh : Int)) = false := decide_eq_false (by omega)
  have hq3 : decide (nl < nh) = false := decide_eq_false (by omega)
  have hq4 : decide (1 < nh) = false := decide_eq_false (by omega)
  obtain ⟨al', nl', cl', hvl', HNL', -, -, hcl⟩ := ssD_opn L4.out
  simp only [Value.slice.injEq] at hvl'
  obtain ⟨rfl, rfl, rfl⟩ := hvl'
  obtain ⟨aA', nA', cA', hvl', HNA', -, -, hca⟩ := flt_opn (m := 2) (enc := almE) (fun _ => rfl) (by omega) nilA RA4.out
  simp only [Value.slice.injEq] at hvl'
  obtain ⟨rfl, rfl, rfl⟩ := hvl'
  have HCL := Lib.hid hcl
  have HCA := Lib.hid hca
  clear RA3 L3 B3 o4 b4 hcl hca L4 RA4
  go_upto_region 13 with fail
  go_loopw [11] (fun s11 wr => ∃ i : Nat, i ≤ nA ∧ s11 = .int .i64 i ∧ Hid (Below w4.heap.size w4 wr)) (fun s11 _ => nA - (intOf s11).toNat)
  case atStart => exact ⟨0, Nat.zero_le _, rfl, Below.refl _ _⟩
  case round =>
    obtain ⟨i, hi, rfl, BI⟩ := hrel
    by_cases hlt : i < nA
    · have hltI : (i : Int) < (nA : Int) := by omega
      have hwi : IntKind.i64.wrap ((i : Int) + 1) = (i : Int) + 1 := IntWalk.i64_in _ (by omega)
      have HHI := Lib.hid (show hasK (albR zs g) (zs[i]?.getD nilA).l nl = true from by
        have h := HHB.out i (by rw [HNA.out]; exact hlt)
        rw [← HNL.out, hasK_all]; exact h)
      have HKS := Lib.hid (fun k (h : k < nl) => @hasK_s (albR zs g) (zs[i]?.getD nilA).l k (by rw [HNL.out]; exact h))
      have HK0 := Lib.hid (hasK_0 (albR zs g) (zs[i]?.getD nilA).l)
      obtain ⟨ba, oa, rfl, hba, hca⟩ := HCA.out (by omega)
      have hcz : w4.cell? ⟨ba, oa + i * 2 + 1, none⟩ = some (.int .i64 (zs[i]?.getD nilA).l) := hca i hlt 1 _ rfl
      have HCZ := Lib.hid hcz
      generalize (zs[i]?.getD nilA).l = zl at *
      clear hca hcz
      go_upto_region 17 with fail
      go_loopw [12, 13] (fun s12 s13 wr => ∃ k : Nat, k ≤ nl ∧ s12 = .bool (hasK (albR zs g) zl k) ∧ s13 = .int .i64 k ∧ Hid (Below w4.heap.size w4 wr)) (fun _ s13 _ => nl - (intOf s13).toNat)
      case atStart => exact ⟨0, Nat.zero_le _, by rw [HK0.out], rfl, BI.out⟩
      case round =>
        clear BI
        obtain ⟨k, hk, rfl, rfl, BK⟩ := hrel
        by_cases hlk : k < nl
        · have hlkI : (k : Int) < (nl : Int) := by omega
          have hwk : IntKind.i64.wrap ((k : Int) + 1) = (k : Int) + 1 := IntWalk.i64_in _ (by omega)
          have HSK := Lib.hid (HKS.out k hlk)
          obtain ⟨bl, ol, rfl, hbl, hcl⟩ := HCL.out (by omega)
          obtain ⟨ue, hce, hue⟩ := hcl k hlk
          obtain ⟨ae, ce, ne, -, hve, -, -, -⟩ := hue.opn
          subst hve
          have UE := Lib.hid hue
          have HSS := Lib.hid (fun (W : World) (hb : Below w4.heap.size w4 W) => show W.cell? ⟨bl, ol + k, none⟩ = some (.slice ae ne ce) ∧ W.cell? ⟨ba, oa + i * 2 + 1, none⟩ = some (.int .i64 zl) from
            ⟨(hb.cell (p := ⟨bl, ol + k, none⟩) hbl).trans hce, (hb.cell (p := ⟨ba, oa + i * 2 + 1, none⟩) hba).trans HCZ.out⟩)
          generalize (albR zs g)[k]?.getD [] = xe at *
          generalize htk : hasK (albR zs g) zl k = tk at *
          have BD := Lib.hid (BK.out.drew)
          clear hcl hce hue htk
          cases tk
          · obtain ⟨tk', HTK⟩ : ∃ t, Hid (hasK (albR zs g) zl (k + 1) = t) := ⟨_, Lib.hid rfl⟩
            have HTC := Lib.hid (show xe.contains zl = tk' from by
              have hsk := HSK.out
              rw [Bool.false_or] at hsk
              rw [← hsk]; exact HTK.out)
            go_upto_region 19 with fail
            refine wp_region_L [0, 1, 2, 3, 4, 5, 6, 7, 8, 9, 10, 11, 12, 13] (S := fun W => W.cell? ⟨bl, ol + k, none⟩ = some (.slice ae ne ce) ∧ W.cell? ⟨ba, oa + i * 2 + 1, none⟩ = some (.int .i64 zl)) (by kernel_rfl) (HSS.out _ BD.out) (fun hH => ?_)
            refine hlTake 0 (v := ?v14) rfl (by kernel_rfl) (by kernel_rfl) (by kernel_rfl) (by kernel_rfl) (fun _ _ _ h => h) (by rfl) ?hy14 hH ?rest14
            case hy14 => ((intro w hSw); (try dsimp only at hSw); go_simp); try with_reducible rfl
            try simp only [Act.put, List.setIfInBounds_toArray, List.set_cons_zero, List.set_cons_succ]
            refine hlTake 1 (v := ?v15) rfl (by kernel_rfl) (by kernel_rfl) (by kernel_rfl) (by kernel_rfl) (fun _ _ _ h => h) (by rfl) ?hy15 hH ?rest15
            case hy15 => ((intro w hSw); (try dsimp only at hSw); go_simp); try with_reducible rfl
            try simp only [Act.put, List.setIfInBounds_toArray, List.set_cons_zero, List.set_cons_succ]
            refine hlTake 2 (v := ?v16) rfl (by kernel_rfl) (by kernel_rfl) (by kernel_rfl) (by kernel_rfl) (fun _ _ _ h => h) (by rfl) ?hy16 hH ?rest16
            case hy16 => ((intro w hSw); (try dsimp only at hSw); go_simp); try with_reducible rfl
            try simp only [Act.put, List.setIfInBounds_toArray, List.set_cons_zero, List.set_cons_succ]
            refine hlTake 3 (v := ?v17) rfl (by kernel_rfl) (by kernel_rfl) (by kernel_rfl) (by kernel_rfl) (fun _ _ _ h => h) (by rfl) ?hy17 hH ?rest17
            case hy17 => ((intro w hSw); (try dsimp only at hSw); go_simp); try with_reducible rfl
            try simp only [Act.put, List.setIfInBounds_toArray, List.set_cons_zero, List.set_cons_succ]
            refine hlTake 4 (v := ?v18) rfl (by kernel_rfl) (by kernel_rfl) (by kernel_rfl) (by kernel_rfl) (fun _ _ _ h => h) (by rfl) ?hy18 hH ?rest18
            case hy18 => ((intro w hSw); (try dsimp only at hSw); go_simp); try with_reducible rfl
            try simp only [Act.put, List.setIfInBounds_toArray, List.set_cons_zero, List.set_cons_succ]
            refine hlTake 5 (v := ?v19) rfl (by kernel_rfl) (by kernel_rfl) (by kernel_rfl) (by kernel_rfl) (fun _ _ _ h => h) (by rfl) ?hy19 hH ?rest19
            case hy19 => ((intro w hSw); (try dsimp only at hSw); go_simp); try with_reducible rfl
            try simp only [Act.put, List.setIfInBounds_toArray, List.set_cons_zero, List.set_cons_succ]
            refine hlTake 6 (v := ?v20) rfl (by kernel_rfl) (by kernel_rfl) (by kernel_rfl) (by kernel_rfl) (fun _ _ _ h => h) (by rfl) ?hy20 hH ?rest20
            case hy20 => ((intro w hSw); (try dsimp only at hSw); go_simp); try with_reducible rfl
            try simp only [Act.put, List.setIfInBounds_toArray, List.set_cons_zero, List.set_cons_succ]
            refine hlTake 7 (v := ?v21) rfl (by kernel_rfl) (by kernel_rfl) (by kernel_rfl) (by kernel_rfl) (fun _ _ _ h => h) (by rfl) ?hy21 hH ?rest21
            case hy21 => ((intro w hSw); (try dsimp only at hSw); go_simp); try with_reducible rfl
            try simp only [Act.put, List.setIfInBounds_toArray, List.set_cons_zero, List.set_cons_succ]
            refine hlTake 8 (v := ?v22) rfl (by kernel_rfl) (by kernel_rfl) (by kernel_rfl) (by kernel_rfl) (fun _ _ _ h => h) (by rfl) ?hy22 hH ?rest22
            case hy22 => ((intro w hSw); (try dsimp only at hSw); go_simp); try with_reducible rfl
            try simp only [Act.put, List.setIfInBounds_toArray, List.set_cons_zero, List.set_cons_succ]
            refine hlTake 9 (v := ?v23) rfl (by kernel_rfl) (by kernel_rfl) (by kernel_rfl) (by kernel_rfl) (fun _ _ _ h => h) (by rfl) ?hy23 hH ?rest23
            case hy23 => ((intro w hSw); (try dsimp only at hSw); go_simp); try with_reducible rfl
            try simp only [Act.put, List.setIfInBounds_toArray, List.set_cons_zero, List.set_cons_succ]
            refine hlTake 10 (v := ?v24) rfl (by kernel_rfl) (by kernel_rfl) (by kernel_rfl) (by kernel_rfl) (fun _ _ _ h => h) (by rfl) ?hy24 hH ?rest24
            case hy24 => ((intro w hSw); (try dsimp only at hSw); go_simp); try with_reducible rfl
            try simp only [Act.put, List.setIfInBounds_toArray, List.set_cons_zero, List.set_cons_succ]
            refine hlReady (rs := [11]) (by kernel_rfl) (by simp) ?_
            refine AllReadyL.cons rfl (fun KK hKK => ?_) AllReadyL.nil
            -- order 11
            go_simp
            go_at_call 33
            refine (vHas_any _ xe zl _ (UE.out.belowAll BD.out)).mono ?_
            rintro e wH ⟨rfl, rfl⟩
            rw [HTC.out]
            refine hKK.out _ _ (HSS.out _ BD.out) (fun hH => ?_)
            clear hKK KK
            try simp only [Act.put, List.setIfInBounds_toArray, List.set_cons_zero, List.set_cons_succ]
            refine hlTake 12 (v := ?v25) rfl (by kernel_rfl) (by kernel_rfl) (by kernel_rfl) (by kernel_rfl) (fun _ _ _ h => h) (by rfl) ?hy25 hH ?rest25
            case hy25 => ((intro w hSw); (try dsimp only at hSw); go_simp); try with_reducible rfl
            try simp only [Act.put, List.setIfInBounds_toArray, List.set_cons_zero, List.set_cons_succ]
            refine hlStep 13 rfl (by kernel_rfl) (by kernel_rfl) (fun KK hKK => ?_)
            go_simp
            refine hKK.out _ _ ?_
            clear hKK KK
            try simp only [Act.put, List.setIfInBounds_toArray, List.set_cons_zero, List.set_cons_succ]
            refine hlDone (by kernel_rfl) ?_ _
            rotate_left 1
            clear hH
            go_wp2_with fail
            go_roundw
            case rel => exact ⟨k + 1, by omega, by rw [HTK.out], by go_num, BD.out⟩
            case measure => simp [intOf]; omega
          · go_upto_region 19 with fail
            refine wp_region_L [0, 1, 2, 3, 4, 5, 6, 7, 8, 9, 10, 11, 12, 13] (S := fun W => W.cell? ⟨bl, ol + k, none⟩ = some (.slice ae ne ce) ∧ W.cell? ⟨ba, oa + i * 2 + 1, none⟩ = some (.int .i64 zl)) (by kernel_rfl) (HSS.out _ BD.out) (fun hH => ?_)
            refine hlTake 0 (v := ?v26) rfl (by kernel_rfl) (by kernel_rfl) (by kernel_rfl) (by kernel_rfl) (fun _ _ _ h => h) (by rfl) ?hy26 hH ?rest26
            case hy26 => ((intro w hSw); (try dsimp only at hSw); go_simp); try with_reducible rfl
            try simp only [Act.put, List.setIfInBounds_toArray, List.set_cons_zero, List.set_cons_succ]
            refine hlTake 1 (v := ?v27) rfl (by kernel_rfl) (by kernel_rfl) (by kernel_rfl) (by kernel_rfl) (fun _ _ _ h => h) (by rfl) ?hy27 hH ?rest27
            case hy27 => ((intro w hSw); (try dsimp only at hSw); go_simp); try with_reducible rfl
            try simp only [Act.put, List.setIfInBounds_toArray, List.set_cons_zero, List.set_cons_succ]
            refine hlSkip 2 rfl (by kernel_rfl) (by kernel_rfl) (by kernel_rfl) (by kernel_rfl) (fun _ _ _ h => h) (by rfl) hH ?_
            try simp only [Act.put, List.setIfInBounds_toArray, List.set_cons_zero, List.set_cons_succ]
            refine hlSkip 3 rfl (by kernel_rfl) (by kernel_rfl) (by kernel_rfl) (by kernel_rfl) (fun _ _ _ h => h) (by rfl) hH ?_
            try simp only [Act.put, List.setIfInBounds_toArray, List.set_cons_zero, List.set_cons_succ]
            refine hlSkip 4 rfl (by kernel_rfl) (by kernel_rfl) (by kernel_rfl) (by kernel_rfl) (fun _ _ _ h => h) (by rfl) hH ?_
            try simp only [Act.put, List.setIfInBounds_toArray, List.set_cons_zero, List.set_cons_succ]
            refine hlSkip 5 rfl (by kernel_rfl) (by kernel_rfl) (by kernel_rfl) (by kernel_rfl) (fun _ _ _ h => h) (by rfl) hH ?_
            try simp only [Act.put, List.setIfInBounds_toArray, List.set_cons_zero, List.set_cons_succ]
            refine hlSkip 6 rfl (by kernel_rfl) (by kernel_rfl) (by kernel_rfl) (by kernel_rfl) (fun _ _ _ h => h) (by rfl) hH ?_
            try simp only [Act.put, List.setIfInBounds_toArray, List.set_cons_zero, List.set_cons_succ]
            refine hlSkip 7 rfl (by kernel_rfl) (by kernel_rfl) (by kernel_rfl) (by kernel_rfl) (fun _ _ _ h => h) (by rfl) hH ?_
            try simp only [Act.put, List.setIfInBounds_toArray, List.set_cons_zero, List.set_cons_succ]
            refine hlSkip 8 rfl (by kernel_rfl) (by kernel_rfl) (by kernel_rfl) (by kernel_rfl) (fun _ _ _ h => h) (by rfl) hH ?_
            try simp only [Act.put, List.setIfInBounds_toArray, List.set_cons_zero, List.set_cons_succ]
            refine hlSkip 9 rfl (by kernel_rfl) (by kernel_rfl) (by kernel_rfl) (by kernel_rfl) (fun _ _ _ h => h) (by rfl) hH ?_
            try simp only [Act.put, List.setIfInBounds_toArray, List.set_cons_zero, List.set_cons_succ]
            refine hlSkip 10 rfl (by kernel_rfl) (by kernel_rfl) (by kernel_rfl) (by kernel_rfl) (fun _ _ _ h => h) (by rfl) hH ?_
            try simp only [Act.put, List.setIfInBounds_toArray, List.set_cons_zero, List.set_cons_succ]
            refine hlSkip 11 rfl (by kernel_rfl) (by kernel_rfl) (by kernel_rfl) (by kernel_rfl) (fun _ _ _ h => h) (by rfl) hH ?_
            try simp only [Act.put, List.setIfInBounds_toArray, List.set_cons_zero, List.set_cons_succ]
            refine hlTake 12 (v := ?v28) rfl (by kernel_rfl) (by kernel_rfl) (by kernel_rfl) (by kernel_rfl) (fun _ _ _ h => h) (by rfl) ?hy28 hH ?rest28
            case hy28 => ((intro w hSw); (try dsimp only at hSw); go_simp); try with_reducible rfl
            try simp only [Act.put, List.setIfInBounds_toArray, List.set_cons_zero, List.set_cons_succ]
            refine hlStep 13 rfl (by kernel_rfl) (by kernel_rfl) (fun KK hKK => ?_)
            go_simp
            refine hKK.out _ _ ?_
            clear hKK KK
            try simp only [Act.put, List.setIfInBounds_toArray, List.set_cons_zero, List.set_cons_succ]
            refine hlDone (by kernel_rfl) ?_ _
            rotate_left 1
            clear hH
            have hsk := HSK.out
            rw [Bool.true_or] at hsk
            go_wp2_with fail
            go_roundw
            case rel => exact ⟨k + 1, by omega, by rw [hsk], by go_num, BD.out⟩
            case measure => simp [intOf]; omega
        · obtain rfl : k = nl := by omega
          rw [HHI.out]
          go_wp2_with fail
          go_roundw
          case rel => exact ⟨i + 1, by omega, by go_num, BK.out⟩
          case measure => simp [intOf]; omega
    · obtain rfl : i = nA := by omega
      have BW := Lib.hid (B4.out.trans (BI.out.mono B4.out.size))
      have HRW := Lib.hid (HRL.out _ BW.out)
      clear BI B4 HRL HRD HHB HAC HBH HCL HCA
      -- wr: the world, BW: Below w.heap.size w wr (hidden), HRW: RdB
      go_wp2_with fail
      refine (drawPC_any a0 len0 cap0 wr HRW.out).mono ?_
      rintro e y1 ⟨u1, u2, u3, v, n, ps, ys, g2, rfl, hdd, hay, hyl, hb1⟩
      obtain ⟨⟨a1, c1, rfl⟩, ⟨a2, c2, rfl⟩⟩ := hdd.n.slices
      obtain ⟨a3, c3, rfl⟩ := row_form0 hdd.l.row
      obtain ⟨aY, nY, cY, rfl, -, -, -, -⟩ := flt_opn (m := 2) (enc := almE) (fun _ => rfl) (by omega) nilA hay.rd
      have M2 := Lib.hid (Mm.mk' hdd hb1)
      have R2 := Lib.hid (hay.rd.behind ((Below.refl y1.heap.size y1).alloc (Nat.le_refl _) (.cells #[.slice a1 n.ns.length c1, .slice a2 n.fs.length c2, .slice a3 ps.length c3] 38)))
      clear hdd hay hb1
      go_upto_region 23 with fail
      generalize y1.alloc (.cells #[.slice a1 n.ns.length c1, .slice a2 n.fs.length c2, .slice a3 ps.length c3] 38) = y2 at *
      generalize y1.heap.size = bP at *
      generalize hp : (⟨n, ps.map Prod.fst⟩ : Pln) = p at *
      clear hp
      have ay0 := blkc M2.out.box (show _ = some (Value.slice a1 n.ns.length c1) from rfl) (j := 0)
      have ay1 := blkc M2.out.box (show _ = some (Value.slice a2 n.fs.length c2) from rfl) (j := 1)
      have ay2 := blkc M2.out.box (show _ = some (Value.slice a3 ps.length c3) from rfl) (j := 2)
      go_wp2_with fail
      refine (implPrb_any _ _ p ys g2 y2 M2.out.pr R2.out M2.out.fb).mono ?_
      rintro e y3 ⟨v3, rfl, o3, b3⟩
      have M3 := Lib.hid (M2.out.below b3)
      have R3 := Lib.hid (R2.out.behind b3)
      have L3 := Lib.hid o3.rd
      obtain ⟨apc, npc, cpc, hvp, HNP2, -, hnpc, -⟩ := ssD_opn L3.out
      subst hvp
      clear M2 R2 b3 o3 ay0 ay1 ay2
      have ay0 := blkc M3.out.box (show _ = some (Value.slice a1 n.ns.length c1) from rfl) (j := 0)
      have ay1 := blkc M3.out.box (show _ = some (Value.slice a2 n.fs.length c2) from rfl) (j := 1)
      have ay2 := blkc M3.out.box (show _ = some (Value.slice a3 ps.length c3) from rfl) (j := 2)
      go_wp2_with fail
      refine (specPrb_any _ _ p ys g2 y3 M3.out.pr R3.out M3.out.fb).mono ?_
      rintro e y4 ⟨v4, rfl, o4, b4⟩
      have M4 := Lib.hid (M3.out.below b4)
      have R4 := Lib.hid (R3.out.behind b4)
      have L4 := Lib.hid (L3.out.behind b4)
      obtain ⟨apd, npd, cpd, hvp, HNP3, -, -, -⟩ := ssD_opn o4.rd
      subst hvp
      obtain rfl : npc = npd := by have := HNP2.out; have := HNP3.out; omega
      clear M3 R3 L3 b4 o4 ay0 ay1 ay2
      have HPA := Lib.hid (fun h => @pc_at p ys g2 h)
      generalize hpk : pcOk p ys g2 = pk at *
      have HPK := Lib.hid hpk
      clear hpk
      have hpn1 : (pk != pk) = false := by simp
      have hpn2 : (pk == pk) = true := by simp
      have hpn3 : ((npc : Int) != (npc : Int)) = false := by simp
      have hpn4 : ((npc : Int) == (npc : Int)) = true := by simp
      cases pk
      · have HB := Lib.hid M4.out.bel
        go_wp2_with fail
        subst hNP
        exact ⟨rfl, (Hid.out BW).trans (HB.out.mono (Hid.out BW).size)⟩
      have HPC := Lib.hid (HPA.out (by first | rfl | trivial))
      clear HPA
      go_upto_region 27 with fail
      go_wp2_with fail
      refine (implAlb_any _ ys g2 y4 R4.out).mono ?_
      rintro e yA ⟨v5, rfl, o5, b5⟩
      rw [HPC.out.1]
      have MA := Lib.hid (M4.out.below b5)
      have LA := Lib.hid (L4.out.behind b5)
      have QA := Lib.hid o5.rd
      obtain ⟨aal, nal, cal, hvp, HNA2, -, -, hal⟩ := ssD_opn QA.out
      subst hvp
      obtain ⟨apc', npc', cpc', hvl', HNL', -, -, hpl⟩ := ssD_opn LA.out
      simp only [Value.slice.injEq] at hvl'
      obtain ⟨rfl, rfl, rfl⟩ := hvl'
      obtain rfl : npc = nal := by have := HNA2.out; have := HNP2.out; have := HPC.out.2.1; omega
      have HAL := Lib.hid hal
      have HPL := Lib.hid hpl
      clear hal hpl M4 R4 L4 b5 o5 QA LA
      go_upto_region 31 with fail
      go_loopw [23] (fun s23 wr => ∃ i : Nat, i ≤ npc ∧ s23 = .int .i64 i ∧ Hid (Below yA.heap.size yA wr)) (fun s23 _ => npc - (intOf s23).toNat)
      case atStart => exact ⟨0, Nat.zero_le _, rfl, Below.refl _ _⟩
      case round =>
        obtain ⟨i, hi, rfl, BI⟩ := hrel
        by_cases hlt : i < npc
        · have hltI : (i : Int) < (npc : Int) := by omega
          have hwi : IntKind.i64.wrap ((i : Int) + 1) = (i : Int) + 1 := IntWalk.i64_in _ (by omega)
          obtain ⟨bl, ol, rfl, hbl, hcl⟩ := HPL.out (by omega)
          obtain ⟨ue, hce, hue⟩ := hcl i hlt
          obtain ⟨ae, ce, ne, HNE, hve, -, -, -⟩ := hue.opn
          subst hve
          obtain ⟨bm, om, rfl, hbm, hcm⟩ := HAL.out (by omega)
          obtain ⟨uf, hcf, huf⟩ := hcm i hlt
          obtain ⟨af, cf, nf, -, hvf, -, -, -⟩ := huf.opn
          subst hvf
          have UE := Lib.hid hue
          have UF := Lib.hid huf
          have HII := Lib.hid (HPC.out.2.2 i (by have := HNP2.out; omega))
          have HSS := Lib.hid (fun (W : World) (hb : Below yA.heap.size yA W) => show (W.cell? ⟨bP, 0, none⟩ = some (.slice a1 n.ns.length c1) ∧ W.cell? ⟨bP, 1, none⟩ = some (.slice a2 n.fs.length c2) ∧ W.cell? ⟨bP, 2, none⟩ = some (.slice a3 ps.length c3)) ∧ W.cell? ⟨bl, ol + i, none⟩ = some (.slice ae ne ce) ∧ W.cell? ⟨bm, om + i, none⟩ = some (.slice af nf cf) from
            ⟨⟨blkc (Lib.hid (MA.out.below hb)).out.box rfl, blkc (Lib.hid (MA.out.below hb)).out.box rfl, blkc (Lib.hid (MA.out.below hb)).out.box rfl⟩, (hb.cell (p := ⟨bl, ol + i, none⟩) hbl).trans hce, (hb.cell (p := ⟨bm, om + i, none⟩) hbm).trans hcf⟩)
          generalize hxe : (pcR p ys g2)[i]?.getD [] = xe at *
          generalize hxf : (albR ys g2)[i]?.getD [] = xf at *
          clear hcl hce hue hcm hcf huf hxe hxf
          have hci := (HSS.out _ BI.out).2.1
          by_cases hz : ne = 0
          · subst hz
            have hz1 : ((0 : Nat) : Int) = 0 := rfl
            go_wp2_with fail
            clear hci
            go_roundw
            case rel => exact ⟨i + 1, by omega, by go_num, BI.out⟩
            case measure => simp [intOf]; omega
          have hzi : ¬ (ne : Int) = 0 := by omega
          have hzb : ((ne : Int) == 0) = false := by rw [beq_eq_false_iff_ne]; exact hzi
          have hzd : decide ((ne : Int) = 0) = false := decide_eq_false hzi
          have hzn : decide (ne = 0) = false := decide_eq_false hz
          have HIE := Lib.hid (HII.out (by have := HNE.out; omega))
          have BD := Lib.hid (BI.out.drew)
          go_upto_region 34 with fail
          clear hci
          refine wp_region_L [0, 1, 2, 3, 4, 5, 6, 7, 8, 9, 10, 11, 12, 13, 14] (S := fun W => (W.cell? ⟨bP, 0, none⟩ = some (.slice a1 n.ns.length c1) ∧ W.cell? ⟨bP, 1, none⟩ = some (.slice a2 n.fs.length c2) ∧ W.cell? ⟨bP, 2, none⟩ = some (.slice a3 ps.length c3)) ∧ W.cell? ⟨bl, ol + i, none⟩ = some (.slice ae ne ce) ∧ W.cell? ⟨bm, om + i, none⟩ = some (.slice af nf cf)) (by kernel_rfl) (HSS.out _ BD.out) (fun hH => ?_)
          refine hlTake 0 (v := ?v29) rfl (by kernel_rfl) (by kernel_rfl) (by kernel_rfl) (by kernel_rfl) (fun _ _ _ h => h) (by rfl) ?hy29 hH ?rest29
          case hy29 => ((intro w hSw); (try dsimp only at hSw); go_simp); try with_reducible rfl
          try simp only [Act.put, List.setIfInBounds_toArray, List.set_cons_zero, List.set_cons_succ]
          refine hlTake 1 (v := ?v30) rfl (by kernel_rfl) (by kernel_rfl) (by kernel_rfl) (by kernel_rfl) (fun _ _ _ h => h) (by rfl) ?hy30 hH ?rest30
          case hy30 => ((intro w hSw); (try dsimp only at hSw); go_simp); try with_reducible rfl
          try simp only [Act.put, List.setIfInBounds_toArray, List.set_cons_zero, List.set_cons_succ]
          refine hlTake 2 (v := ?v31) rfl (by kernel_rfl) (by kernel_rfl) (by kernel_rfl) (by kernel_rfl) (fun _ _ _ h => h) (by rfl) ?hy31 hH ?rest31
          case hy31 => ((intro w hSw); (try dsimp only at hSw); go_simp); try with_reducible rfl
          try simp only [Act.put, List.setIfInBounds_toArray, List.set_cons_zero, List.set_cons_succ]
          refine hlTake 3 (v := ?v32) rfl (by kernel_rfl) (by kernel_rfl) (by kernel_rfl) (by kernel_rfl) (fun _ _ _ h => h) (by rfl) ?hy32 hH ?rest32
          case hy32 => ((intro w hSw); (try dsimp only at hSw); go_simp); try with_reducible rfl
          try simp only [Act.put, List.setIfInBounds_toArray, List.set_cons_zero, List.set_cons_succ]
          refine hlTake 4 (v := ?v33) rfl (by kernel_rfl) (by kernel_rfl) (by kernel_rfl) (by kernel_rfl) (fun _ _ _ h => h) (by rfl) ?hy33 hH ?rest33
          case hy33 => ((intro w hSw); (try dsimp only at hSw); go_simp); try with_reducible rfl
          try simp only [Act.put, List.setIfInBounds_toArray, List.set_cons_zero, List.set_cons_succ]
          refine hlTake 5 (v := ?v34) rfl (by kernel_rfl) (by kernel_rfl) (by kernel_rfl) (by kernel_rfl) (fun _ _ _ h => h) (by rfl) ?hy34 hH ?rest34
          case hy34 => ((intro w hSw); (try dsimp only at hSw); go_simp); try with_reducible rfl
          try simp only [Act.put, List.setIfInBounds_toArray, List.set_cons_zero, List.set_cons_succ]
          refine hlTake 6 (v := ?v35) rfl (by kernel_rfl) (by kernel_rfl) (by kernel_rfl) (by kernel_rfl) (fun _ _ _ h => h) (by rfl) ?hy35 hH ?rest35
          case hy35 => ((intro w hSw); (try dsimp only at hSw); go_simp); try with_reducible rfl
          try simp only [Act.put, List.setIfInBounds_toArray, List.set_cons_zero, List.set_cons_succ]
          refine hlTake 7 (v := ?v36) rfl (by kernel_rfl) (by kernel_rfl) (by kernel_rfl) (by kernel_rfl) (fun _ _ _ h => h) (by rfl) ?hy36 hH ?rest36
          case hy36 => ((intro w hSw); (try dsimp only at hSw); go_simp); try with_reducible rfl
          try simp only [Act.put, List.setIfInBounds_toArray, List.set_cons_zero, List.set_cons_succ]
          refine hlTake 8 (v := ?v37) rfl (by kernel_rfl) (by kernel_rfl) (by kernel_rfl) (by kernel_rfl) (fun _ _ _ h => h) (by rfl) ?hy37 hH ?rest37
          case hy37 => ((intro w hSw); (try dsimp only at hSw); go_simp); try with_reducible rfl
          try simp only [Act.put, List.setIfInBounds_toArray, List.set_cons_zero, List.set_cons_succ]
          refine hlReady (rs := [9]) (by kernel_rfl) (by simp) ?_
          refine AllReadyL.cons rfl (fun KK hKK => ?_) AllReadyL.nil
          -- order 9
          go_simp
          go_at_call 22
          refine (implIe_any _ _ _ p xf xe _ (MA.out.below BD.out).pr (UF.out.belowAll BD.out) (UE.out.belowAll BD.out) MA.out.fb).mono ?_
          rintro e wE ⟨rfl, bE⟩
          have BE := Lib.hid (BD.out.trans (bE.mono BD.out.size))
          have hie := HIE.out
          rw [hie.1, hie.2]
          refine hKK.out _ _ (HSS.out _ BE.out) (fun hH => ?_)
          clear hKK KK
          try simp only [Act.put, List.setIfInBounds_toArray, List.set_cons_zero, List.set_cons_succ]
          refine hlTake 10 (v := ?v38) rfl (by kernel_rfl) (by kernel_rfl) (by kernel_rfl) (by kernel_rfl) (fun _ _ _ h => h) (by rfl) ?hy38 hH ?rest38
          case hy38 => ((intro w hSw); (try dsimp only at hSw); go_simp); try with_reducible rfl
          try simp only [Act.put, List.setIfInBounds_toArray, List.set_cons_zero, List.set_cons_succ]
          refine hlTake 11 (v := ?v39) rfl (by kernel_rfl) (by kernel_rfl) (by kernel_rfl) (by kernel_rfl) (fun _ _ _ h => h) (by rfl) ?hy39 hH ?rest39
          case hy39 => ((intro w hSw); (try dsimp only at hSw); go_simp); try with_reducible rfl
          try simp only [Act.put, List.setIfInBounds_toArray, List.set_cons_zero, List.set_cons_succ]
          refine hlTake 12 (v := ?v40) rfl (by kernel_rfl) (by kernel_rfl) (by kernel_rfl) (by kernel_rfl) (fun _ _ _ h => h) (by rfl) ?hy40 hH ?rest40
          case hy40 => ((intro w hSw); (try dsimp only at hSw); go_simp); try with_reducible rfl
          try simp only [Act.put, List.setIfInBounds_toArray, List.set_cons_zero, List.set_cons_succ]
          refine hlTake 13 (v := ?v41) rfl (by kernel_rfl) (by kernel_rfl) (by kernel_rfl) (by kernel_rfl) (fun _ _ _ h => h) (by rfl) ?hy41 hH ?rest41
          case hy41 => ((intro w hSw); (try dsimp only at hSw); go_simp); try with_reducible rfl
          try simp only [Act.put, List.setIfInBounds_toArray, List.set_cons_zero, List.set_cons_succ]
          refine hlStep 14 rfl (by kernel_rfl) (by kernel_rfl) (fun KK hKK => ?_)
          go_simp
          refine hKK.out _ _ ?_
          clear hKK KK
          try simp only [Act.put, List.setIfInBounds_toArray, List.set_cons_zero, List.set_cons_succ]
          refine hlDone (by kernel_rfl) ?_ _
          rotate_left 1
          clear BD hH hie
          go_wp2_with fail
          go_roundw
          case rel => exact ⟨i + 1, by omega, by go_num, BE.out⟩
          case measure => simp [intOf]; omega
        · obtain rfl : i = npc := by omega
          have HB := Lib.hid (MA.out.below BI.out).bel
          go_wp2_with fail
          subst hNP
          exact ⟨rfl, (Hid.out BW).trans (HB.out.mono (Hid.out BW).size)⟩
end Go.Proofs.YtmkkdenhjfjmgaaGreat
