/- Joined: XPrb XFbP XDru. -/
import Derived.Test.YtmkkdenhjfjmgaaGreatBf13
import Derived.Test.YtmkkdenhjfjmgaaGreatBf23
import Derived.Deep.RegionHeld3
import Derived.Test.YtmkkdenhjfjmgaaGreatBf04
namespace Go.Proofs.YtmkkdenhjfjmgaaGreat
open Go.RowKit Go.Sort
set_option maxRecDepth 100000

def pcOk (p : Pln) (zs : List Alm) (gap : Int) : Bool := albOk zs gap && (plnOk p && (albR zs gap).all (dwOk p))
def pcR (p : Pln) (zs : List Alm) (gap : Int) : List (List Int) := if pcOk p zs gap then (albR zs gap).map (fewL p) else []
def PcP (p : Pln) (zs : List Alm) (gap : Int) (w : World) (e : Ending) (w' : World) : Prop := ∃ v, e = .returned (.tuple #[v, .bool (pcOk p zs gap)]) ∧ Ofr w' w.heap.size (ssD (pcR p zs gap)) v ∧ Below w.heap.size w w'
theorem pcR_no {p : Pln} {zs : List Alm} {gap : Int} (h : pcOk p zs gap = false) : pcR p zs gap = [] := by unfold pcR; rw [h]; rfl
theorem pcR_yes {p : Pln} {zs : List Alm} {gap : Int} (h : pcOk p zs gap = true) : pcR p zs gap = (albR zs gap).map (fewL p) := by unfold pcR; rw [if_pos h]
theorem pcOk_alb {p : Pln} {zs : List Alm} {gap : Int} (h : albOk zs gap = false) : pcOk p zs gap = false := by unfold pcOk; rw [h]; rfl
theorem pcOk_pln {p : Pln} {zs : List Alm} {gap : Int} (h : plnOk p = false) : pcOk p zs gap = false := by unfold pcOk; rw [h]; simp
theorem pcOk_at {p : Pln} {zs : List Alm} {gap : Int} {k : Nat} (hk : k < (albR zs gap).length) (h : dwOk p ((albR zs gap)[k]?.getD []) = false) : pcOk p zs gap = false := by
  have : (albR zs gap).all (dwOk p) = false := by
    rw [List.all_eq_false]
    refine ⟨(albR zs gap)[k], List.getElem_mem hk, ?_⟩
    rw [List.getElem?_eq_getElem hk] at h
    simpa using h
  unfold pcOk; rw [this]; simp
theorem pcOk_all {p : Pln} {zs : List Alm} {gap : Int} (h1 : albOk zs gap = true) (h2 : plnOk p = true) (h : ∀ k, k < (albR zs gap).length → dwOk p ((albR zs gap)[k]?.getD []) = true) : pcOk p zs gap = true := by
  have : (albR zs gap).all (dwOk p) = true := by
    rw [List.all_eq_true]
    intro x hx
    obtain ⟨k, hk, rfl⟩ := List.mem_iff_getElem.1 hx
    have := h k hk
    rwa [List.getElem?_eq_getElem hk] at this
  unfold pcOk; rw [h1, h2, this]; rfl
theorem pcT_next {p : Pln} {L : List (List Int)} {k : Nat} (hk : k < L.length) : (L.take (k + 1)).map (fewL p) = (L.take k).map (fewL p) ++ [fewL p (L[k]?.getD [])] := by
  rw [List.take_add_one, List.map_append, List.getElem?_eq_getElem hk]; rfl
theorem rwA_len40 (zs : List Alm) (gap : Int) (k : Nat) : (rwA zs gap k).length ≤ k := by
  induction k with
  | zero => simp [rwA]
  | succ k ih =>
    show (addL _ _).length ≤ k + 1
    rw [addL_len, rwB_len]
    split <;> omega
theorem albR_len40 (zs : List Alm) (gap : Int) : (albR zs gap).length ≤ 40 := by
  unfold albR
  split
  · rename_i h
    unfold albOk at h
    simp only [Bool.and_eq_true, decide_eq_true_eq] at h
    rw [← rw_map, List.length_map]
    exact Nat.le_trans (rwA_len40 _ _ _) h.1
  · simp
set_option maxHeartbeats 3200000 in
theorem implPrb_any (v va : Value) (p : Pln) (zs : List Alm) (gap : Int) (w : World) (hp : PlnR w v p) (ha : Rdt w (flt 2 almE zs) va) (hfb : ∀ i : Nat, (lgA p i).fb.length ≤ 1100000) :
    Calls Tryz.prog 41 #[v, va, .int .i64 gap] w (PcP p zs gap w) := by
  have HAL := Lib.hid (fun w' (hb : Below w.heap.size w w') => implAlb_any va zs gap w' (ha.behind hb))
  have HVP := Lib.hid (fun w' (hb : Below w.heap.size w w') => IsValidPlan_any v p w' (hp.behind hb) hfb)
  have HLS := Lib.hid (fun w' (hb : Below w.heap.size w w') vd d (hd : Rd w' vd d) => isLightSet_any v vd p d w' (hp.behind hb) hd)
  have HFE := Lib.hid (fun w' (hb : Below w.heap.size w w') vd d (hd : Rd w' vd d) (hok : dwOk p d = true) => firstExplanation_any v vd p d w' (hp.behind hb) hd hok hfb)
  obtain ⟨a1, m1, c1, a2, m2, c2, a3, m3, c3, hv⟩ : ∃ a1 m1 c1 a2 m2 c2 a3 m3 c3, v = .agg #[.slice a1 m1 c1, .slice a2 m2 c2, .slice a3 m3 c3] := by
    obtain ⟨u1, u2, u3, e, r⟩ := id hp
    obtain ⟨a1, m1, c1, a2, m2, c2, a3, m3, c3, e1, e2, e3⟩ := PlB.slices (show PlnR w (.agg #[u1, u2, u3]) p from by rw [← e]; exact hp)
    exact ⟨a1, m1, c1, a2, m2, c2, a3, m3, c3, by rw [e, e1, e2, e3]⟩
  subst hv
  obtain ⟨aa, na, ca, rfl, -, -, -, -⟩ := flt_opn (m := 2) (enc := almE) (fun _ => rfl) (by omega) nilA ha
  have HRN := Lib.hid (@pcR_no p zs gap)
  have HRY := Lib.hid (@pcR_yes p zs gap)
  have HOA := Lib.hid (@pcOk_alb p zs gap)
  have HOP := Lib.hid (@pcOk_pln p zs gap)
  have HOT := Lib.hid (fun k hk => @pcOk_at p zs gap k hk)
  have HOY := Lib.hid (@pcOk_all p zs gap)
  have HL40 := Lib.hid (albR_len40 zs gap)
  obtain ⟨bx, bc, blt, -⟩ := box_facts w #[.slice a1 m1 c1, .slice a2 m2 c2, .slice a3 m3 c3] 38
  have q0 := bc 0 _ rfl
  have q1 := bc 1 _ rfl
  have q2 := bc 2 _ rfl
  have HBX := Lib.hid bx
  unfold PcP
  unfold AlbP at HAL
  generalize pcR p zs gap = R at *
  generalize pcOk p zs gap = ok at *
  generalize albR zs gap = L at *
  generalize albOk zs gap = oka at *
  clear bx bc hp ha hfb
  go_enter Tryz.func41, Tryz.ntmps41
  go_wp2_with fail
  generalize w.alloc (.cells #[.slice a1 m1 c1, .slice a2 m2 c2, .slice a3 m3 c3] 38) = w1 at *
  refine (HAL.out w1 HBX.out).mono ?_
  rintro e w2 ⟨v2, rfl, o2, b2⟩
  obtain ⟨a7, n7, c7, rfl, HN7, -, hn7, -⟩ := ssD_opn o2.rd
  have HR2 := Lib.hid (fun wx (hk : Below w2.heap.size w2 wx) i hi => ssD_row (i := i) (o2.rd.behind hk) rfl hi)
  have f0 := (b2.cell (p := ⟨w.heap.size, 0, none⟩) blt).trans q0
  have f1 := (b2.cell (p := ⟨w.heap.size, 1, none⟩) blt).trans q1
  have f2 := (b2.cell (p := ⟨w.heap.size, 2, none⟩) blt).trans q2
  have HB2 := Lib.hid (HBX.out.trans (b2.mono HBX.out.size))
  have hl2 := Nat.lt_of_lt_of_le blt b2.size
  clear b2 o2 q0 q1 q2 blt
  cases oka
  · have HE := Lib.hid (HOA.out rfl)
    have HE2 := Lib.hid (HRN.out HE.out)
    go_wp2
    go_ret2
    exact ⟨_, by rw [HE.out]; rfl, by rw [HE2.out]; exact Ofr.nil _ _ _, HB2.out⟩
  have HV2 := Lib.hid (HVP.out w2 HB2.out)
  cases hpo : plnOk p
  · have HE := Lib.hid (HOP.out hpo)
    have HE2 := Lib.hid (HRN.out HE.out)
    rw [hpo] at HV2
    clear hpo
    go_wp2_with fail
    refine HV2.out.mono ?_
    rintro e w3 ⟨rfl, b3⟩
    have HB3 := Lib.hid (HB2.out.trans (b3.mono HB2.out.size))
    clear b3
    go_wp2
    go_ret2
    exact ⟨_, by rw [HE.out]; rfl, by rw [HE2.out]; exact Ofr.nil _ _ _, HB3.out⟩
  have HPO := Lib.hid hpo
  have HOY2 := Lib.hid (HOY.out rfl hpo)
  rw [hpo] at HV2
  rw [HN7.out] at HOT HOY2 HL40
  have h40 : n7 ≤ 40 := HL40.out
  clear hpo HOY HOA HOP
  go_wp2_with fail
  refine HV2.out.mono ?_
  rintro e w3 ⟨rfl, b3⟩
  have g0 := (b3.cell (p := ⟨w.heap.size, 0, none⟩) hl2).trans f0
  have g1 := (b3.cell (p := ⟨w.heap.size, 1, none⟩) hl2).trans f1
  have g2 := (b3.cell (p := ⟨w.heap.size, 2, none⟩) hl2).trans f2
  have HB3 := Lib.hid (HB2.out.trans (b3.mono HB2.out.size))
  have HBS3 := Lib.hid b3
  have hl3 := Nat.lt_of_lt_of_le hl2 b3.size
  have HG0 := Lib.hid (Grw.start (w := w3) (base := w3.heap.size) (size := 1) 29 (Nat.le_refl _))
  have HB4 := Lib.hid ((Below.refl w3.heap.size w3).alloc (Nat.le_refl _) (.cells #[] 29))
  clear b3 f0 f1 f2 hl2
  go_wp2
  generalize w3.alloc (.cells #[] 29) = w4 at *
  go_loopw [10, 12, 13, 14, 31] (fun s10 _ _ _ i wr => ∃ (k : Nat), k ≤ n7 ∧ i = .int .i64 k ∧ Hid (Grw wr w3.heap.size 29 1 s10 k (((L.take k).map (fewL p)).map inD)) ∧ Hid (∀ j, j < k → dwOk p (L[j]?.getD []) = true) ∧ Hid (Below w3.heap.size w3 wr)) (fun _ _ _ _ i _ => n7 - (intOf i).toNat)
  case atStart => exact ⟨0, Nat.zero_le _, rfl, HG0.out, fun j hj => absurd hj (Nat.not_lt_zero j), HB4.out⟩
  case round =>
    obtain ⟨k, hk, rfl, HG, HK, HB⟩ := hrel
    obtain ⟨-, a10, c10, rfl⟩ := HG.out.form
    have HBW := Lib.hid (HB3.out.trans (HB.out.mono HB3.out.size))
    by_cases hlt : k < n7
    · have hltI : (k : Int) < (n7 : Int) := by omega
      obtain ⟨b, off, u, rfl, hu, hru⟩ := HR2.out wr (HBS3.out.trans (HB.out.mono HBS3.out.size)) k hlt
      have t0 := (HB.out.cell (p := ⟨w.heap.size, 0, none⟩) hl3).trans g0
      have t1 := (HB.out.cell (p := ⟨w.heap.size, 1, none⟩) hl3).trans g1
      have t2 := (HB.out.cell (p := ⟨w.heap.size, 2, none⟩) hl3).trans g2
      have lt0 := World.block_lt_of_cell? _ _ t0
      have HU := Lib.hid hru
      have HL1 := Lib.hid (HLS.out wr HBW.out u (L[k]?.getD []) hru)
      have HDW := Lib.hid (show dwOk p (L[k]?.getD []) = (setOk (L[k]?.getD []) 1000 && !((L[k]?.getD []).any (noL p))) from by unfold dwOk; rw [HPO.out]; rfl)
      have HTK := Lib.hid (HOT.out k hlt)
      have HNX := Lib.hid (show k < L.length → _ from fun h => @pcT_next p L k h)
      have HST := Lib.hid (fun h => upto_succ HK.out (k := k) h)
      obtain ⟨au, cu, nu, -, rfl, -, -, -⟩ := hru.opn
      have hkl : k < L.length := by rw [HN7.out]; exact hlt
      have HNX2 := Lib.hid (HNX.out hkl)
      clear hru hkl HNX
      generalize L[k]?.getD [] = ys at *
      rw [← HDW.out] at HL1
      cases hdw : dwOk p ys
      · have HE := Lib.hid (HTK.out hdw)
        have HE2 := Lib.hid (HRN.out HE.out)
        rw [hdw] at HL1
        clear hdw
        go_wp2_with fail
        refine HL1.out.mono ?_
        rintro e w6 ⟨rfl, b6⟩
        have HB6 := Lib.hid (HBW.out.trans (b6.mono HBW.out.size))
        clear b6
        go_wp2
        go_ret2
        exact ⟨_, by rw [HE.out]; rfl, by rw [HE2.out]; exact Ofr.nil _ _ _, HB6.out⟩
      · have HS2 := Lib.hid (HST.out hdw)
        have HF := Lib.hid (fun w' (hb : Below wr.heap.size wr w') => HFE.out w' (HBW.out.trans (hb.mono HBW.out.size)) (.slice au nu cu) ys (HU.out.belowAll hb) hdw)
        rw [hdw] at HL1
        generalize fewL p ys = F at *
        clear hdw HTK HST
        go_wp2_with fail
        refine HL1.out.mono ?_
        rintro e w6 ⟨rfl, b6⟩
        have s0 := (b6.cell (p := ⟨w.heap.size, 0, none⟩) lt0).trans t0
        have s1 := (b6.cell (p := ⟨w.heap.size, 1, none⟩) lt0).trans t1
        have s2 := (b6.cell (p := ⟨w.heap.size, 2, none⟩) lt0).trans t2
        have HF6 := Lib.hid (HF.out w6 b6)
        have HB6 := Lib.hid b6
        clear b6
        go_wp2_with fail
        refine HF6.out.mono ?_
        rintro e w7 ⟨v7, rfl, o7, b7⟩
        have HB7 := Lib.hid (HB6.out.trans (b7.mono HB6.out.size))
        have HO7 := Lib.hid (Newd.one (o7.mono HB6.out.size).ofr)
        obtain ⟨au7, cu7, nu7, -, rfl, -, -, -⟩ := o7.rd.opn
        clear b7 o7
        go_wp2_with (at_builtin; go_loud (refine wpList_grow rfl (.tmp 45) (.tmp 47) 63 29 rfl Tryz.underlying63 (.slice none 0 0) 1 24 Tryz.infoRows rfl (by decide) (by decide) w3.heap.size k (.slice a10 k c10) _ _ rfl HG.out HB.out.size HB7.out [.slice au7 nu7 cu7] HO7.out rfl (by simp [Value.oneCell']) rfl (by omega) ?_); intro v8 w8 G8 gr8 l8; have HG8 := Lib.hid G8; have HB8 := Lib.hid ((HB.out.trans (HB7.out.mono HB.out.size)).grown gr8 (Nat.le_trans HB.out.size HB7.out.size) (fun q hq => (HG.out.own q hq).1)); clear G8 gr8 l8)
        have HG9 := Lib.hid (show Grw w8 w3.heap.size 29 1 v8 (k + 1) (((L.take (k + 1)).map (fewL p)).map inD) from by rw [HNX2.out, List.map_append]; exact HG8.out)
        go_roundw
        case rel => exact ⟨k + 1, hlt, by go_num, HG9.out, HS2.out, HB8.out⟩
        case measure => simp [intOf]; omega
    · obtain rfl : n7 = k := by omega
      have HE := Lib.hid (HOY2.out HK.out)
      have HE2 := Lib.hid (show R = (L.take n7).map (fewL p) from by rw [HRY.out HE.out, List.take_of_length_le (Nat.le_of_eq HN7.out)])
      go_wp2
      go_ret2
      exact ⟨_, by rw [HE.out]; rfl, by rw [HE2.out]; exact HG.out.ofr.mono HB3.out.size, HBW.out⟩
set_option maxHeartbeats 3200000 in
theorem specPrb_any (v va : Value) (p : Pln) (zs : List Alm) (gap : Int) (w : World) (hp : PlnR w v p) (ha : Rdt w (flt 2 almE zs) va) (hfb : ∀ i : Nat, (lgA p i).fb.length ≤ 1100000) :
    Calls Tryz.prog 42 #[v, va, .int .i64 gap] w (PcP p zs gap w) := by
  have HAL := Lib.hid (fun w' (hb : Below w.heap.size w w') => specAlb_any va zs gap w' (ha.behind hb))
  have HVP := Lib.hid (fun w' (hb : Below w.heap.size w w') => l9Good_any v p w' (hp.behind hb) hfb)
  have HFE := Lib.hid (fun w' (hb : Below w.heap.size w w') vd d (hd : Rd w' vd d) => specFew_any v vd p d w' (hp.behind hb) hd hfb)
  obtain ⟨a1, m1, c1, a2, m2, c2, a3, m3, c3, hv⟩ : ∃ a1 m1 c1 a2 m2 c2 a3 m3 c3, v = .agg #[.slice a1 m1 c1, .slice a2 m2 c2, .slice a3 m3 c3] := by
    obtain ⟨u1, u2, u3, e, r⟩ := id hp
    obtain ⟨a1, m1, c1, a2, m2, c2, a3, m3, c3, e1, e2, e3⟩ := PlB.slices (show PlnR w (.agg #[u1, u2, u3]) p from by rw [← e]; exact hp)
    exact ⟨a1, m1, c1, a2, m2, c2, a3, m3, c3, by rw [e, e1, e2, e3]⟩
  subst hv
  obtain ⟨aa, na, ca, rfl, -, -, -, -⟩ := flt_opn (m := 2) (enc := almE) (fun _ => rfl) (by omega) nilA ha
  have HRN := Lib.hid (@pcR_no p zs gap)
  have HRY := Lib.hid (@pcR_yes p zs gap)
  have HOA := Lib.hid (@pcOk_alb p zs gap)
  have HOP := Lib.hid (@pcOk_pln p zs gap)
  have HOT := Lib.hid (fun k hk => @pcOk_at p zs gap k hk)
  have HOY := Lib.hid (@pcOk_all p zs gap)
  have HL40 := Lib.hid (albR_len40 zs gap)
  have HFY := Lib.hid (fun d (h : dwOk p d = true) => show ffR p d = fewL p d from by unfold ffR; rw [if_pos h])
  obtain ⟨bx, bc, blt, -⟩ := box_facts w #[.slice a1 m1 c1, .slice a2 m2 c2, .slice a3 m3 c3] 38
  have q0 := bc 0 _ rfl
  have q1 := bc 1 _ rfl
  have q2 := bc 2 _ rfl
  have HBX := Lib.hid bx
  unfold PcP
  unfold AlbP at HAL
  generalize pcR p zs gap = R at *
  generalize pcOk p zs gap = ok at *
  generalize albR zs gap = L at *
  generalize albOk zs gap = oka at *
  clear bx bc hp ha hfb
  go_enter Tryz.func42, Tryz.ntmps42
  go_wp2_with fail
  generalize w.alloc (.cells #[.slice a1 m1 c1, .slice a2 m2 c2, .slice a3 m3 c3] 38) = w1 at *
  refine (HAL.out w1 HBX.out).mono ?_
  rintro e w2 ⟨v2, rfl, o2, b2⟩
  obtain ⟨a7, n7, c7, rfl, HN7, -, hn7, -⟩ := ssD_opn o2.rd
  have HR2 := Lib.hid (fun wx (hk : Below w2.heap.size w2 wx) i hi => ssD_row (i := i) (o2.rd.behind hk) rfl hi)
  have HB2 := Lib.hid (HBX.out.trans (b2.mono HBX.out.size))
  have b3 := (Below.refl w2.heap.size w2).alloc (Nat.le_refl _) (.cells #[] 29)
  have hl2 := Nat.lt_of_lt_of_le blt b2.size
  have f0 := (b3.cell (p := ⟨w.heap.size, 0, none⟩) hl2).trans ((b2.cell (p := ⟨w.heap.size, 0, none⟩) blt).trans q0)
  have f1 := (b3.cell (p := ⟨w.heap.size, 1, none⟩) hl2).trans ((b2.cell (p := ⟨w.heap.size, 1, none⟩) blt).trans q1)
  have f2 := (b3.cell (p := ⟨w.heap.size, 2, none⟩) hl2).trans ((b2.cell (p := ⟨w.heap.size, 2, none⟩) blt).trans q2)
  have HG0 := Lib.hid (Grw.start (w := w2) (base := w2.heap.size) (size := 1) 29 (Nat.le_refl _))
  have HB3 := Lib.hid b3
  have HBW3 := Lib.hid (HB2.out.trans (b3.mono HB2.out.size))
  clear b2 b3 o2 q0 q1 q2 blt
  cases oka
  · have HE := Lib.hid (HOA.out rfl)
    have HE2 := Lib.hid (HRN.out HE.out)
    go_wp2
    go_ret2
    exact ⟨_, by rw [HE.out]; rfl, by rw [HE2.out]; exact HG0.out.ofr.mono HB2.out.size, HBW3.out⟩
  have HV2 := Lib.hid (HVP.out _ HBW3.out)
  have hl3 := World.block_lt_of_cell? _ _ f0
  cases hpo : plnOk p
  · have HE := Lib.hid (HOP.out hpo)
    have HE2 := Lib.hid (HRN.out HE.out)
    rw [hpo] at HV2
    clear hpo
    go_wp2_with fail
    generalize w2.alloc (.cells #[] 29) = w3 at *
    refine HV2.out.mono ?_
    rintro e w4 ⟨rfl, b4⟩
    have HB4 := Lib.hid (HBW3.out.trans (b4.mono HBW3.out.size))
    have HG4 := Lib.hid (HG0.out.below b4)
    clear b4
    go_wp2
    go_ret2
    exact ⟨_, by rw [HE.out]; rfl, by rw [HE2.out]; exact HG4.out.ofr.mono HB2.out.size, HB4.out⟩
  have HPO := Lib.hid hpo
  have HOY2 := Lib.hid (HOY.out rfl hpo)
  rw [hpo] at HV2
  rw [HN7.out] at HOT HOY2 HL40
  have h40 : n7 ≤ 40 := HL40.out
  clear hpo HOY HOA HOP
  go_wp2_with fail
  generalize w2.alloc (.cells #[] 29) = w3 at *
  refine HV2.out.mono ?_
  rintro e w4 ⟨rfl, b4⟩
  have g0 := (b4.cell (p := ⟨w.heap.size, 0, none⟩) hl3).trans f0
  have g1 := (b4.cell (p := ⟨w.heap.size, 1, none⟩) hl3).trans f1
  have g2 := (b4.cell (p := ⟨w.heap.size, 2, none⟩) hl3).trans f2
  have HG4 := Lib.hid (HG0.out.below b4)
  have HB4 := Lib.hid (HB3.out.trans (b4.mono HB3.out.size))
  clear b4 f0 f1 f2 hl3
  go_wp2
  go_loopw [10, 11, 12, 13, 14] (fun s10 i _ _ _ wr => ∃ (k : Nat), k ≤ n7 ∧ i = .int .i64 k ∧ Hid (Grw wr w2.heap.size 29 1 s10 k (((L.take k).map (fewL p)).map inD)) ∧ Hid (∀ j, j < k → dwOk p (L[j]?.getD []) = true) ∧ Hid (Below w2.heap.size w2 wr) ∧ wr.cell? ⟨w.heap.size, 0, none⟩ = some (.slice a1 m1 c1) ∧ wr.cell? ⟨w.heap.size, 1, none⟩ = some (.slice a2 m2 c2) ∧ wr.cell? ⟨w.heap.size, 2, none⟩ = some (.slice a3 m3 c3)) (fun _ i _ _ _ _ => n7 - (intOf i).toNat)
  case atStart => exact ⟨0, Nat.zero_le _, rfl, HG4.out, fun j hj => absurd hj (Nat.not_lt_zero j), HB4.out, g0, g1, g2⟩
  case round =>
    clear g0 g1 g2
    obtain ⟨k, hk, rfl, HG, HK, HB, t0, t1, t2⟩ := hrel
    obtain ⟨-, a10, c10, rfl⟩ := HG.out.form
    have HBW := Lib.hid (HB2.out.trans (HB.out.mono HB2.out.size))
    by_cases hlt : k < n7
    · have hltI : (k : Int) < (n7 : Int) := by omega
      obtain ⟨b, off, u, rfl, hu, hru⟩ := HR2.out wr HB.out k hlt
      have lt0 := World.block_lt_of_cell? _ _ t0
      have ltb := World.block_lt_of_cell? _ _ hu
      have HTK := Lib.hid (HOT.out k hlt)
      have HST := Lib.hid (fun h => upto_succ HK.out (k := k) h)
      have hkl : k < L.length := by rw [HN7.out]; exact hlt
      have HNX2 := Lib.hid (@pcT_next p L k hkl)
      have HFP := Lib.hid (fun w' (hb : Below wr.heap.size wr w') => (HFE.out w' (HBW.out.trans (hb.mono HBW.out.size)) u (L[k]?.getD []) (hru.belowAll hb)).mono (show ∀ (e : Ending) (w5 : World), FfP p (L[k]?.getD []) w' e w5 → (∃ v', e = .returned (.tuple #[v', .bool (ffB p (L[k]?.getD [])), .bool (dwOk p (L[k]?.getD []))]) ∧ Ofr w5 wr.heap.size (inD (ffR p (L[k]?.getD []))) v' ∧ Below wr.heap.size wr w5) from fun e w5 ⟨v', h1, h2, h3⟩ => ⟨v', h1, h2.mono hb.size, hb.trans (h3.mono hb.size)⟩))
      have HFL := Lib.hid (HFY.out (L[k]?.getD []))
      obtain ⟨au, cu, nu, -, rfl, -, -, -⟩ := hru.opn
      have HS := Lib.hid (fun (w' : World) (hb : Below wr.heap.size wr w') => show Below wr.heap.size wr w' ∧ w'.cell? ⟨w.heap.size, 0, none⟩ = some (.slice a1 m1 c1) ∧ w'.cell? ⟨w.heap.size, 1, none⟩ = some (.slice a2 m2 c2) ∧ w'.cell? ⟨w.heap.size, 2, none⟩ = some (.slice a3 m3 c3) ∧ w'.cell? ⟨b, off + k, none⟩ = some (.slice au nu cu) from
        ⟨hb, (hb.cell (p := ⟨w.heap.size, 0, none⟩) lt0).trans t0, (hb.cell (p := ⟨w.heap.size, 1, none⟩) lt0).trans t1, (hb.cell (p := ⟨w.heap.size, 2, none⟩) lt0).trans t2, (hb.cell (p := ⟨b, off + k, none⟩) ltb).trans hu⟩)
      have s0 : Below wr.heap.size wr wr.drew := (Below.refl wr.heap.size wr).drew
      clear hru hkl t0 t1 t2 hu
      generalize L[k]?.getD [] = ys at *
      generalize ffB p ys = FB at *
      generalize fewL p ys = F at *
      generalize hfr : ffR p ys = FR at *
      cases hdw : dwOk p ys
      · have HE := Lib.hid (HTK.out hdw)
        have HE2 := Lib.hid (HRN.out HE.out)
        rw [hdw] at HFP
        clear hdw hfr
        go_wp2
        go_region_held3 (fun w' => Below wr.heap.size wr w' ∧ w'.cell? ⟨w.heap.size, 0, none⟩ = some (.slice a1 m1 c1) ∧ w'.cell? ⟨w.heap.size, 1, none⟩ = some (.slice a2 m2 c2) ∧ w'.cell? ⟨w.heap.size, 2, none⟩ = some (.slice a3 m3 c3) ∧ w'.cell? ⟨b, off + k, none⟩ = some (.slice au nu cu))
          (first | exact HS.out _ (by assumption))
          (first | (go_at_call 35; (with_reducible refine (HFP.out _ (And.left (by assumption))).mono ?_); rintro e w9 ⟨v9, rfl, o9, s9⟩; obtain ⟨a9, c9, n9, -, rfl, -, -, -⟩ := o9.own.rd.opn))
        have HB9 := Lib.hid (HBW.out.trans (s9.mono HBW.out.size))
        have HG9 := Lib.hid (Grw.start (w := w9) (base := w.heap.size) (size := 1) 29 HB9.out.size)
        have HB10 := Lib.hid (HB9.out.alloc HB9.out.size (.cells #[] 29))
        clear o9 s9 s0
        go_wp2
        go_ret2
        exact ⟨_, by rw [HE.out]; rfl, by rw [HE2.out]; exact HG9.out.ofr, HB10.out⟩
      · have HS2 := Lib.hid (HST.out hdw)
        have HFE2 := Lib.hid (show FR = F from HFL.out hdw)
        rw [hdw] at HFP
        clear hdw HTK HST hfr
        go_wp2
        go_region_held3 (fun w' => Below wr.heap.size wr w' ∧ w'.cell? ⟨w.heap.size, 0, none⟩ = some (.slice a1 m1 c1) ∧ w'.cell? ⟨w.heap.size, 1, none⟩ = some (.slice a2 m2 c2) ∧ w'.cell? ⟨w.heap.size, 2, none⟩ = some (.slice a3 m3 c3) ∧ w'.cell? ⟨b, off + k, none⟩ = some (.slice au nu cu))
          (first | exact HS.out _ (by assumption))
          (first | (go_at_call 35; (with_reducible refine (HFP.out _ (And.left (by assumption))).mono ?_); rintro e w9 ⟨v9, rfl, o9, s9⟩; obtain ⟨a9, c9, n9, -, rfl, -, -, -⟩ := o9.own.rd.opn))
        have HB7 := Lib.hid s9
        have HO7 := Lib.hid (Newd.one o9)
        obtain ⟨k0, k1, k2, -⟩ := (HS.out _ s9).2
        clear o9 s9 s0
        go_wp2_with (at_builtin; go_loud (refine wpList_grow rfl (.tmp 49) (.tmp 51) 63 29 rfl Tryz.underlying63 (.slice none 0 0) 1 24 Tryz.infoRows rfl (by decide) (by decide) w2.heap.size k (.slice a10 k c10) _ _ rfl HG.out HB.out.size HB7.out [.slice a9 n9 c9] HO7.out rfl (by simp [Value.oneCell']) rfl (by omega) ?_); intro v8 w8 G8 gr8 l8; have HG8 := Lib.hid G8; have HB8 := Lib.hid ((HB.out.trans (HB7.out.mono HB.out.size)).grown gr8 (Nat.le_trans HB.out.size HB7.out.size) (fun q hq => (HG.out.own q hq).1)); have i0 := (gr8.cell_far ⟨w.heap.size, 0, none⟩ (World.block_lt_of_cell? _ _ k0) (fun e => Nat.lt_irrefl _ (Nat.lt_of_lt_of_le hl2 (HG.out.own _ e.symm).1))).trans k0; have i1 := (gr8.cell_far ⟨w.heap.size, 1, none⟩ (World.block_lt_of_cell? _ _ k1) (fun e => Nat.lt_irrefl _ (Nat.lt_of_lt_of_le hl2 (HG.out.own _ e.symm).1))).trans k1; have i2 := (gr8.cell_far ⟨w.heap.size, 2, none⟩ (World.block_lt_of_cell? _ _ k2) (fun e => Nat.lt_irrefl _ (Nat.lt_of_lt_of_le hl2 (HG.out.own _ e.symm).1))).trans k2; clear G8 gr8 l8)
        have HG9 := Lib.hid (show Grw w8 w2.heap.size 29 1 v8 (k + 1) (((L.take (k + 1)).map (fewL p)).map inD) from by rw [HNX2.out, List.map_append, ← HFE2.out]; exact HG8.out)
        go_roundw
        case rel => exact ⟨k + 1, hlt, by go_num, HG9.out, HS2.out, HB8.out, i0, i1, i2⟩
        case measure => simp [intOf]; omega
    · obtain rfl : n7 = k := by omega
      have HE := Lib.hid (HOY2.out HK.out)
      have HE2 := Lib.hid (show R = (L.take n7).map (fewL p) from by rw [HRY.out HE.out, List.take_of_length_le (Nat.le_of_eq HN7.out)])
      go_wp2
      go_ret2
      exact ⟨_, by rw [HE.out]; rfl, by rw [HE2.out]; exact HG.out.ofr.mono HB2.out.size, HBW.out⟩
end Go.Proofs.YtmkkdenhjfjmgaaGreat
namespace Go.Proofs.YtmkkdenhjfjmgaaGreat

theorem addL_mem {R : List (List Int)} {r r' : List Int} (h : r ∈ R) (hs : ∀ y ∈ lastL R, y ∈ r') : ∃ r2 ∈ addL R r', ∀ y ∈ r, y ∈ r2 := by
  obtain ⟨j, hj, rfl⟩ := List.mem_iff_getElem.1 h
  unfold addL
  by_cases e : j = R.length - 1
  · refine ⟨r', List.mem_iff_getElem.2 ⟨j, by simpa using hj, by simp [e]⟩, fun y hy => hs y ?_⟩
    unfold lastL
    rw [← e, List.getElem?_eq_getElem hj]
    exact hy
  · exact ⟨R[j], List.mem_iff_getElem.2 ⟨j, by simpa using hj, by rw [List.getElem_set_ne (by omega)]⟩, fun y hy => hy⟩
theorem addL_new {R : List (List Int)} {r : List Int} (h : 0 < R.length) : r ∈ addL R r :=
  List.mem_iff_getElem.2 ⟨R.length - 1, by rw [addL_len]; omega, by unfold addL; simp⟩
theorem rwB_pos {zs : List Alm} {gap : Int} {k : Nat} {R : List (List Int)} (h : k = 0 ∨ 0 < R.length) : 0 < (rwB zs gap k R).length := by
  rw [rwB_len]
  split
  · omega
  · rename_i hn
    rcases h with h | h
    · subst h
      exact absurd (show newB zs gap 0 = true by unfold newB; simp) hn
    · exact h
theorem rwS_posB {zs : List Alm} {gap : Int} : ∀ {k : Nat}, 0 < k → 0 < (rwS zs gap k).length
  | k + 1, _ => by
    show 0 < (addL _ _).length
    rw [addL_len]
    refine rwB_pos ?_
    by_cases h : k = 0
    · exact .inl h
    · exact .inr (rwS_posB (by omega))
theorem rwS_has {zs : List Alm} {gap : Int} : ∀ {k i : Nat}, i < k → ∃ r ∈ rwS zs gap k, (alA zs i).l ∈ r
  | k + 1, i, h => by
    have hsub : ∀ y ∈ lastL (rwB zs gap k (rwS zs gap k)), y ∈ putI (lastL (rwB zs gap k (rwS zs gap k))) (alA zs k).l := fun y hy => putI_mem.2 (.inr hy)
    by_cases e : i = k
    · subst e
      refine ⟨_, addL_new (rwB_pos ?_), putI_mem.2 (.inl rfl)⟩
      by_cases h0 : i = 0
      · exact .inl h0
      · exact .inr (rwS_posB (by omega))
    · obtain ⟨r, hr, hl⟩ := rwS_has (k := k) (i := i) (by omega)
      have hr' : r ∈ rwB zs gap k (rwS zs gap k) := by
        unfold rwB
        split
        · exact List.mem_append_left _ hr
        · exact hr
      obtain ⟨r2, h2, h3⟩ := addL_mem hr' hsub
      exact ⟨r2, h2, h3 _ hl⟩
theorem rwS_one {zs : List Alm} (h : ∀ i, i < zs.length → alOk zs i = true) : ∀ {k : Nat}, k ≤ zs.length → (rwS zs 1000000 k).length ≤ 1
  | 0, _ => by simp [rwS]
  | k + 1, hk => by
    show (addL _ _).length ≤ 1
    rw [addL_len, rwB_len]
    have ih := rwS_one h (k := k) (by omega)
    by_cases h0 : k = 0
    · subst h0
      split <;> simp [rwS]
    · have hn : newB zs 1000000 k = false := by
        have h1 := h k (by omega)
        have h2 := h (k - 1) (by omega)
        unfold alOk inB at h1 h2
        simp only [Bool.and_eq_true, decide_eq_true_eq] at h1 h2
        unfold newB
        rw [decide_eq_false h0, decide_eq_false (by omega)]
        rfl
      rw [hn]
      simpa using ih
theorem albOk_at' {zs : List Alm} {gap : Int} (h : albOk zs gap = true) : zs.length ≤ 40 ∧ ∀ i, i < zs.length → alOk zs i = true := by
  unfold albOk at h
  simp only [Bool.and_eq_true, decide_eq_true_eq, List.all_eq_true, List.mem_range] at h
  exact ⟨h.1, fun i hi => h.2.2 i hi⟩
theorem albOk_big {zs : List Alm} {gap : Int} (h : albOk zs gap = true) : albOk zs 1000000 = true := by
  obtain ⟨h1, h2⟩ := albOk_at' h
  exact albOk_all h1 (by unfold inB; decide) h2
theorem alb_big {zs : List Alm} {gap : Int} (h : albOk zs gap = true) : (albR zs 1000000).length ≤ 1 ∧ (albR zs 1000000).length ≤ (albR zs gap).length := by
  unfold albR
  rw [if_pos (albOk_big h), if_pos h]
  have h1 := rwS_one (albOk_at' h).2 (Nat.le_refl _)
  refine ⟨h1, ?_⟩
  by_cases h0 : zs.length = 0
  · rw [h0]; simp [rwS]
  · have := rwS_posB (zs := zs) (gap := gap) (k := zs.length) (by omega)
    omega
theorem alb_has {zs : List Alm} {gap : Int} (h : albOk zs gap = true) {i : Nat} (hi : i < zs.length) : ((albR zs gap).any fun r => r.contains (alA zs i).l) = true := by
  unfold albR
  rw [if_pos h, List.any_eq_true]
  obtain ⟨r, hr, hl⟩ := rwS_has (gap := gap) hi
  exact ⟨r, hr, by rw [List.contains_iff_mem]; exact hl⟩
theorem pc_at {p : Pln} {zs : List Alm} {gap : Int} (h : pcOk p zs gap = true) : albOk zs gap = true ∧ (pcR p zs gap).length = (albR zs gap).length ∧ ∀ i, i < (pcR p zs gap).length → ¬ ((pcR p zs gap)[i]?.getD []).length = 0 →
    ieR p ((albR zs gap)[i]?.getD []) ((pcR p zs gap)[i]?.getD []) = true ∧ ieOk p ((albR zs gap)[i]?.getD []) ((pcR p zs gap)[i]?.getD []) = true := by
  have hr := pcR_yes h
  have hl : (pcR p zs gap).length = (albR zs gap).length := by rw [hr, List.length_map]
  unfold pcOk at h
  simp only [Bool.and_eq_true, List.all_eq_true] at h
  refine ⟨h.1, hl, fun i hi hne => ?_⟩
  have hi' : i < (albR zs gap).length := by omega
  have e : (pcR p zs gap)[i]?.getD [] = fewL p ((albR zs gap)[i]?.getD []) := by
    rw [hr, List.getElem?_map, List.getElem?_eq_getElem hi']; rfl
  rw [e] at hne ⊢
  refine few_ie (h.2.2 _ ?_) hne
  rw [List.getElem?_eq_getElem hi']
  exact List.getElem_mem hi'
end Go.Proofs.YtmkkdenhjfjmgaaGreat
namespace Go.Proofs.YtmkkdenhjfjmgaaGreat
open Go.RowKit Go.Sort
set_option maxRecDepth 100000

theorem Tryz.infoAlm : (Tryz.prog.info? 67).map (fun i => (i.zero, i.size, i.bytes)) = some (some (.agg #[.int .i64 0, .int .i64 0]), 2, 16) := by kernel_rfl
/-- A row of alarms of the call's own. -/
def AmR (w : World) (base : Nat) (v : Value) (zs : List Alm) : Prop := w.ownsRow base 67 2 v zs.length (zs.flatMap almE)
theorem AmR.kept {w w' : World} {base : Nat} {v : Value} {zs : List Alm} (h : AmR w base v zs) (hk : ∀ g, v.ownBlock = some g → w'.heap[g]? = w.heap[g]?) : AmR w' base v zs := row_kept0 h hk
theorem AmR.below {w w' : World} {base : Nat} {v : Value} {zs : List Alm} (h : AmR w base v zs) (hb : Below w.heap.size w w') : AmR w' base v zs := h.kept fun g hg => hb.block g (World.ownsRow.lt h g hg).2
theorem AmR.cs {w1 w2 : World} {base B K : Nat} {c v : Value} {zs : List Alm} (h : AmR w1 base v zs) (hB : B < base) (hc : CS w1 B c K w2) : AmR w2 base v zs :=
  h.kept fun g hg => hc.2.2.block g (World.ownsRow.lt h g hg).2 fun e => by have := (World.ownsRow.lt h g hg).1; have := Option.some.inj e; omega
theorem AmR.base {w : World} {b b' : Nat} {v : Value} {zs : List Alm} (h : AmR w b v zs) (hb : b' ≤ b) : AmR w b' v zs :=
  ⟨h.1, h.2.imp id fun ⟨g, cap, cur, k1, k2, k3⟩ => ⟨g, cap, cur, k1, Nat.le_trans hb k2, k3⟩⟩
theorem AmR.rd {w : World} {base : Nat} {v : Value} {zs : List Alm} (h : AmR w base v zs) : Rdt w (flt 2 almE zs) v := (flt_of_row h).rd
theorem AmR.snoc {w : World} {base : Nat} {v : Value} {zs : List Alm} {z : Alm} (h : w.ownsRow base 67 2 v (zs.length + 1) (zs.flatMap almE ++ almE z)) : AmR w base v (zs ++ [z]) := by
  unfold AmR
  rw [List.length_append, List.flatMap_append]
  simpa using h
def lenV : Value → Nat
  | .slice _ n _ => n
  | _ => 0
def AmP (L m : Nat) (w : World) (B : Nat) (c : Value) (K : Nat) (e : Ending) (w' : World) : Prop := ∃ v zs, e = .returned v ∧ AmR w' w.heap.size v zs ∧ zs.length ≤ L ∧ CS w B c (K + m) w'
set_option maxHeartbeats 6400000 in
theorem alarms_any (B b0 : Nat) (c : Value) (K : Nat) (vi : Value) (ids : List Int) (w : World) (h : Cs w B c K) (hk : K ≤ 2000000000000000) (hi : Own w b0 vi ids) (hB0 : B < b0) (hil : ids.length ≤ 1000) :
    Calls Tryz.prog 80 #[ptr B, vi] w (AmP 60 300 w B c K) := by
  have hBw := h.lt.1
  obtain ⟨ai, ci, ni, HNI, rfl, hci, hni, hai⟩ := hi.rd.opn
  have hni3 : ni ≤ 1000 := by have := HNI.out; omega
  have HI := Lib.hid hi
  have HIL := Lib.hid (fun g hg => (hi.lt g hg).2)
  obtain ⟨NP, hNP⟩ : ∃ NP, NP = AmP 60 300 w B c K := ⟨_, rfl⟩
  rw [← hNP]
  have HC := Lib.hid h.here
  clear h hi hai
  have HB1 := Lib.hid ((Below.refl w.heap.size w).alloc (Nat.le_refl _) (.cells #[] 67))
  have R1 := Lib.hid (show AmR (w.alloc (.cells #[] 67)) w.heap.size (.slice (some ⟨w.heap.size, 0, none⟩) 0 0) [] from World.ownsRow_made w #[] 0 (Nat.le_refl _) (Nat.zero_le _) (by simp))
  go_enter Tryz.func80, Tryz.ntmps80
  go_upto_region 2 with fail
  have C1 := Lib.hid (HC.out.below HB1.out)
  have I1 := Lib.hid (HI.out.belowAll HB1.out)
  generalize w.alloc (.cells #[] 67) = w1 at *
  generalize (some (⟨w.heap.size, 0, none⟩ : Addr)) = a5 at *
  clear HB1 HC HI
  go_wp2_with fail
  refine (pickC B c _ 100 w1 C1.out.st (by omega) (by omega) (by omega)).mono ?_
  rintro e w2 ⟨tm, tm0, tm1, rfl, hc2, -⟩
  have C2 := Lib.hid (C1.out.call hc2)
  have I2 := Lib.hid (Own.cs I1.out hB0 hc2)
  have R2 := Lib.hid (R1.out.cs hBw hc2)
  clear C1 I1 R1 hc2
  go_wp2_with fail
  refine (pickC B c _ 9 w2 C2.out.st (by omega) (by omega) (by omega)).mono ?_
  rintro e w3 ⟨xm, xm0, xm1, rfl, hc3, -⟩
  have C3 := Lib.hid (C2.out.call hc3)
  have I3 := Lib.hid (Own.cs I2.out hB0 hc3)
  have R3 := Lib.hid (R2.out.cs hBw hc3)
  clear C2 I2 R2 hc3
  obtain ⟨m, rfl⟩ := Int.eq_ofNat_of_zero_le xm0
  have hm8 : m ≤ 8 := by omega
  go_wp2_with fail
  go_loopw [5, 6, 7] (fun s5 s6 s7 wr => ∃ (m : Nat) (tm : Int) (zs : List Alm), m ≤ 8 ∧ s6 = .int .i64 tm ∧ 0 ≤ tm ∧ tm ≤ 99 + 50 * (8 - m) ∧ s7 = .int .i64 m ∧ zs.length + m ≤ 8 ∧ Hid (AmR wr w.heap.size s5 zs) ∧ Hid (Own wr b0 (.slice ai ni ci) ids) ∧ Hid (CS w B c (K + 40 - 4 * m) wr)) (fun _ _ s7 _ => (intOf s7).toNat)
  case atStart => exact ⟨m, tm, [], hm8, rfl, tm0, by omega, rfl, by simpa using hm8, R3.out, I3.out, C3.out.mono (by omega)⟩
  case round =>
    clear R3 I3 C3 tm0 tm1 hm8 xm0 xm1
    obtain ⟨m, tm, zs, hm8, rfl, tm0, tm1, rfl, hzm, RR, II, CC⟩ := hrel
    have hsw := CC.out.size
    by_cases hlt : 0 < m ∧ 0 < ni
    · obtain ⟨hlm, hln⟩ := hlt
      have hlmI : (0 : Int) < (m : Int) := by omega
      have hlnI : (0 : Int) < (ni : Int) := by omega
      have hwm : IntKind.i64.wrap ((m : Int) - 1) = ((m - 1 : Nat) : Int) := by rw [IntWalk.i64_in _ (by omega)]; omega
      go_wp2_with fail
      refine (pickC B c _ (ni : Int) wr CC.out.st (by omega) (by omega) (by omega)).mono ?_
      rintro e w4 ⟨xj, xj0, xj1, rfl, hc4, -⟩
      have C4 := Lib.hid (CC.out.call hc4)
      have I4 := Lib.hid (Own.cs II.out hB0 hc4)
      have R4 := Lib.hid (RR.out.cs hBw hc4)
      have hs4 := C4.out.size
      obtain ⟨j, rfl⟩ := Int.eq_ofNat_of_zero_le xj0
      have hj : j < ni := by omega
      have hjI : (j : Int) < (ni : Int) := by omega
      obtain ⟨bi, oi, cai, ei, hci1, hci2, hbi, hcc⟩ := (I4.out.rd).resolve_left (fun h => by have := h.2; rw [this] at HNI; have := HNI.out; simp at this; omega)
      rw [HNI.out] at ei hci1 hcc
      simp only [Value.slice.injEq, true_and] at ei
      obtain ⟨rfl, rfl⟩ := ei
      have hcj := hcc j hj
      clear hcc CC II RR hc4 xj0 xj1
      generalize ids[j]?.getD 0 = y at *
      have hsa4 : w.heap.size ≤ (w4.alloc (.cells #[.int .i64 tm, .int .i64 y] 67)).heap.size := by simp; omega
      go_upto_region 7 with (at_builtin; (refine wpList_catG rfl (.tmp 22) (.tmp 32) 60 67 rfl Tryz.underlying60 (.agg #[.int .i64 0, .int .i64 0]) 2 16 Tryz.infoAlm rfl (by decide) w.heap.size _ _ (zs.flatMap almE) (by rfl) (R4.out.below ((Below.refl _ _).alloc (Nat.le_refl _) (.cells #[.int .i64 (tm), .int .i64 (y)] 67))) (some ⟨w4.heap.size, 0, none⟩) 1 1 (almE ⟨tm, y⟩) (by rfl) rfl (fun e => by cases e) (fun ad e j u hu => by cases e; exact World.news_of_block (heap_alloc_new w4 (.cells #[.int .i64 (tm), .int .i64 (y)] 67)) j u hu) (fun u hu => by simp [almE] at hu; rcases hu with rfl | rfl <;> rfl) (by unfold maxLen; omega) (by omega) hsa4 ?_); (intro v8 w8 o8 g8 l8); (have C8 := Lib.hid ((C4.out.alloc (.cells #[.int .i64 (tm), .int .i64 (y)] 67)).grown g8 fun g hg => (World.ownsRow.lt R4.out g hg).1)); (have R8 := Lib.hid (AmR.snoc o8)); (have o8b := o8))
      have hs8 := C8.out.size
      have I8 := Lib.hid (show Own w8 b0 (.slice (some ⟨bi, oi, none⟩) ni ci) ids from Own.kept I4.out fun g hg => by
        have h1 := HIL.out g hg
        rw [g8.block g (by simp; omega) fun e => by have := (World.ownsRow.lt R4.out g e.symm).1; omega]
        exact heap_alloc_old w4 _ (by omega))
      clear R4 C4 hcj o8b g8 o8 l8
      have CA := Lib.hid (C8.out.alloc (.cells #[.int .i64 0, .int .i64 1, .int .i64 2, .int .i64 5, .int .i64 50] 3))
      have HR := Lib.hid (lit_rng (n := 5) (lo := 0) (hi := 50) (heap_alloc_new w8 (.cells #[.int .i64 0, .int .i64 1, .int .i64 2, .int .i64 5, .int .i64 50] 3)) (by
        intro j hj
        rcases j with _ | _ | _ | _ | _ | j
        · exact ⟨0, by omega, by omega, rfl⟩
        · exact ⟨1, by omega, by omega, rfl⟩
        · exact ⟨2, by omega, by omega, rfl⟩
        · exact ⟨5, by omega, by omega, rfl⟩
        · exact ⟨50, by omega, by omega, rfl⟩
        · omega))
      go_wp2_with fail
      refine (amongC B c _ w8.heap.size 5 5 0 50 _ CA.out.st (by omega) (by omega) (by omega) (by omega) HR.out).mono ?_
      rintro e w9 ⟨z, z0, z1, rfl, hc9, -⟩
      have C9 := Lib.hid (CA.out.call hc9)
      have hal := (Below.refl w8.heap.size w8).alloc (Nat.le_refl _) (.cells #[.int .i64 0, .int .i64 1, .int .i64 2, .int .i64 5, .int .i64 50] 3)
      have I9 := Lib.hid (Own.cs (I8.out.belowAll hal) hB0 hc9)
      have R9 := Lib.hid ((R8.out.below hal).cs hBw hc9)
      have hwt : IntKind.i64.wrap (tm + z) = tm + z := IntWalk.i64_in _ (by omega)
      clear C8 I8 R8 CA HR hc9 hal I4
      go_wp2_with fail
      go_roundw
      case rel => exact ⟨m - 1, tm + z, _, by omega, rfl, by omega, by omega, by go_num, by rw [List.length_append, List.length_singleton]; omega, R9.out, I9.out, C9.out.mono (by omega)⟩
      case measure => simp [intOf]; omega
    · have HZ := Lib.hid (show zs.length ≤ 8 by omega)
      by_cases hlm : 0 < m
      · obtain rfl : ni = 0 := by omega
        have hlmI : (0 : Int) < (m : Int) := by omega
        go_wp2_with fail
        refine (pickC B c _ 40 wr CC.out.st (by omega) (by omega) (by omega)).mono ?_
        rintro e wA ⟨k, k0, k1, rfl, hcA, -⟩
        have CT := Lib.hid (CC.out.call hcA)
        have RT := Lib.hid (RR.out.cs hBw hcA)
        have hsT := CT.out.size
        clear CC RR II hcA
        have hz8 : zs.length ≤ 8 := HZ.out
        by_cases e0 : k = 0
        · subst e0
          have CA := Lib.hid (CT.out.alloc (.cells #[.int .i64 0, .int .i64 (-1), .int .i64 1000001, .int .i64 999999] 3))
          have HR := Lib.hid (lit_rng (n := 4) (lo := -1) (hi := 1000001) (heap_alloc_new wA (.cells #[.int .i64 0, .int .i64 (-1), .int .i64 1000001, .int .i64 999999] 3)) (by
            intro j hj
            rcases j with _ | _ | _ | _ | j
            · exact ⟨0, by omega, by omega, rfl⟩
            · exact ⟨-1, by omega, by omega, rfl⟩
            · exact ⟨1000001, by omega, by omega, rfl⟩
            · exact ⟨999999, by omega, by omega, rfl⟩
            · omega))
          go_wp2_with fail
          refine (amongC B c _ wA.heap.size 4 4 (-1) 1000001 _ CA.out.st (by omega) (by omega) (by omega) (by omega) HR.out).mono ?_
          rintro e wB ⟨z, z0, z1, rfl, hcB, -⟩
          have CB := Lib.hid (CA.out.call hcB)
          have RB := Lib.hid ((RT.out.below ((Below.refl wA.heap.size wA).alloc (Nat.le_refl _) (.cells #[.int .i64 0, .int .i64 (-1), .int .i64 1000001, .int .i64 999999] 3))).cs hBw hcB)
          have hsB := CB.out.size
          have hsa : w.heap.size ≤ (wB.alloc (.cells #[.int .i64 z, .int .i64 1] 67)).heap.size := by simp; omega
          clear CA HR CT RT hcB
          go_wp2_with (at_builtin; (refine wpList_catG rfl (.tmp 43) (.tmp 48) 60 67 rfl Tryz.underlying60 (.agg #[.int .i64 0, .int .i64 0]) 2 16 Tryz.infoAlm rfl (by decide) w.heap.size _ _ (zs.flatMap almE) (by rfl) (RB.out.below ((Below.refl _ _).alloc (Nat.le_refl _) (.cells #[.int .i64 (z), .int .i64 (1)] 67))) (some ⟨wB.heap.size, 0, none⟩) 1 1 (almE ⟨z, 1⟩) (by rfl) rfl (fun e => by cases e) (fun ad e j u hu => by cases e; exact World.news_of_block (heap_alloc_new wB (.cells #[.int .i64 (z), .int .i64 (1)] 67)) j u hu) (fun u hu => by simp [almE] at hu; rcases hu with rfl | rfl <;> rfl) (by unfold maxLen; omega) (by omega) hsa ?_); (intro v8 w8 o8 g8 l8); (have C8 := Lib.hid ((CB.out.alloc (.cells #[.int .i64 (z), .int .i64 (1)] 67)).grown g8 fun g hg => (World.ownsRow.lt RB.out g hg).1)); (have R8 := Lib.hid (AmR.snoc o8)); (have o8b := o8))
          subst hNP
          exact ⟨_, _, rfl, R8.out, by rw [List.length_append, List.length_singleton]; omega, C8.out.mono (by omega)⟩
        by_cases e1 : k = 1
        · subst e1
          have CA := Lib.hid (CT.out.alloc (.cells #[.int .i64 0, .int .i64 1000, .int .i64 999] 3))
          have HR := Lib.hid (lit_rng (n := 3) (lo := 0) (hi := 1000) (heap_alloc_new wA (.cells #[.int .i64 0, .int .i64 1000, .int .i64 999] 3)) (by
            intro j hj
            rcases j with _ | _ | _ | j
            · exact ⟨0, by omega, by omega, rfl⟩
            · exact ⟨1000, by omega, by omega, rfl⟩
            · exact ⟨999, by omega, by omega, rfl⟩
            · omega))
          go_wp2_with fail
          refine (amongC B c _ wA.heap.size 3 3 0 1000 _ CA.out.st (by omega) (by omega) (by omega) (by omega) HR.out).mono ?_
          rintro e wB ⟨z, z0, z1, rfl, hcB, -⟩
          have CB := Lib.hid (CA.out.call hcB)
          have RB := Lib.hid ((RT.out.below ((Below.refl wA.heap.size wA).alloc (Nat.le_refl _) (.cells #[.int .i64 0, .int .i64 1000, .int .i64 999] 3))).cs hBw hcB)
          have hsB := CB.out.size
          have hsa : w.heap.size ≤ (wB.alloc (.cells #[.int .i64 900000, .int .i64 z] 67)).heap.size := by simp; omega
          clear CA HR CT RT hcB
          go_wp2_with (at_builtin; (refine wpList_catG rfl (.tmp 52) (.tmp 57) 60 67 rfl Tryz.underlying60 (.agg #[.int .i64 0, .int .i64 0]) 2 16 Tryz.infoAlm rfl (by decide) w.heap.size _ _ (zs.flatMap almE) (by rfl) (RB.out.below ((Below.refl _ _).alloc (Nat.le_refl _) (.cells #[.int .i64 (900000), .int .i64 (z)] 67))) (some ⟨wB.heap.size, 0, none⟩) 1 1 (almE ⟨900000, z⟩) (by rfl) rfl (fun e => by cases e) (fun ad e j u hu => by cases e; exact World.news_of_block (heap_alloc_new wB (.cells #[.int .i64 (900000), .int .i64 (z)] 67)) j u hu) (fun u hu => by simp [almE] at hu; rcases hu with rfl | rfl <;> rfl) (by unfold maxLen; omega) (by omega) hsa ?_); (intro v8 w8 o8 g8 l8); (have C8 := Lib.hid ((CB.out.alloc (.cells #[.int .i64 (900000), .int .i64 (z)] 67)).grown g8 fun g hg => (World.ownsRow.lt RB.out g hg).1)); (have R8 := Lib.hid (AmR.snoc o8)); (have o8b := o8))
          subst hNP
          exact ⟨_, _, rfl, R8.out, by rw [List.length_append, List.length_singleton]; omega, C8.out.mono (by omega)⟩
        by_cases e2 : k = 2
        · subst e2
          clear e0 e1
          go_wp2_with fail
          go_loopw [5] (fun s5 wr => ∃ (zs : List Alm), zs.length ≤ 41 ∧ Hid (AmR wr w.heap.size s5 zs) ∧ Hid (CS w B c (K + 60 + 2 * zs.length) wr)) (fun s5 _ => 42 - lenV s5)
          case atStart => exact ⟨zs, by omega, RT.out, CT.out.mono (by omega)⟩
          case round =>
            clear RT CT hz8 HZ hzm
            obtain ⟨zs, hz, RT, CT⟩ := hrel
            obtain ⟨aa, ca, hv⟩ := row_form0 RT.out
            subst hv
            have HLZ := Lib.hid (show zs.length = zs.length from rfl)
            go_wp2_with fail
            refine (pickC B c _ 2 wr CT.out.st (by omega) (by omega) (by omega)).mono ?_
            rintro e wB ⟨y, y0, y1, rfl, hcB, -⟩
            have CB := Lib.hid (CT.out.call hcB)
            have RB := Lib.hid (RT.out.cs hBw hcB)
            have hsB := CB.out.size
            have hwy : IntKind.i64.wrap (40 + y) = 40 + y := IntWalk.i64_in _ (by omega)
            clear CT RT hcB
            by_cases hlt : (zs.length : Int) < 40 + y
            · have hsa : w.heap.size ≤ (wB.alloc (.cells #[.int .i64 900000, .int .i64 1] 67)).heap.size := by simp; omega
              go_wp2_with (at_builtin; (refine wpList_catG rfl (.tmp 67) (.tmp 69) 60 67 rfl Tryz.underlying60 (.agg #[.int .i64 0, .int .i64 0]) 2 16 Tryz.infoAlm rfl (by decide) w.heap.size _ _ (zs.flatMap almE) (by rfl) (RB.out.below ((Below.refl _ _).alloc (Nat.le_refl _) (.cells #[.int .i64 (900000), .int .i64 (1)] 67))) (some ⟨wB.heap.size, 0, none⟩) 1 1 (almE ⟨900000, 1⟩) (by rfl) rfl (fun e => by cases e) (fun ad e j u hu => by cases e; exact World.news_of_block (heap_alloc_new wB (.cells #[.int .i64 (900000), .int .i64 (1)] 67)) j u hu) (fun u hu => by simp [almE] at hu; rcases hu with rfl | rfl <;> rfl) (by unfold maxLen; omega) (by omega) hsa ?_); (intro v8 w8 o8 g8 l8); (have C8 := Lib.hid ((CB.out.alloc (.cells #[.int .i64 (900000), .int .i64 (1)] 67)).grown g8 fun g hg => (World.ownsRow.lt RB.out g hg).1)); (have R8 := Lib.hid (AmR.snoc o8)); (have o8b := o8))
              obtain ⟨a8, c8, hv8⟩ := row_form0 R8.out
              subst hv8
              clear o8 g8 l8 o8b CB RB
              go_roundw
              case rel => exact ⟨_, by rw [List.length_append, List.length_singleton]; omega, R8.out, C8.out.mono (by rw [List.length_append, List.length_singleton]; omega)⟩
              case measure => simp [lenV]; omega
            · go_wp2_with fail
              subst hNP
              exact ⟨_, _, rfl, RB.out, by omega, CB.out.mono (by omega)⟩
        · go_wp2_with fail
          subst hNP
          exact ⟨_, _, rfl, RT.out, by omega, CT.out.mono (by omega)⟩
      · obtain rfl : m = 0 := by omega
        go_wp2_with fail
        refine (pickC B c _ 40 wr CC.out.st (by omega) (by omega) (by omega)).mono ?_
        rintro e wA ⟨k, k0, k1, rfl, hcA, -⟩
        have CT := Lib.hid (CC.out.call hcA)
        have RT := Lib.hid (RR.out.cs hBw hcA)
        have hsT := CT.out.size
        clear CC RR II hcA
        have hz8 : zs.length ≤ 8 := HZ.out
        by_cases e0 : k = 0
        · subst e0
          have CA := Lib.hid (CT.out.alloc (.cells #[.int .i64 0, .int .i64 (-1), .int .i64 1000001, .int .i64 999999] 3))
          have HR := Lib.hid (lit_rng (n := 4) (lo := -1) (hi := 1000001) (heap_alloc_new wA (.cells #[.int .i64 0, .int .i64 (-1), .int .i64 1000001, .int .i64 999999] 3)) (by
            intro j hj
            rcases j with _ | _ | _ | _ | j
            · exact ⟨0, by omega, by omega, rfl⟩
            · exact ⟨-1, by omega, by omega, rfl⟩
            · exact ⟨1000001, by omega, by omega, rfl⟩
            · exact ⟨999999, by omega, by omega, rfl⟩
            · omega))
          go_wp2_with fail
          refine (amongC B c _ wA.heap.size 4 4 (-1) 1000001 _ CA.out.st (by omega) (by omega) (by omega) (by omega) HR.out).mono ?_
          rintro e wB ⟨z, z0, z1, rfl, hcB, -⟩
          have CB := Lib.hid (CA.out.call hcB)
          have RB := Lib.hid ((RT.out.below ((Below.refl wA.heap.size wA).alloc (Nat.le_refl _) (.cells #[.int .i64 0, .int .i64 (-1), .int .i64 1000001, .int .i64 999999] 3))).cs hBw hcB)
          have hsB := CB.out.size
          have hsa : w.heap.size ≤ (wB.alloc (.cells #[.int .i64 z, .int .i64 1] 67)).heap.size := by simp; omega
          clear CA HR CT RT hcB
          go_wp2_with (at_builtin; (refine wpList_catG rfl (.tmp 43) (.tmp 48) 60 67 rfl Tryz.underlying60 (.agg #[.int .i64 0, .int .i64 0]) 2 16 Tryz.infoAlm rfl (by decide) w.heap.size _ _ (zs.flatMap almE) (by rfl) (RB.out.below ((Below.refl _ _).alloc (Nat.le_refl _) (.cells #[.int .i64 (z), .int .i64 (1)] 67))) (some ⟨wB.heap.size, 0, none⟩) 1 1 (almE ⟨z, 1⟩) (by rfl) rfl (fun e => by cases e) (fun ad e j u hu => by cases e; exact World.news_of_block (heap_alloc_new wB (.cells #[.int .i64 (z), .int .i64 (1)] 67)) j u hu) (fun u hu => by simp [almE] at hu; rcases hu with rfl | rfl <;> rfl) (by unfold maxLen; omega) (by omega) hsa ?_); (intro v8 w8 o8 g8 l8); (have C8 := Lib.hid ((CB.out.alloc (.cells #[.int .i64 (z), .int .i64 (1)] 67)).grown g8 fun g hg => (World.ownsRow.lt RB.out g hg).1)); (have R8 := Lib.hid (AmR.snoc o8)); (have o8b := o8))
          subst hNP
          exact ⟨_, _, rfl, R8.out, by rw [List.length_append, List.length_singleton]; omega, C8.out.mono (by omega)⟩
        by_cases e1 : k = 1
        · subst e1
          have CA := Lib.hid (CT.out.alloc (.cells #[.int .i64 0, .int .i64 1000, .int .i64 999] 3))
          have HR := Lib.hid (lit_rng (n := 3) (lo := 0) (hi := 1000) (heap_alloc_new wA (.cells #[.int .i64 0, .int .i64 1000, .int .i64 999] 3)) (by
            intro j hj
            rcases j with _ | _ | _ | j
            · exact ⟨0, by omega, by omega, rfl⟩
            · exact ⟨1000, by omega, by omega, rfl⟩
            · exact ⟨999, by omega, by omega, rfl⟩
            · omega))
          go_wp2_with fail
          refine (amongC B c _ wA.heap.size 3 3 0 1000 _ CA.out.st (by omega) (by omega) (by omega) (by omega) HR.out).mono ?_
          rintro e wB ⟨z, z0, z1, rfl, hcB, -⟩
          have CB := Lib.hid (CA.out.call hcB)
          have RB := Lib.hid ((RT.out.below ((Below.refl wA.heap.size wA).alloc (Nat.le_refl _) (.cells #[.int .i64 0, .int .i64 1000, .int .i64 999] 3))).cs hBw hcB)
          have hsB := CB.out.size
          have hsa : w.heap.size ≤ (wB.alloc (.cells #[.int .i64 900000, .int .i64 z] 67)).heap.size := by simp; omega
          clear CA HR CT RT hcB
          go_wp2_with (at_builtin; (refine wpList_catG rfl (.tmp 52) (.tmp 57) 60 67 rfl Tryz.underlying60 (.agg #[.int .i64 0, .int .i64 0]) 2 16 Tryz.infoAlm rfl (by decide) w.heap.size _ _ (zs.flatMap almE) (by rfl) (RB.out.below ((Below.refl _ _).alloc (Nat.le_refl _) (.cells #[.int .i64 (900000), .int .i64 (z)] 67))) (some ⟨wB.heap.size, 0, none⟩) 1 1 (almE ⟨900000, z⟩) (by rfl) rfl (fun e => by cases e) (fun ad e j u hu => by cases e; exact World.news_of_block (heap_alloc_new wB (.cells #[.int .i64 (900000), .int .i64 (z)] 67)) j u hu) (fun u hu => by simp [almE] at hu; rcases hu with rfl | rfl <;> rfl) (by unfold maxLen; omega) (by omega) hsa ?_); (intro v8 w8 o8 g8 l8); (have C8 := Lib.hid ((CB.out.alloc (.cells #[.int .i64 (900000), .int .i64 (z)] 67)).grown g8 fun g hg => (World.ownsRow.lt RB.out g hg).1)); (have R8 := Lib.hid (AmR.snoc o8)); (have o8b := o8))
          subst hNP
          exact ⟨_, _, rfl, R8.out, by rw [List.length_append, List.length_singleton]; omega, C8.out.mono (by omega)⟩
        by_cases e2 : k = 2
        · subst e2
          clear e0 e1
          go_wp2_with fail
          go_loopw [5] (fun s5 wr => ∃ (zs : List Alm), zs.length ≤ 41 ∧ Hid (AmR wr w.heap.size s5 zs) ∧ Hid (CS w B c (K + 60 + 2 * zs.length) wr)) (fun s5 _ => 42 - lenV s5)
          case atStart => exact ⟨zs, by omega, RT.out, CT.out.mono (by omega)⟩
          case round =>
            clear RT CT hz8 HZ hzm
            obtain ⟨zs, hz, RT, CT⟩ := hrel
            obtain ⟨aa, ca, hv⟩ := row_form0 RT.out
            subst hv
            have HLZ := Lib.hid (show zs.length = zs.length from rfl)
            go_wp2_with fail
            refine (pickC B c _ 2 wr CT.out.st (by omega) (by omega) (by omega)).mono ?_
            rintro e wB ⟨y, y0, y1, rfl, hcB, -⟩
            have CB := Lib.hid (CT.out.call hcB)
            have RB := Lib.hid (RT.out.cs hBw hcB)
            have hsB := CB.out.size
            have hwy : IntKind.i64.wrap (40 + y) = 40 + y := IntWalk.i64_in _ (by omega)
            clear CT RT hcB
            by_cases hlt : (zs.length : Int) < 40 + y
            · have hsa : w.heap.size ≤ (wB.alloc (.cells #[.int .i64 900000, .int .i64 1] 67)).heap.size := by simp; omega
              go_wp2_with (at_builtin; (refine wpList_catG rfl (.tmp 67) (.tmp 69) 60 67 rfl Tryz.underlying60 (.agg #[.int .i64 0, .int .i64 0]) 2 16 Tryz.infoAlm rfl (by decide) w.heap.size _ _ (zs.flatMap almE) (by rfl) (RB.out.below ((Below.refl _ _).alloc (Nat.le_refl _) (.cells #[.int .i64 (900000), .int .i64 (1)] 67))) (some ⟨wB.heap.size, 0, none⟩) 1 1 (almE ⟨900000, 1⟩) (by rfl) rfl (fun e => by cases e) (fun ad e j u hu => by cases e; exact World.news_of_block (heap_alloc_new wB (.cells #[.int .i64 (900000), .int .i64 (1)] 67)) j u hu) (fun u hu => by simp [almE] at hu; rcases hu with rfl | rfl <;> rfl) (by unfold maxLen; omega) (by omega) hsa ?_); (intro v8 w8 o8 g8 l8); (have C8 := Lib.hid ((CB.out.alloc (.cells #[.int .i64 (900000), .int .i64 (1)] 67)).grown g8 fun g hg => (World.ownsRow.lt RB.out g hg).1)); (have R8 := Lib.hid (AmR.snoc o8)); (have o8b := o8))
              obtain ⟨a8, c8, hv8⟩ := row_form0 R8.out
              subst hv8
              clear o8 g8 l8 o8b CB RB
              go_roundw
              case rel => exact ⟨_, by rw [List.length_append, List.length_singleton]; omega, R8.out, C8.out.mono (by rw [List.length_append, List.length_singleton]; omega)⟩
              case measure => simp [lenV]; omega
            · go_wp2_with fail
              subst hNP
              exact ⟨_, _, rfl, RB.out, by omega, CB.out.mono (by omega)⟩
        · go_wp2_with fail
          subst hNP
          exact ⟨_, _, rfl, RT.out, by omega, CT.out.mono (by omega)⟩
end Go.Proofs.YtmkkdenhjfjmgaaGreat
