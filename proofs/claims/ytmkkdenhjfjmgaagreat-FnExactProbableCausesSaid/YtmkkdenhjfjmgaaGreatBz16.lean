/- Joined: XSuj XSpe. -/
import Derived.Test.YtmkkdenhjfjmgaaGreatBz15
namespace Go.Proofs.YtmkkdenhjfjmgaaGreat
open Go.RowKit Go.Sort
set_option maxRecDepth 100000

theorem bd_oneI {g : Int} {m : Nat} (h : 0 ≤ g ∧ g < (m : Int)) : ∀ i : Nat, i < [g].length → 0 ≤ [g][i]?.getD 0 ∧ [g][i]?.getD 0 < (m : Nat) := fun i hi => by
  have : i = 0 := by simpa using hi
  subst this
  exact h
def hitN (p : Pln) (g : Int) : Bool := (hts p [g]).isEmpty
set_option maxHeartbeats 1600000 in
theorem explains1_any (b : Nat) (p : Pln) (g : Int) (w : World) (h : PlB w b p) (hp : plnOk p = true) (hg : 0 ≤ g ∧ g < (grps p.n).length) (hfb : ∀ i : Nat, (lgA p i).fb.length ≤ 1100000) :
    Calls Tryz.prog 119 #[.int .i64 g, ptr b] w fun e w' => e = .returned (.bool (hitN p g)) ∧ Below w.heap.size w w' := by
  obtain ⟨v1, v2, v3, h1, h2, h3, h4⟩ := h
  obtain ⟨bf, cf, blf, -⟩ := box_facts w #[.int .i64 g] 3
  have z0 := cf 0 _ rfl
  have HH := Lib.hid (hits_any _ _ p [g] _ (h1.behind bf) (rd_one z0) (plnOk_sz hp).2.2.1 (plnOk_sz hp).2.1 hfb (bd_oneI hg) (by simp))
  obtain ⟨a1, m1, c1, a2, m2, c2, a3, m3, c3, rfl, rfl, rfl⟩ := PlB.slices h1
  have HBF := Lib.hid bf
  have HHN := Lib.hid (show hitN p g = (hts p [g]).isEmpty from rfl)
  generalize hts p [g] = H at *
  generalize hitN p g = R at *
  clear h1 hp hfb bf cf z0 hg
  go_enter Tryz.func119, Tryz.ntmps119
  go_wp2_with fail
  generalize w.alloc (.cells #[.int .i64 g] 3) = w2 at *
  refine HH.out.mono ?_
  rintro e w3 ⟨v3, rfl, o3, b3⟩
  obtain ⟨a7, c7, m7, HN7, rfl, -, -, -⟩ := o3.rd.opn
  have HB3 := Lib.hid (HBF.out.trans (b3.mono HBF.out.size))
  have HE := Lib.hid (show R = ((m7 : Int) == 0) from by rw [HHN.out, ← HN7.out]; cases H <;> rfl)
  clear b3 o3
  go_wp2
  go_ret
  exact ⟨by rw [HE.out]; rfl, HB3.out⟩
set_option maxHeartbeats 1600000 in
theorem explains_any (v vd vg : Value) (p : Pln) (d gs : List Int) (w : World) (h : PlnR w v p) (hvd : Rd w vd d) (hv : Rd w vg gs) (hp : plnOk p = true) (hfb : ∀ i : Nat, (lgA p i).fb.length ≤ 1100000)
    (hgs : ∀ i : Nat, i < gs.length → 0 ≤ gs[i]?.getD 0 ∧ gs[i]?.getD 0 < (grps p.n).length) (hgl : gs.length ≤ 10000) :
    Calls Tryz.prog 70 #[v, vd, vg] w fun e w' => e = .returned (.bool (expB p d gs)) ∧ Below w.heap.size w w' := by
  have HHI := Lib.hid (fun w' (hb : Below w.heap.size w w') => hits_any v vg p gs w' (h.behind hb) (hv.belowAll hb) (plnOk_sz hp).2.2.1 (plnOk_sz hp).2.1 hfb hgs hgl)
  have HEQ := Lib.hid (fun (xs : List Int) w' (hb : Below w.heap.size w w') vx (hx : Rd w' vx xs) => equalI_any vx vd xs d w' hx (hvd.belowAll hb))
  have HFN := Lib.hid (show IsFn 119 from isFn_of rfl rfl rfl)
  have HX1 := Lib.hid (fun i hi w' hB => explains1_any w.heap.size p (gs[i]?.getD 0) w' hB hp (hgs i hi) hfb)
  have HCF := Lib.hid (fun (w2 : World) (hb : Below w.heap.size w w2) hp => containsFuncI_any vg gs 119 w.heap.size (hitN p) w2 (hv.belowAll hb) HFN.out hp)
  have HPB := Lib.hid (fun w' (hb : Below w.heap.size w w') => h.behind hb)
  obtain ⟨u1, u2, u3, rfl, r1, r2, r3, hsm⟩ := h
  have hnet : NetR w (.agg #[u1, u2]) p.n := ⟨u1, u2, rfl, r1, r2, hsm⟩
  obtain ⟨⟨a1, m1, c1, rfl⟩, a2, m2, c2, rfl⟩ := slice_of_net hnet
  obtain ⟨a3, m3, c3, rfl, -, -, -, -⟩ := lgt_opn r3
  obtain ⟨ag, cg, ng, -, rfl, -, -, -⟩ := hv.opn
  obtain ⟨ad, cd, nd, -, rfl, -, -, -⟩ := hvd.opn
  obtain ⟨bx, bc, blt, -⟩ := box_facts w #[.slice a1 m1 c1, .slice a2 m2 c2, .slice a3 m3 c3] 38
  have q0 := bc 0 _ rfl
  have q1 := bc 1 _ rfl
  have q2 := bc 2 _ rfl
  have HPB1 := Lib.hid (show PlB (w.alloc (.cells #[.slice a1 m1 c1, .slice a2 m2 c2, .slice a3 m3 c3] 38)) w.heap.size p from ⟨_, _, _, HPB.out _ bx, q0, q1, q2⟩)
  have HBX := Lib.hid bx
  have HEX := Lib.hid (show expB p d gs = (decide (hts p gs = d) && !(gs.any (hitN p))) from rfl)
  generalize hts p gs = H at *
  generalize gs.any (hitN p) = q at *
  generalize expB p d gs = R at *
  clear bx bc r1 r2 r3 hsm hnet hv hvd HPB hp hfb hgs hgl
  go_enter Tryz.func70, Tryz.ntmps70
  go_wp2_with fail
  generalize w.alloc (.cells #[.slice a1 m1 c1, .slice a2 m2 c2, .slice a3 m3 c3] 38) = w1 at *
  refine (HHI.out w1 HBX.out).mono ?_
  rintro e w2 ⟨v2, rfl, o2, b2⟩
  have HB2 := Lib.hid (HBX.out.trans (b2.mono HBX.out.size))
  have HPB2 := Lib.hid (HPB1.out.behind b2)
  have HE2 := Lib.hid (HEQ.out H w2 HB2.out v2 o2.rd)
  obtain ⟨a7, c7, m7, -, rfl, -, -, -⟩ := o2.rd.opn
  generalize decide (H = d) = t at *
  clear b2 o2 q0 q1 q2
  go_wp2_with fail
  refine HE2.out.mono ?_
  rintro e w3 ⟨rfl, dr⟩
  have b3 := dr.below (Below.refl w2.heap.size w2)
  have HB3 := Lib.hid (HB2.out.trans (b3.mono HB2.out.size))
  have HPB3 := Lib.hid (HPB2.out.behind b3)
  clear b3 dr HE2
  cases t
  · have HE := Lib.hid (show R = false from HEX.out)
    go_wp2
    go_ret
    exact ⟨by rw [HE.out]; rfl, HB3.out⟩
  have HE := Lib.hid (show R = !q from by rw [HEX.out, Bool.true_and])
  clear HEX
  go_wp2_with fail
  refine (HCF.out w3 HB3.out (fun i w' hi hb z hz => by subst hz; exact HX1.out i hi w' (HPB3.out.behind hb))).mono ?_
  rintro e w4 ⟨rfl, b4⟩
  have HB4 := Lib.hid (HB3.out.trans (b4.mono HB3.out.size))
  clear b4
  go_wp2
  go_ret
  exact ⟨by rw [HE.out]; rfl, HB4.out⟩
/-! ### SuspectGroups -/
def sgR (p : Pln) (d : List Int) : List Int := if dwOk p d then sps p d else []
theorem sgR_len (p : Pln) (d : List Int) : (sgR p d).length ≤ 23 := by
  unfold sgR
  split
  · rename_i h
    have h1 := (plnOk_sz (dwOk_parts h).1).2.2.2
    exact Nat.le_trans (susTo_len _ _ _) h1
  · simp
def SgP (p : Pln) (d : List Int) (w : World) (e : Ending) (w' : World) : Prop := ∃ v, e = .returned (.tuple #[v, .bool (dwOk p d)]) ∧ Ofr w' w.heap.size (inD (sgR p d)) v ∧ Below w.heap.size w w'
set_option maxHeartbeats 1600000 in
theorem implSus_any (v vg : Value) (p : Pln) (d : List Int) (w : World) (h : PlnR w v p) (hv : Rd w vg d) (hfb : ∀ i : Nat, (lgA p i).fb.length ≤ 1100000) :
    Calls Tryz.prog 29 #[v, vg] w (SgP p d w) := by
  have HGS := Lib.hid (fun w' (hb : Below w.heap.size w w') => isDown_any v vg p d w' (h.behind hb) (hv.belowAll hb) hfb)
  have HHI := Lib.hid (fun (ho : dwOk p d = true) w' (hb : Below w.heap.size w w') => suspects_any v vg p d w' (h.behind hb) (hv.belowAll hb) ho hfb)
  obtain ⟨u1, u2, u3, rfl, r1, r2, r3, hsm⟩ := h
  have hnet : NetR w (.agg #[u1, u2]) p.n := ⟨u1, u2, rfl, r1, r2, hsm⟩
  obtain ⟨⟨a1, m1, c1, rfl⟩, a2, m2, c2, rfl⟩ := slice_of_net hnet
  obtain ⟨a3, m3, c3, rfl, -, -, -, -⟩ := lgt_opn r3
  obtain ⟨ag, cg, ng, -, rfl, -, -, -⟩ := hv.opn
  obtain ⟨bx, bc, blt, -⟩ := box_facts w #[.slice a1 m1 c1, .slice a2 m2 c2, .slice a3 m3 c3] 38
  have q0 := bc 0 _ rfl
  have q1 := bc 1 _ rfl
  have q2 := bc 2 _ rfl
  have HBX := Lib.hid bx
  have HRY := Lib.hid (show dwOk p d = true → sgR p d = sps p d from fun e => by unfold sgR; rw [if_pos e])
  have HRN := Lib.hid (show dwOk p d = false → sgR p d = [] from fun e => by unfold sgR; rw [e]; rfl)
  unfold SgP
  generalize sgR p d = R at *
  generalize sps p d = H at *
  clear hv r1 r2 r3 hsm hnet hfb bx bc
  go_enter Tryz.func29, Tryz.ntmps29
  go_wp2_with fail
  generalize w.alloc (.cells #[.slice a1 m1 c1, .slice a2 m2 c2, .slice a3 m3 c3] 38) = w1 at *
  have HV1 := Lib.hid (HGS.out w1 HBX.out)
  cases hok : dwOk p d
  · have HE := Lib.hid (HRN.out hok)
    rw [hok] at HV1
    have HOK := Lib.hid hok
    clear HGS HHI HRY HRN hok
    refine HV1.out.mono ?_
    rintro e w2 ⟨rfl, b2⟩
    have HB2 := Lib.hid (HBX.out.trans (b2.mono HBX.out.size))
    clear b2
    go_wp2
    go_ret2
    exact ⟨_, by rw [HOK.out]; rfl, by rw [HE.out]; exact Ofr.nil _ _ _, HB2.out⟩
  have HE := Lib.hid (HRY.out hok)
  have HH := Lib.hid (HHI.out hok)
  rw [hok] at HV1
  have HOK := Lib.hid hok
  clear HGS HHI HRY HRN hok
  refine HV1.out.mono ?_
  rintro e w2 ⟨rfl, b2⟩
  have e0 := (b2.cell (p := ⟨w.heap.size, 0, none⟩) blt).trans q0
  have e1 := (b2.cell (p := ⟨w.heap.size, 1, none⟩) blt).trans q1
  have e2 := (b2.cell (p := ⟨w.heap.size, 2, none⟩) blt).trans q2
  have HB2 := Lib.hid (HBX.out.trans (b2.mono HBX.out.size))
  clear b2 q0 q1 q2
  go_wp2_with fail
  refine (HH.out w2 HB2.out).mono ?_
  rintro e w3 ⟨v3, rfl, o3, b3⟩
  obtain ⟨a5, c5, n5, -, rfl, -, -, -⟩ := o3.rd.opn
  have HB3 := Lib.hid (HB2.out.trans (b3.mono HB2.out.size))
  have HO3 := Lib.hid (o3.mono HB2.out.size)
  clear b3 o3
  go_wp2
  go_ret2
  exact ⟨_, by rw [HOK.out]; rfl, by rw [HE.out]; exact HO3.out.ofr, HB3.out⟩
/-! ### IsExplanation -/
def ieOk (p : Pln) (d gs : List Int) : Bool := dwOk p d && gsetOk p gs
def ieR (p : Pln) (d gs : List Int) : Bool := ieOk p d gs && expB p d gs
def IeP (p : Pln) (d gs : List Int) (w : World) (e : Ending) (w' : World) : Prop := e = .returned (.tuple #[.bool (ieR p d gs), .bool (ieOk p d gs)]) ∧ Below w.heap.size w w'
theorem IeP.no {p : Pln} {d gs : List Int} {w w' : World} (h : ieOk p d gs = false) (hb : Below w.heap.size w w') : IeP p d gs w (.returned (.tuple #[.bool false, .bool false])) w' := by unfold IeP ieR; rw [h]; exact ⟨rfl, hb⟩
theorem IeP.yes {p : Pln} {d gs : List Int} {w w' : World} {b : Bool} (h : ieOk p d gs = true) (hb : Below w.heap.size w w') (hx : expB p d gs = b) : IeP p d gs w (.returned (.tuple #[.bool b, .bool true])) w' := by unfold IeP ieR; rw [h, hx]; exact ⟨by rw [Bool.true_and], hb⟩
set_option maxHeartbeats 1600000 in
theorem implIe_any (v vd vg : Value) (p : Pln) (d gs : List Int) (w : World) (h : PlnR w v p) (hvd : Rd w vd d) (hv : Rd w vg gs) (hfb : ∀ i : Nat, (lgA p i).fb.length ≤ 1100000) :
    Calls Tryz.prog 22 #[v, vd, vg] w (IeP p d gs w) := by
  have HDW := Lib.hid (fun w' (hb : Below w.heap.size w w') => isDown_any v vd p d w' (h.behind hb) (hvd.belowAll hb) hfb)
  have HGS := Lib.hid (fun w' (hb : Below w.heap.size w w') => isGroupSet_any v vg p gs w' (h.behind hb) (hv.belowAll hb) hfb)
  have HEX := Lib.hid (fun (ho : gsetOk p gs = true) w' (hb : Below w.heap.size w w') => explains_any v vd vg p d gs w' (h.behind hb) (hvd.belowAll hb) (hv.belowAll hb) (gsetOk_parts ho).1 hfb (fun i hi => setOk_bd (gsetOk_parts ho).2 hi) (by have := setOk_len (gsetOk_parts ho).2; have := (plnOk_sz (gsetOk_parts ho).1).2.2.2; omega))
  obtain ⟨u1, u2, u3, rfl, r1, r2, r3, hsm⟩ := h
  have hnet : NetR w (.agg #[u1, u2]) p.n := ⟨u1, u2, rfl, r1, r2, hsm⟩
  obtain ⟨⟨a1, m1, c1, rfl⟩, a2, m2, c2, rfl⟩ := slice_of_net hnet
  obtain ⟨a3, m3, c3, rfl, -, -, -, -⟩ := lgt_opn r3
  obtain ⟨ag, cg, ng, -, rfl, -, -, -⟩ := hv.opn
  obtain ⟨ad, cd, nd, -, rfl, -, -, -⟩ := hvd.opn
  obtain ⟨bx, bc, blt, -⟩ := box_facts w #[.slice a1 m1 c1, .slice a2 m2 c2, .slice a3 m3 c3] 38
  have q0 := bc 0 _ rfl
  have q1 := bc 1 _ rfl
  have q2 := bc 2 _ rfl
  have HBX := Lib.hid bx
  have HNO := Lib.hid (fun (w' : World) (hb : Below w.heap.size w w') (h : ieOk p d gs = false) => IeP.no h hb)
  have HYE := Lib.hid (fun (w' : World) (hb : Below w.heap.size w w') (h : ieOk p d gs = true) => IeP.yes h hb rfl)
  have HOK := Lib.hid (show ieOk p d gs = (dwOk p d && gsetOk p gs) from rfl)
  generalize hK : IeP p d gs w = K at *
  generalize ieOk p d gs = ok at *
  generalize expB p d gs = R at *
  generalize dwOk p d = t1 at *
  clear hv hvd r1 r2 r3 hsm hnet hfb bx bc hK
  refine Calls.mono (show Calls _ _ _ _ (fun e w' => K e w' ∧ True) from ?_) (fun _ _ h => h.1)
  go_enter Tryz.func22, Tryz.ntmps22
  go_wp2_with fail
  generalize w.alloc (.cells #[.slice a1 m1 c1, .slice a2 m2 c2, .slice a3 m3 c3] 38) = w1 at *
  refine (HDW.out w1 HBX.out).mono ?_
  rintro e w2 ⟨rfl, b2⟩
  have e0 := (b2.cell (p := ⟨w.heap.size, 0, none⟩) blt).trans q0
  have e1 := (b2.cell (p := ⟨w.heap.size, 1, none⟩) blt).trans q1
  have e2 := (b2.cell (p := ⟨w.heap.size, 2, none⟩) blt).trans q2
  have HB2 := Lib.hid (HBX.out.trans (b2.mono HBX.out.size))
  have HW2 := Lib.hid (Nat.lt_of_lt_of_le blt b2.size)
  clear b2 q0 q1 q2
  cases t1
  · have HF := Lib.hid (HNO.out w2 HB2.out HOK.out)
    go_wp2
    go_ret2
    exact ⟨HF.out, trivial⟩
  have HG2 := Lib.hid (HGS.out w2 HB2.out)
  cases hgo : gsetOk p gs
  · have HF := Lib.hid (fun w3 hb => HNO.out w3 hb (by rw [HOK.out, hgo]; rfl))
    rw [hgo] at HG2
    clear hgo HGS HEX
    go_wp2_with fail
    refine HG2.out.mono ?_
    rintro e w3 ⟨rfl, b3⟩
    have HB3 := Lib.hid (HB2.out.trans (b3.mono HB2.out.size))
    clear b3
    go_wp2
    go_ret2
    exact ⟨HF.out _ HB3.out, trivial⟩
  have HF := Lib.hid (fun w3 hb => HYE.out w3 hb (by rw [HOK.out, hgo]; rfl))
  have HX := Lib.hid (HEX.out hgo)
  rw [hgo] at HG2
  clear hgo HGS HEX
  go_wp2_with fail
  refine HG2.out.mono ?_
  rintro e w3 ⟨rfl, b3⟩
  have f0 := (b3.cell (p := ⟨w.heap.size, 0, none⟩) HW2.out).trans e0
  have f1 := (b3.cell (p := ⟨w.heap.size, 1, none⟩) HW2.out).trans e1
  have f2 := (b3.cell (p := ⟨w.heap.size, 2, none⟩) HW2.out).trans e2
  have HB3 := Lib.hid (HB2.out.trans (b3.mono HB2.out.size))
  clear b3 e0 e1 e2
  go_wp2_with fail
  refine (HX.out w3 HB3.out).mono ?_
  rintro e w4 ⟨rfl, b4⟩
  have HB4 := Lib.hid (HB3.out.trans (b4.mono HB3.out.size))
  clear b4
  go_wp2
  go_ret2
  exact ⟨HF.out _ HB4.out, trivial⟩
end Go.Proofs.YtmkkdenhjfjmgaaGreat
namespace Go.Proofs.YtmkkdenhjfjmgaaGreat
open Go.RowKit Go.Sort
set_option maxRecDepth 100000

set_option maxHeartbeats 3200000 in
theorem l25Suspects_any (vh : Value) (p : Pln) (d : List Int) (w : World) (hh : Rd w vh (nats (hmks p))) (hd : dwOk p d = true) :
    Calls Tryz.prog 73 #[vh, .int .i64 (dmk p d)] w fun e w' => ∃ v', e = .returned v' ∧ Own w' w.heap.size v' (sps p d) ∧ Below w.heap.size w w' := by
  obtain ⟨ah, ch, nh, HNH, rfl, -, hnh, hch⟩ := hh.opn
  have HA := Lib.hid hch
  have HY := Lib.hid (fun k h1 => @susTo_yes p d k h1)
  have HZ := Lib.hid (fun k h1 => @susTo_no p d k h1)
  have HL := Lib.hid (susTo_len p d)
  have HSB := Lib.hid (fun k : Nat => show susB p d (k : Int) = (decide (¬ (hmks p)[k]?.getD 0 = 0) && decide (anot ((hmks p)[k]?.getD 0) (dmk p d) = 0)) from @susB_spec p d hd (k : Int))
  have HNA := Lib.hid (nats_at (hmks p))
  have hgl : (hmks p).length = nh := by have := HNH.out; rwa [nats_len] at this
  have h23 : nh ≤ 23 := by rw [← hgl]; unfold hmks; rw [List.length_map]; exact (plnOk_sz (dwOk_parts hd).1).2.2.2
  have HT := Lib.hid (show susTo p d nh = sps p d by unfold sps; rw [← hgl]; unfold hmks; rw [List.length_map])
  have HM24 := Lib.hid (fun i => show (hmks p)[i]?.getD 0 < 16777216 from by
    by_cases h : i < (hmks p).length
    · rw [List.getElem?_eq_getElem h]; exact le12 (hmks_mem p _ (List.getElem_mem h)) (plnOk_sz (dwOk_parts hd).1).2.1
    · rw [List.getElem?_eq_none (by omega)]; show (0 : Nat) < _; omega)
  have HON := Lib.hid (own_none w 3)
  have HB0 := Lib.hid ((Below.refl w.heap.size w).alloc (Nat.le_refl _) (.cells #[] 3))
  generalize dmk p d = M at *
  clear hch hh hd hgl
  go_enter Tryz.func73, Tryz.ntmps73
  go_wp2
  generalize w.alloc (.cells #[] 3) = w1 at *
  go_loopw [5, 6] (fun s5 i wr => ∃ k : Nat, k ≤ nh ∧ i = .int .i64 k ∧ Hid (Own wr w.heap.size s5 (susTo p d k)) ∧ Hid (Below w.heap.size w wr)) (fun _ i _ => nh - (intOf i).toNat)
  case atStart => exact ⟨0, Nat.zero_le _, rfl, HON.out, HB0.out⟩
  case round =>
    obtain ⟨k, hk, rfl, HO, HB⟩ := hrel
    obtain ⟨a6, c6, m6, HN6, rfl, _, _, -⟩ := HO.out.rd.opn
    by_cases hlt : k < nh
    · have hltI : (k : Int) < (nh : Int) := by omega
      obtain ⟨b, off, rfl, hbs, hcs⟩ := HA.out (by omega)
      have y0 := (HB.out.cell (p := ⟨b, off + k, none⟩) hbs).trans (hcs k hlt)
      rw [HNA.out k] at y0
      have HSK := Lib.hid (HSB.out k)
      have HYK := Lib.hid (HY.out k)
      have HZK := Lib.hid (HZ.out k)
      have HMK := Lib.hid (HM24.out k)
      have HLK := Lib.hid (show (susTo p d k).length ≤ 4000000 by have := HL.out k; omega)
      have HLH := Lib.hid HB.out.size
      clear hcs
      generalize (hmks p)[k]?.getD 0 = m at *
      generalize hsb : susB p d k = sb at *
      by_cases h0 : m = 0
      · have HE := Lib.hid (HZK.out (by rw [HSK.out, h0]; rfl))
        have hz : ((m : Int) != 0) = false := by simp [h0]
        clear h0 hsb
        go_wp2
        go_roundw
        case rel => exact ⟨k + 1, hlt, by go_num, by rw [HE.out]; exact HO.out, HB.out⟩
        case measure => simp [intOf]; omega
      · have hz : ((m : Int) != 0) = true := by simp; omega
        have hba := bits_anot (b := M) HMK.out
        by_cases hn : anot m M = 0
        · have HE := Lib.hid (HYK.out (by rw [HSK.out, decide_eq_true h0, decide_eq_true hn]; rfl))
          rw [hn] at hba
          have hz0 : m ≠ 0 := h0
          clear h0 hsb hn
          go_wp2_with (at_builtin; go_loud (refine wpList_pushI rfl (.tmp 28) (.tmp 30) 29 rfl Tryz.underlying29 Tryz.infoI w.heap.size _ _ rfl HO.out rfl HLK.out HLH.out ?_); intro v9 w9 o9 g9 l9; have HO9 := Lib.hid o9; have HB9 := Lib.hid (HB.out.grown g9 HB.out.size (fun q hq => (HO.out.lt q hq).1)); clear o9 g9 l9)
          go_roundw
          case rel => exact ⟨k + 1, hlt, by go_num, by rw [HE.out]; exact HO9.out, HB9.out⟩
          case measure => simp [intOf]; omega
        · have HE := Lib.hid (HZK.out (by rw [HSK.out, decide_eq_false hn, Bool.and_false]))
          have hna : (((anot m M : Nat) : Int) == 0) = false := by rw [beq_eq_false_iff_ne]; omega
          generalize anot m M = q at *
          clear h0 hsb hn
          go_wp2
          go_roundw
          case rel => exact ⟨k + 1, hlt, by go_num, by rw [HE.out]; exact HO.out, HB.out⟩
          case measure => simp [intOf]; omega
    · obtain rfl : nh = k := by omega
      have HE := Lib.hid HT.out
      generalize susTo p d nh = out at *
      go_wp2
      go_ret
      exact ⟨_, rfl, by rw [← HE.out]; exact HO.out, HB.out⟩
set_option maxHeartbeats 1600000 in
theorem specSus_any (v vg : Value) (p : Pln) (d : List Int) (w : World) (h : PlnR w v p) (hv : Rd w vg d) (hfb : ∀ i : Nat, (lgA p i).fb.length ≤ 1100000) :
    Calls Tryz.prog 28 #[v, vg] w (SgP p d w) := by
  have HDW := Lib.hid (fun w' (hb : Below w.heap.size w w') => l25Down_any v vg p d w' (h.behind hb) (hv.belowAll hb) hfb)
  have HHI := Lib.hid (fun (ho : dwOk p d = true) w' (hb : Below w.heap.size w w') => l25Hits_any v p w' (h.behind hb) (plnOk_sz (dwOk_parts ho).1).2.2.1 (plnOk_sz (dwOk_parts ho).1).2.1)
  have HSU := Lib.hid (fun (ho : dwOk p d = true) w' vh (hh : Rd w' vh (nats (hmks p))) => l25Suspects_any vh p d w' hh ho)
  obtain ⟨u1, u2, u3, rfl, r1, r2, r3, hsm⟩ := h
  have hnet : NetR w (.agg #[u1, u2]) p.n := ⟨u1, u2, rfl, r1, r2, hsm⟩
  obtain ⟨⟨a1, m1, c1, rfl⟩, a2, m2, c2, rfl⟩ := slice_of_net hnet
  obtain ⟨a3, m3, c3, rfl, -, -, -, -⟩ := lgt_opn r3
  obtain ⟨ag, cg, ng, -, rfl, -, -, -⟩ := hv.opn
  obtain ⟨bx, bc, blt, -⟩ := box_facts w #[.slice a1 m1 c1, .slice a2 m2 c2, .slice a3 m3 c3] 38
  have q0 := bc 0 _ rfl
  have q1 := bc 1 _ rfl
  have q2 := bc 2 _ rfl
  have HBX := Lib.hid bx
  have HRY := Lib.hid (show dwOk p d = true → sgR p d = sps p d from fun e => by unfold sgR; rw [if_pos e])
  have HRN := Lib.hid (show dwOk p d = false → sgR p d = [] from fun e => by unfold sgR; rw [e]; rfl)
  have HDR := Lib.hid (show dwOk p d = true → dwR p d = dmk p d from fun e => by unfold dwR; rw [if_pos e])
  unfold SgP
  unfold DwP at HDW
  generalize sgR p d = R at *
  generalize sps p d = H at *
  generalize dwR p d = M0 at *
  clear hv r1 r2 r3 hsm hnet hfb bx bc
  go_enter Tryz.func28, Tryz.ntmps28
  go_wp2_with fail
  generalize w.alloc (.cells #[.slice a1 m1 c1, .slice a2 m2 c2, .slice a3 m3 c3] 38) = w1 at *
  have HV1 := Lib.hid (HDW.out w1 HBX.out)
  cases hok : dwOk p d
  · have HE := Lib.hid (HRN.out hok)
    rw [hok] at HV1
    have HOK := Lib.hid hok
    clear HDW HHI HSU HRY HRN HDR hok
    refine HV1.out.mono ?_
    rintro e w2 ⟨rfl, b2⟩
    have HB2 := Lib.hid (HBX.out.trans (b2.mono HBX.out.size))
    have HON := Lib.hid (own_none w2 3)
    have HB3 := Lib.hid (HB2.out.alloc HB2.out.size (.cells #[] 3))
    have HSZ := Lib.hid HB2.out.size
    clear b2
    go_wp2
    go_ret2
    exact ⟨_, by rw [HOK.out]; rfl, by rw [HE.out]; exact (HON.out.mono HSZ.out).ofr, HB3.out⟩
  have HE := Lib.hid (HRY.out hok)
  have HH := Lib.hid (HHI.out hok)
  have HS := Lib.hid (HSU.out hok)
  have HMM := HDR.out hok
  rw [hok, HMM] at HV1
  have HOK := Lib.hid hok
  clear HDW HHI HSU HRY HRN HDR hok HMM
  generalize dmk p d = M at *
  refine HV1.out.mono ?_
  rintro e w2 ⟨rfl, b2⟩
  have e0 := (b2.cell (p := ⟨w.heap.size, 0, none⟩) blt).trans q0
  have e1 := (b2.cell (p := ⟨w.heap.size, 1, none⟩) blt).trans q1
  have e2 := (b2.cell (p := ⟨w.heap.size, 2, none⟩) blt).trans q2
  have HB2 := Lib.hid (HBX.out.trans (b2.mono HBX.out.size))
  clear b2 q0 q1 q2
  go_wp2_with fail
  refine (HH.out w2 HB2.out).mono ?_
  rintro e w3 ⟨v3, rfl, o3, b3⟩
  have HB3 := Lib.hid (HB2.out.trans (b3.mono HB2.out.size))
  have HS3 := Lib.hid (HS.out w3 v3 o3.rd)
  obtain ⟨a5, c5, n5, -, rfl, -, -, -⟩ := o3.rd.opn
  clear b3 o3
  go_wp2_with fail
  refine HS3.out.mono ?_
  rintro e w4 ⟨v4, rfl, o4, b4⟩
  obtain ⟨a7, c7, n7, -, rfl, -, -, -⟩ := o4.rd.opn
  have HB4 := Lib.hid (HB3.out.trans (b4.mono HB3.out.size))
  have HO4 := Lib.hid (o4.mono HB3.out.size)
  clear b4 o4
  go_wp2
  go_ret2
  exact ⟨_, by rw [HOK.out]; rfl, by rw [HE.out]; exact HO4.out.ofr, HB4.out⟩
theorem anyE_no {p : Pln} {d gs : List Int} {k : Nat} (hk : k < gs.length) (h : (hmks p)[(gs[k]?.getD 0).toNat]?.getD 0 = 0) : expB p d gs = false := by
  have : (gs.any fun g => (hts p [g]).isEmpty) = true := List.any_eq_true.2 ⟨gs[k], List.getElem_mem hk, by rw [exp_one]; rw [List.getElem?_eq_getElem hk] at h; exact decide_eq_true h⟩
  unfold expB; rw [this]; simp
theorem anyE_all {p : Pln} {d gs : List Int} (hd : dwOk p d = true) (h : ∀ k, k < gs.length → ¬ (hmks p)[(gs[k]?.getD 0).toNat]?.getD 0 = 0) : expB p d gs = decide (uni (hmks p) gs = dmk p d) := by
  have : (gs.any fun g => (hts p [g]).isEmpty) = false := by
    rw [List.any_eq_false]
    intro g hg
    obtain ⟨k, hk, rfl⟩ := List.mem_iff_getElem.1 hg
    have := h k hk
    rw [List.getElem?_eq_getElem hk] at this
    rw [exp_one]; simpa using this
  unfold expB; rw [this, exp_uni hd]; simp
set_option maxHeartbeats 3200000 in
theorem specIe_any (v vd vg : Value) (p : Pln) (d gs : List Int) (w : World) (h : PlnR w v p) (hvd : Rd w vd d) (hv : Rd w vg gs) (hfb : ∀ i : Nat, (lgA p i).fb.length ≤ 1100000) :
    Calls Tryz.prog 21 #[v, vd, vg] w (IeP p d gs w) := by
  have HDW := Lib.hid (fun w' (hb : Below w.heap.size w w') => l25Down_any v vd p d w' (h.behind hb) (hvd.belowAll hb) hfb)
  have HGS := Lib.hid (fun w' (hb : Below w.heap.size w w') => l25Groups_any v vg p gs w' (h.behind hb) (hv.belowAll hb) hfb)
  have HHI := Lib.hid (fun (ho : gsetOk p gs = true) w' (hb : Below w.heap.size w w') => l25Hits_any v p w' (h.behind hb) (plnOk_sz (gsetOk_parts ho).1).2.2.1 (plnOk_sz (gsetOk_parts ho).1).2.1)
  have HUN := Lib.hid (fun (ho : gsetOk p gs = true) w' (hb : Below w.heap.size w w') va (ha : Rd w' va (nats (hmks p))) => l25Union_any va vg (hmks p) gs w' ha (hv.belowAll hb) (fun m hm => Nat.lt_of_lt_of_le (hmks_mem p m hm) (Nat.pow_le_pow_right (by omega) (plnOk_sz (gsetOk_parts ho).1).2.1)) (fun i hi => by unfold hmks; rw [List.length_map]; exact setOk_bd (gsetOk_parts ho).2 hi))
  have HGB := Lib.hid (fun (ho : gsetOk p gs = true) (i : Nat) (hi : i < gs.length) => show (0 : Int) ≤ gs[i]?.getD 0 ∧ gs[i]?.getD 0 < ((nats (hmks p)).length : Int) from by rw [nats_len]; unfold hmks; rw [List.length_map]; exact setOk_bd (gsetOk_parts ho).2 hi)
  obtain ⟨u1, u2, u3, rfl, r1, r2, r3, hsm⟩ := h
  have hnet : NetR w (.agg #[u1, u2]) p.n := ⟨u1, u2, rfl, r1, r2, hsm⟩
  obtain ⟨⟨a1, m1, c1, rfl⟩, a2, m2, c2, rfl⟩ := slice_of_net hnet
  obtain ⟨a3, m3, c3, rfl, -, -, -, -⟩ := lgt_opn r3
  have HVG := Lib.hid (fun wx (hb : Below w.heap.size w wx) => hv.belowAll hb)
  obtain ⟨ag, cg, ng, HNG, rfl, -, hng, hcg⟩ := hv.opn
  have HCG := Lib.hid hcg
  obtain ⟨ad, cd, nd, -, rfl, -, -, -⟩ := hvd.opn
  obtain ⟨bx, bc, blt, -⟩ := box_facts w #[.slice a1 m1 c1, .slice a2 m2 c2, .slice a3 m3 c3] 38
  have q0 := bc 0 _ rfl
  have q1 := bc 1 _ rfl
  have q2 := bc 2 _ rfl
  have HBX := Lib.hid bx
  have HNO := Lib.hid (fun (w' : World) (hb : Below w.heap.size w w') (h : ieOk p d gs = false) => IeP.no h hb)
  have HYE := Lib.hid (fun (w' : World) (b : Bool) (hb : Below w.heap.size w w') (h : ieOk p d gs = true) (hx : expB p d gs = b) => IeP.yes h hb hx)
  have HOK := Lib.hid (show ieOk p d gs = (dwOk p d && gsetOk p gs) from rfl)
  have HAN := Lib.hid (fun k hk h => @anyE_no p d gs k hk h)
  have HAY := Lib.hid (fun ho h => @anyE_all p d gs ho h)
  have HDR := Lib.hid (show dwOk p d = true → dwR p d = dmk p d from fun e => by unfold dwR; rw [if_pos e])
  have HNA := Lib.hid (nats_at (hmks p))
  rw [HNG.out] at HAN HAY HGB
  unfold DwP at HDW
  generalize hK : IeP p d gs w = K at *
  generalize ieOk p d gs = ok at *
  generalize expB p d gs = R at *
  generalize dwR p d = M0 at *
  clear hv hvd hcg r1 r2 r3 hsm hnet hfb bx bc hK
  refine Calls.mono (show Calls _ _ _ _ (fun e w' => K e w' ∧ True) from ?_) (fun _ _ h => h.1)
  go_enter Tryz.func21, Tryz.ntmps21
  go_wp2_with fail
  generalize w.alloc (.cells #[.slice a1 m1 c1, .slice a2 m2 c2, .slice a3 m3 c3] 38) = w1 at *
  have HV1 := Lib.hid (HDW.out w1 HBX.out)
  cases hok : dwOk p d
  · have HF := Lib.hid (fun w' hb => HNO.out w' hb (by rw [HOK.out, hok]; rfl))
    rw [hok] at HV1
    clear hok HDW HDR
    refine HV1.out.mono ?_
    rintro e w2 ⟨rfl, b2⟩
    have HB2 := Lib.hid (HBX.out.trans (b2.mono HBX.out.size))
    clear b2
    go_wp2
    go_ret2
    exact ⟨HF.out _ HB2.out, trivial⟩
  have HMM := HDR.out hok
  rw [hok, HMM] at HV1
  have HAY1 := Lib.hid (HAY.out hok)
  have HD := Lib.hid hok
  clear HDW HDR HMM HAY
  generalize dmk p d = M at *
  refine HV1.out.mono ?_
  rintro e w2 ⟨rfl, b2⟩
  have e0 := (b2.cell (p := ⟨w.heap.size, 0, none⟩) blt).trans q0
  have e1 := (b2.cell (p := ⟨w.heap.size, 1, none⟩) blt).trans q1
  have e2 := (b2.cell (p := ⟨w.heap.size, 2, none⟩) blt).trans q2
  have HB2 := Lib.hid (HBX.out.trans (b2.mono HBX.out.size))
  have HLT2 := Lib.hid (Nat.lt_of_lt_of_le blt b2.size)
  have HG2 := Lib.hid (HGS.out w2 HB2.out)
  clear b2 q0 q1 q2 hok
  cases hgo : gsetOk p gs
  · have HF := Lib.hid (fun w' hb => HNO.out w' hb (by rw [HOK.out, hgo, Bool.and_false]))
    rw [hgo] at HG2
    clear hgo HGS HHI HUN HGB
    go_wp2_with fail
    refine HG2.out.mono ?_
    rintro e w3 ⟨rfl, b3⟩
    have HB3 := Lib.hid (HB2.out.trans (b3.mono HB2.out.size))
    clear b3
    go_wp2
    go_ret2
    exact ⟨HF.out _ HB3.out, trivial⟩
  have HF := Lib.hid (fun w' b hb hx => HYE.out w' b hb (by rw [HOK.out, HD.out, hgo]; rfl) hx)
  have HH := Lib.hid (HHI.out hgo)
  have HU := Lib.hid (HUN.out hgo)
  have HGB1 := Lib.hid (HGB.out hgo)
  rw [hgo] at HG2
  clear hgo HGS HHI HUN HGB HNO HYE
  go_wp2_with fail
  refine HG2.out.mono ?_
  rintro e w3 ⟨rfl, b3⟩
  have f0 := (b3.cell (p := ⟨w.heap.size, 0, none⟩) HLT2.out).trans e0
  have f1 := (b3.cell (p := ⟨w.heap.size, 1, none⟩) HLT2.out).trans e1
  have f2 := (b3.cell (p := ⟨w.heap.size, 2, none⟩) HLT2.out).trans e2
  have HB3 := Lib.hid (HB2.out.trans (b3.mono HB2.out.size))
  clear b3 e0 e1 e2
  go_wp2_with fail
  refine (HH.out w3 HB3.out).mono ?_
  rintro e w4 ⟨v4, rfl, o4, b4⟩
  have HB4 := Lib.hid (HB3.out.trans (b4.mono HB3.out.size))
  have HU4 := Lib.hid (HU.out w4 HB4.out v4 o4.rd)
  obtain ⟨a5, c5, n5, HN5, rfl, -, hn5, hc5⟩ := o4.rd.opn
  have HC5 := Lib.hid hc5
  rw [HN5.out] at HGB1
  clear b4 o4 hc5 HH HU
  go_wp2
  go_loopw [11] (fun i wr => ∃ k : Nat, k ≤ ng ∧ i = .int .i64 k ∧ Hid (∀ j, j < k → ¬ (hmks p)[(gs[j]?.getD 0).toNat]?.getD 0 = 0) ∧ wr = w4) (fun i _ => ng - (intOf i).toNat)
  case atStart => exact ⟨0, Nat.zero_le _, rfl, (fun j hj => absurd hj (Nat.not_lt_zero j)), rfl⟩
  case round =>
    obtain ⟨k, hk, rfl, HK, rfl⟩ := hrel
    by_cases hlt : k < ng
    · have hltI : (k : Int) < (ng : Int) := by omega
      obtain ⟨b, off, rfl, hbs, hcs⟩ := HCG.out (by omega)
      have y0 := (HB4.out.cell (p := ⟨b, off + k, none⟩) hbs).trans (hcs k hlt)
      have HANK := Lib.hid (HAN.out k hlt)
      have HST := Lib.hid (fun h => upto_not (P := fun j => ¬ (hmks p)[(gs[j]?.getD 0).toNat]?.getD 0 = 0) HK.out (k := k) h)
      obtain ⟨hg0, hg1⟩ := HGB1.out k hlt
      clear hcs
      generalize gs[k]?.getD 0 = g at *
      obtain ⟨gn, rfl⟩ : ∃ gn : Nat, g = (gn : Int) := ⟨g.toNat, by omega⟩
      rw [Int.toNat_natCast] at HANK
      have hgn : gn < n5 := by omega
      obtain ⟨b5, off5, rfl, hbs5, hcs5⟩ := HC5.out (by omega)
      have y1 := hcs5 gn hgn
      rw [HNA.out gn] at y1
      have HST2 := Lib.hid (show ¬ (hmks p)[gn]?.getD 0 = 0 → _ from HST.out)
      clear hcs5 HST
      generalize (hmks p)[gn]?.getD 0 = m at *
      by_cases h0 : m = 0
      · have HR := Lib.hid (HF.out _ _ HB4.out (HANK.out h0))
        have hz : ((m : Int) == 0) = true := by simp [h0]
        clear h0
        go_wp2
        go_ret2
        exact ⟨HR.out, trivial⟩
      · have HS2 := Lib.hid (HST2.out h0)
        have hz : ((m : Int) == 0) = false := by rw [beq_eq_false_iff_ne]; omega
        clear h0
        go_wp2
        go_roundw
        case rel => exact ⟨k + 1, hlt, by go_num, HS2.out, trivial⟩
        case measure => simp [intOf]; omega
    · obtain rfl : ng = k := by omega
      have HRR := Lib.hid (HAY1.out HK.out)
      generalize uni (hmks p) gs = U at *
      go_wp2_with fail
      refine HU4.out.mono ?_
      rintro e w5 ⟨rfl, rfl⟩
      have HR := Lib.hid (HF.out _ ((U : Int) == (M : Int)) HB4.out (by rw [HRR.out, Bool.eq_iff_iff]; simp; omega))
      go_wp2
      go_ret2
      exact ⟨HR.out, trivial⟩
end Go.Proofs.YtmkkdenhjfjmgaaGreat
