/- Joined: XSus XSpd XSui XSuj XSpe. -/
import Derived.Test.YtmkkdenhjfjmgaaGreatBf08
import Derived.Test.YtmkkdenhjfjmgaaGreatBf11
import Derived.Test.YtmkkdenhjfjmgaaGreatBf10
import Derived.Lib.QuietBelow
namespace Go.Proofs.YtmkkdenhjfjmgaaGreat
open Go.RowKit Go.Sort
set_option maxRecDepth 100000

set_option maxHeartbeats 1600000 in
theorem lightAt_any (v : Value) (p : Pln) (id : Int) (w : World) (h : PlnR w v p) :
    Calls Tryz.prog 138 #[v, .int .i64 id] w fun e w' => e = .returned (.int .i64 (lix p id)) ∧ Below w.heap.size w w' := by
  obtain ⟨u1, u2, u3, rfl, r1, r2, r3, hsm⟩ := h
  have hnet : NetR w (.agg #[u1, u2]) p.n := ⟨u1, u2, rfl, r1, r2, hsm⟩
  obtain ⟨⟨a1, m1, c1, rfl⟩, a2, m2, c2, rfl⟩ := slice_of_net hnet
  have HR3 := Lib.hid r3
  obtain ⟨a3, m3, c3, rfl, -, -, -, -⟩ := lgt_opn r3
  obtain ⟨bx, bc, blt, -⟩ := box_facts w #[.slice a1 m1 c1, .slice a2 m2 c2, .slice a3 m3 c3] 38
  have q2 := bc 2 _ rfl
  have hs1 : (w.alloc (.cells #[.slice a1 m1 c1, .slice a2 m2 c2, .slice a3 m3 c3] 38)).heap.size = w.heap.size + 1 := by simp
  obtain ⟨by1, bd, bl2, -⟩ := box_facts (w.alloc (.cells #[.slice a1 m1 c1, .slice a2 m2 c2, .slice a3 m3 c3] 38)) #[.int .i64 id] 3
  have d0 := bd 0 _ rfl
  have e2 := (by1.cell (p := ⟨w.heap.size, 2, none⟩) blt).trans q2
  rw [hs1] at d0 bl2
  have HB0 := Lib.hid (bx.trans (by1.mono bx.size))
  have HFN := Lib.hid (show IsFn 182 from isFn_of rfl rfl rfl)
  have HL1 := Lib.hid (fun z u w' hu h0 => lightAt1_any z u id (w.heap.size + 1) w' hu h0)
  have HIX := Lib.hid (fun (w2 : World) (hb : Below w.heap.size w w2) hp => indexFuncLgt_any (.slice a3 m3 c3) p.ls 182 (w.heap.size + 1) (fun x => x.id == id) w2 (HR3.out.behind hb) HFN.out hp)
  unfold lix
  generalize idxG p.ls (fun x => x.id == id) = R at *
  clear bx bc by1 bd r1 r2 r3 hsm hnet hs1 q2 HR3
  go_enter Tryz.func138, Tryz.ntmps138
  go_wp2_with fail
  generalize (w.alloc (.cells #[.slice a1 m1 c1, .slice a2 m2 c2, .slice a3 m3 c3] 38)).alloc (.cells #[.int .i64 id] 3) = w2 at *
  refine (HIX.out w2 HB0.out (fun i w' hi hb z u hz hu => HL1.out z u w' hu ((hb.cell bl2).trans d0))).mono ?_
  rintro e w3 ⟨rfl, b3⟩
  have HB3 := Lib.hid (HB0.out.trans (b3.mono HB0.out.size))
  clear b3
  go_wp2
  go_ret
  exact ⟨rfl, HB3.out⟩
/-- The plan's cells in a box. -/
def PlB (w : World) (b : Nat) (p : Pln) : Prop := ∃ v1 v2 v3, PlnR w (.agg #[v1, v2, v3]) p ∧ (w.cell? ⟨b, 0, none⟩ = some v1 ∧ w.cell? ⟨b, 1, none⟩ = some v2 ∧ w.cell? ⟨b, 2, none⟩ = some v3)
theorem PlB.behind {w w' : World} {b : Nat} {p : Pln} (h : PlB w b p) (hb : Below w.heap.size w w') : PlB w' b p := by
  obtain ⟨v1, v2, v3, h1, h2, h3, h4⟩ := h
  exact ⟨v1, v2, v3, h1.behind hb, (hb.cell (World.block_lt_of_cell? _ _ h2)).trans h2, (hb.cell (World.block_lt_of_cell? _ _ h3)).trans h3, (hb.cell (World.block_lt_of_cell? _ _ h4)).trans h4⟩
theorem PlB.slices {w : World} {v1 v2 v3 : Value} {p : Pln} (h : PlnR w (.agg #[v1, v2, v3]) p) : ∃ a1 m1 c1 a2 m2 c2 a3 m3 c3, v1 = .slice a1 m1 c1 ∧ v2 = .slice a2 m2 c2 ∧ v3 = .slice a3 m3 c3 := by
  have hn := h.net
  obtain ⟨u1, u2, u3, e, -, -, r3, -⟩ := h
  obtain ⟨⟨a1, m1, c1, e1⟩, a2, m2, c2, e2⟩ := slice_of_net hn
  simp only [Value.agg.injEq, Array.mk.injEq, List.cons.injEq, and_true] at e
  obtain ⟨-, -, rfl⟩ := e
  obtain ⟨a3, m3, c3, e3, -⟩ := lgt_opn r3
  exact ⟨a1, m1, c1, a2, m2, c2, a3, m3, c3, e1, e2, e3⟩
set_option maxHeartbeats 1600000 in
theorem isLightSet1_any (b : Nat) (p : Pln) (id : Int) (w : World) (h : PlB w b p) :
    Calls Tryz.prog 137 #[.int .i64 id, ptr b] w fun e w' => e = .returned (.bool (noL p id)) ∧ Below w.heap.size w w' := by
  obtain ⟨v1, v2, v3, h1, h2, h3, h4⟩ := h
  have HL := Lib.hid (lightAt_any _ p id w h1)
  obtain ⟨a1, m1, c1, a2, m2, c2, a3, m3, c3, rfl, rfl, rfl⟩ := PlB.slices h1
  have HBD := lix_bd p id
  unfold noL
  generalize lix p id = R at *
  clear h1
  go_enter Tryz.func137, Tryz.ntmps137
  go_wp2_with fail
  refine HL.out.mono ?_
  rintro e w2 ⟨rfl, b2⟩
  have HB2 := Lib.hid b2
  clear b2
  go_wp2
  go_ret
  exact ⟨rfl, HB2.out⟩
set_option maxHeartbeats 1600000 in
theorem isLightSet_any (v vg : Value) (p : Pln) (d : List Int) (w : World) (h : PlnR w v p) (hv : Rd w vg d) :
    Calls Tryz.prog 89 #[v, vg] w fun e w' => e = .returned (.bool (setOk d 1000 && !(d.any (noL p)))) ∧ Below w.heap.size w w' := by
  have HIS := Lib.hid (fun w' (hb : Below w.heap.size w w') => show Calls Tryz.prog 109 #[vg, .int .i64 1000] w' (fun e w2 => e = .returned (.bool (setOk d 1000)) ∧ Below w'.heap.size w' w2) from isSet_any vg d 1000 w' (hv.belowAll hb) (by omega))
  have HPB := Lib.hid (fun w' (hb : Below w.heap.size w w') => h.behind hb)
  have HRV := Lib.hid (fun w' (hb : Below w.heap.size w w') => hv.belowAll hb)
  obtain ⟨u1, u2, u3, rfl, r1, r2, r3, hsm⟩ := h
  have hnet : NetR w (.agg #[u1, u2]) p.n := ⟨u1, u2, rfl, r1, r2, hsm⟩
  obtain ⟨⟨a1, m1, c1, rfl⟩, a2, m2, c2, rfl⟩ := slice_of_net hnet
  obtain ⟨a3, m3, c3, rfl, -, -, -, -⟩ := lgt_opn r3
  obtain ⟨ag, cg, ng, -, rfl, -, -, -⟩ := hv.opn
  obtain ⟨bx, bc, blt, -⟩ := box_facts w #[.slice a1 m1 c1, .slice a2 m2 c2, .slice a3 m3 c3] 38
  have HPB1 := Lib.hid (show PlB (w.alloc (.cells #[.slice a1 m1 c1, .slice a2 m2 c2, .slice a3 m3 c3] 38)) w.heap.size p from ⟨_, _, _, HPB.out _ bx, bc 0 _ rfl, bc 1 _ rfl, bc 2 _ rfl⟩)
  have HBX := Lib.hid bx
  have HFN := Lib.hid (show IsFn 137 from isFn_of rfl rfl rfl)
  have HS1 := Lib.hid (fun id w' h => isLightSet1_any w.heap.size p id w' h)
  have HCF := Lib.hid (fun (w2 : World) (hb : Below w.heap.size w w2) hp => containsFuncI_any (.slice ag ng cg) d 137 w.heap.size (noL p) w2 (HRV.out w2 hb) HFN.out hp)
  generalize setOk d 1000 = q at *
  clear bx bc r1 r2 r3 hsm hnet hv HPB HRV
  generalize d.any (noL p) = r at *
  go_enter Tryz.func89, Tryz.ntmps89
  go_wp2_with fail
  generalize w.alloc (.cells #[.slice a1 m1 c1, .slice a2 m2 c2, .slice a3 m3 c3] 38) = w1 at *
  refine (HIS.out w1 HBX.out).mono ?_
  rintro e w2 ⟨rfl, b2⟩
  have HB2 := Lib.hid (HBX.out.trans (b2.mono HBX.out.size))
  have HPB2 := Lib.hid (HPB1.out.behind b2)
  clear b2
  cases q
  · go_wp2
    go_ret
    exact ⟨rfl, HB2.out⟩
  go_wp2_with fail
  refine (HCF.out w2 HB2.out (fun i w' hi hb z hz => HS1.out z w' (HPB2.out.behind hb))).mono ?_
  rintro e w3 ⟨rfl, b3⟩
  have HB3 := Lib.hid (HB2.out.trans (b3.mono HB2.out.size))
  clear b3
  go_wp2
  go_ret
  exact ⟨rfl, HB3.out⟩
set_option maxHeartbeats 1600000 in
theorem isDown_any (v vg : Value) (p : Pln) (d : List Int) (w : World) (h : PlnR w v p) (hv : Rd w vg d) (hfb : ∀ i : Nat, (lgA p i).fb.length ≤ 1100000) :
    Calls Tryz.prog 69 #[v, vg] w fun e w' => e = .returned (.bool (dwOk p d)) ∧ Below w.heap.size w w' := by
  have HVP := Lib.hid (fun w' (hb : Below w.heap.size w w') => IsValidPlan_any v p w' (h.behind hb) hfb)
  have HLS := Lib.hid (fun w' (hb : Below w.heap.size w w') => isLightSet_any v vg p d w' (h.behind hb) (hv.belowAll hb))
  obtain ⟨u1, u2, u3, rfl, r1, r2, r3, hsm⟩ := h
  have hnet : NetR w (.agg #[u1, u2]) p.n := ⟨u1, u2, rfl, r1, r2, hsm⟩
  obtain ⟨⟨a1, m1, c1, rfl⟩, a2, m2, c2, rfl⟩ := slice_of_net hnet
  obtain ⟨a3, m3, c3, rfl, -, -, -, -⟩ := lgt_opn r3
  obtain ⟨ag, cg, ng, -, rfl, -, -, -⟩ := hv.opn
  obtain ⟨bx, bc, blt, -⟩ := box_facts w #[.slice a1 m1 c1, .slice a2 m2 c2, .slice a3 m3 c3] 38
  have q0 := bc 0 _ rfl
  have q1 := bc 1 _ rfl
  have q2 := bc 2 _ rfl
  have HBX := Lib.hid bx
  unfold dwOk
  generalize (setOk d 1000 && !(d.any (noL p))) = r at *
  generalize plnOk p = q at *
  clear bx bc r1 r2 r3 hsm hnet hv hfb
  go_enter Tryz.func69, Tryz.ntmps69
  go_wp2_with fail
  generalize w.alloc (.cells #[.slice a1 m1 c1, .slice a2 m2 c2, .slice a3 m3 c3] 38) = w1 at *
  refine (HVP.out w1 HBX.out).mono ?_
  rintro e w2 ⟨rfl, b2⟩
  have HB2 := Lib.hid (HBX.out.trans (b2.mono HBX.out.size))
  have e0 := (b2.cell (p := ⟨w.heap.size, 0, none⟩) blt).trans q0
  have e1 := (b2.cell (p := ⟨w.heap.size, 1, none⟩) blt).trans q1
  have e2 := (b2.cell (p := ⟨w.heap.size, 2, none⟩) blt).trans q2
  clear b2 q0 q1 q2
  cases q
  · go_wp2
    go_ret
    exact ⟨rfl, HB2.out⟩
  go_wp2_with fail
  refine (HLS.out w2 HB2.out).mono ?_
  rintro e w3 ⟨rfl, b3⟩
  have HB3 := Lib.hid (HB2.out.trans (b3.mono HB2.out.size))
  clear b3
  go_wp2
  go_ret
  exact ⟨rfl, HB3.out⟩
end Go.Proofs.YtmkkdenhjfjmgaaGreat
namespace Go.Proofs.YtmkkdenhjfjmgaaGreat
open Go.RowKit Go.Sort
set_option maxRecDepth 100000

set_option maxHeartbeats 1600000 in
theorem l9Find_any (v : Value) (p : Pln) (id : Int) (w : World) (h : PlnR w v p) :
    Calls Tryz.prog 116 #[v, .int .i64 id] w fun e w' => e = .returned (.int .i64 (lix p id)) ∧ Below w.heap.size w w' := by
  obtain ⟨u1, u2, u3, rfl, r1, r2, r3, hsm⟩ := h
  have hnet : NetR w (.agg #[u1, u2]) p.n := ⟨u1, u2, rfl, r1, r2, hsm⟩
  obtain ⟨⟨a1, m1, c1, rfl⟩, a2, m2, c2, rfl⟩ := slice_of_net hnet
  obtain ⟨a3, m3, c3, rfl, HN3, hc3, hm3, ha3⟩ := lgt_opn r3
  have HA := Lib.hid ha3
  have HI := Lib.hid (fun k hk h e => idxG_some (zs := p.ls) (p := fun x => x.id == id) (nil := nilL) (k := k) hk h e)
  have HO := Lib.hid (idxG_none (zs := p.ls) (p := fun x => x.id == id))
  have HM := Lib.hid (fun k hk h e => anyG_more (zs := p.ls) (p := fun x => x.id == id) (nil := nilL) (k := k) hk h e)
  rw [HN3.out] at HI HM
  have HTK := Lib.hid (show p.ls.take m3 = p.ls from List.take_of_length_le (Nat.le_of_eq HN3.out))
  unfold lix
  generalize idxG p.ls (fun x => x.id == id) = r at *
  obtain ⟨bx, bc, blt, -⟩ := box_facts w #[.slice a1 m1 c1, .slice a2 m2 c2, .slice a3 m3 c3] 38
  have q2 := bc 2 _ rfl
  have HBX := Lib.hid bx
  clear bx bc ha3 r1 r2 r3 hsm hnet
  go_enter Tryz.func116, Tryz.ntmps116
  go_wp2_with fail
  generalize w.alloc (.cells #[.slice a1 m1 c1, .slice a2 m2 c2, .slice a3 m3 c3] 38) = w1 at *
  go_loopw [5] (fun i wr => ∃ k : Nat, k ≤ m3 ∧ i = .int .i64 k ∧ Hid ((p.ls.take k).any (fun x => x.id == id) = false) ∧ Hid (Below w1.heap.size w1 wr)) (fun i _ => m3 - (intOf i).toNat)
  case atStart => exact ⟨0, Nat.zero_le _, rfl, by simp [Hid], Below.refl _ _⟩
  case round =>
    obtain ⟨k, hk, rfl, HT, HB⟩ := hrel
    have t2 := (HB.out.cell (p := ⟨w.heap.size, 2, none⟩) blt).trans q2
    by_cases hlt : k < m3
    · have hltI : (k : Int) < (m3 : Int) := by omega
      obtain ⟨b, off, rfl, hbs, hcs⟩ := HA.out (by omega)
      obtain ⟨u, x0, -⟩ := hcs k hlt
      have y0 := ((HBX.out.trans (HB.out.mono HBX.out.size)).cell (p := ⟨b, off + k * 5, none⟩) hbs).trans x0
      have HIK := Lib.hid (HI.out k hlt HT.out)
      have HMK := Lib.hid (HM.out k hlt HT.out)
      clear hcs x0
      generalize p.ls[k]?.getD nilL = x at *
      by_cases he : x.id = id
      · have heb : (x.id == id) = true := by simpa using he
        have HE := Lib.hid (HIK.out heb)
        clear he
        go_wp2
        go_ret
        exact ⟨by rw [HE.out]; rfl, HBX.out.trans (HB.out.mono HBX.out.size)⟩
      · have heb : (x.id == id) = false := by simpa using he
        have HE := Lib.hid (HMK.out heb)
        clear he
        go_wp2
        go_roundw
        case rel => exact ⟨k + 1, hlt, by go_num, HE.out, HB.out⟩
        case measure => simp [intOf]; omega
    · obtain rfl : m3 = k := by omega
      have hh := HT.out
      rw [HTK.out] at hh
      have HE := Lib.hid (HO.out hh)
      clear hh
      go_wp2
      go_ret
      exact ⟨by rw [HE.out]; rfl, HBX.out.trans (HB.out.mono HBX.out.size)⟩
def dwR (p : Pln) (d : List Int) : Nat := if dwOk p d then dmk p d else 0
def DwP (p : Pln) (d : List Int) (w : World) (e : Ending) (w' : World) : Prop := e = .returned (.tuple #[.int .i64 (dwR p d), .bool (dwOk p d)]) ∧ Below w.heap.size w w'
theorem DwP.no {p : Pln} {d : List Int} {w w' : World} (h : dwOk p d = false) (hb : Below w.heap.size w w') : DwP p d w (.returned (.tuple #[.int .i64 0, .bool false])) w' := by unfold DwP dwR; rw [h]; exact ⟨rfl, hb⟩
theorem DwP.yes {p : Pln} {d : List Int} {w w' : World} {m : Nat} (h : dwOk p d = true) (hm : dmk p d = m) (hb : Below w.heap.size w w') : DwP p d w (.returned (.tuple #[.int .i64 (m : Int), .bool true])) w' := by unfold DwP dwR; rw [h, ← hm]; exact ⟨rfl, hb⟩
theorem noL_take {p : Pln} {d : List Int} {k : Nat} (hk : k < d.length) (h : (d.take k).any (noL p) = false) (e : 0 ≤ lix p (d[k]?.getD 0)) : (d.take (k + 1)).any (noL p) = false :=
  anyG_more (nil := 0) hk h (by unfold noL; simpa using e)
theorem noL_stop {p : Pln} {d : List Int} {k : Nat} (hk : k < d.length) (e : lix p (d[k]?.getD 0) < 0) : d.any (noL p) = true := by
  rw [List.any_eq_true]
  refine ⟨d[k], List.getElem_mem hk, ?_⟩
  rw [List.getElem?_eq_getElem hk] at e
  unfold noL; simpa using e
theorem dmk_small {p : Pln} {d : List Int} {k : Nat} (hp : plnOk p = true) (h : (d.take k).any (noL p) = false) : dmk p (d.take k) < 16777216 := by
  refine le12 (dmk_lt' (fun x hx => ?_)) (plnOk_sz hp).2.1
  rw [List.any_eq_false] at h
  have := h x hx
  unfold noL at this
  simp at this
  exact this
set_option maxHeartbeats 3200000 in
theorem l25Down_any (v vg : Value) (p : Pln) (d : List Int) (w : World) (h : PlnR w v p) (hv : Rd w vg d) (hfb : ∀ i : Nat, (lgA p i).fb.length ≤ 1100000) :
    Calls Tryz.prog 68 #[v, vg] w (DwP p d w) := by
  have HVP := Lib.hid (fun w' (hb : Below w.heap.size w w') => l9Good_any v p w' (h.behind hb) hfb)
  have HRI := Lib.hid (fun w' (hb : Below w.heap.size w w') => l1Rising1_any vg d w' (hv.belowAll hb))
  have HFI := Lib.hid (fun id w' (hb : Below w.heap.size w w') => l9Find_any v p id w' (h.behind hb))
  have HBD := Lib.hid (lix_bd p)
  obtain ⟨u1, u2, u3, rfl, r1, r2, r3, hsm⟩ := h
  have hnet : NetR w (.agg #[u1, u2]) p.n := ⟨u1, u2, rfl, r1, r2, hsm⟩
  obtain ⟨⟨a1, m1, c1, rfl⟩, a2, m2, c2, rfl⟩ := slice_of_net hnet
  obtain ⟨a3, m3, c3, rfl, -, -, -, -⟩ := lgt_opn r3
  obtain ⟨ag, cg, ng, HNG, rfl, -, hng, hcg⟩ := hv.opn
  have HCG := Lib.hid hcg
  obtain ⟨bx, bc, blt, -⟩ := box_facts w #[.slice a1 m1 c1, .slice a2 m2 c2, .slice a3 m3 c3] 38
  have q0 := bc 0 _ rfl
  have q1 := bc 1 _ rfl
  have q2 := bc 2 _ rfl
  have HBX := Lib.hid bx
  have HNO := Lib.hid (fun (w' : World) (hb : Below w.heap.size w w') (h : dwOk p d = false) => DwP.no h hb)
  have HYE := Lib.hid (fun (w' : World) (m : Nat) (hb : Below w.heap.size w w') (h : dwOk p d = true) (hm : dmk p d = m) => DwP.yes h hm hb)
  have HOK := Lib.hid (@dwOk_spec p d)
  have HTK := Lib.hid (fun k hk => @dmk_take p d k hk)
  have HNT := Lib.hid (fun k hk => @noL_take p d k hk)
  have HNS := Lib.hid (fun k hk => @noL_stop p d k hk)
  have HSM := Lib.hid (fun k => @dmk_small p d k)
  have H12 := Lib.hid (fun (h : plnOk p = true) => (plnOk_sz h).2.1)
  have HTE := Lib.hid (show d.take ng = d from List.take_of_length_le (Nat.le_of_eq HNG.out))
  rw [HNG.out] at HTK HNT HNS
  generalize hK : DwP p d w = K at *
  generalize dwOk p d = ok at *
  clear hv hcg r1 r2 r3 hsm hnet hfb bx bc hK
  refine Calls.mono (show Calls _ _ _ _ (fun e w' => K e w' ∧ True) from ?_) (fun _ _ h => h.1)
  go_enter Tryz.func68, Tryz.ntmps68
  go_wp2_with fail
  generalize w.alloc (.cells #[.slice a1 m1 c1, .slice a2 m2 c2, .slice a3 m3 c3] 38) = w1 at *
  have HV1 := Lib.hid (HVP.out w1 HBX.out)
  cases hok : plnOk p
  · have HF := Lib.hid (fun w' hb => HNO.out w' hb (by rw [HOK.out, hok]; rfl))
    rw [hok] at HV1
    clear hok
    refine HV1.out.mono ?_
    rintro e w2 ⟨rfl, b2⟩
    have HB2 := Lib.hid (HBX.out.trans (b2.mono HBX.out.size))
    clear b2
    go_wp2
    go_ret2
    exact ⟨HF.out _ HB2.out, trivial⟩
  rw [hok] at HV1
  refine HV1.out.mono ?_
  rintro e w2 ⟨rfl, b2⟩
  have e0 := (b2.cell (p := ⟨w.heap.size, 0, none⟩) blt).trans q0
  have e1 := (b2.cell (p := ⟨w.heap.size, 1, none⟩) blt).trans q1
  have e2 := (b2.cell (p := ⟨w.heap.size, 2, none⟩) blt).trans q2
  have HB2 := Lib.hid (HBX.out.trans (b2.mono HBX.out.size))
  have HLT2 := Lib.hid (Nat.lt_of_lt_of_le blt b2.size)
  have HR2 := Lib.hid (HRI.out w2 HB2.out)
  have h12 := H12.out hok
  clear b2 q0 q1 q2
  cases hris : ris1 d
  · have HF := Lib.hid (fun w' hb => HNO.out w' hb (by rw [HOK.out, hok, hris]; rfl))
    rw [hris] at HR2
    clear hris hok
    go_wp2_with fail
    refine HR2.out.mono ?_
    rintro e w3 ⟨rfl, b3⟩
    have HB3 := Lib.hid (HB2.out.trans (b3.mono HB2.out.size))
    clear b3
    go_wp2
    go_ret2
    exact ⟨HF.out _ HB3.out, trivial⟩
  have HOK2 := Lib.hid (show ok = !(d.any (noL p)) by rw [HOK.out, hok, hris]; rfl)
  have HSM2 := Lib.hid (fun k => HSM.out k hok)
  rw [hris] at HR2
  clear hris hok HOK HSM
  go_wp2_with fail
  refine HR2.out.mono ?_
  rintro e w3 ⟨rfl, b3⟩
  have f0 := (b3.cell (p := ⟨w.heap.size, 0, none⟩) HLT2.out).trans e0
  have f1 := (b3.cell (p := ⟨w.heap.size, 1, none⟩) HLT2.out).trans e1
  have f2 := (b3.cell (p := ⟨w.heap.size, 2, none⟩) HLT2.out).trans e2
  have HB3 := Lib.hid (HB2.out.trans (b3.mono HB2.out.size))
  have HLT3 := Lib.hid (Nat.lt_of_lt_of_le HLT2.out b3.size)
  clear b3 e0 e1 e2
  go_wp2
  go_loopw [6, 7, 8] (fun s i _ wr => ∃ k : Nat, k ≤ ng ∧ i = .int .i64 k ∧ s = .int .i64 (dmk p (d.take k)) ∧ Hid ((d.take k).any (noL p) = false) ∧ Hid (Below w3.heap.size w3 wr)) (fun _ i _ _ => ng - (intOf i).toNat)
  case atStart => exact ⟨0, Nat.zero_le _, rfl, rfl, by simp [Hid], Below.refl _ _⟩
  case round =>
    obtain ⟨k, hk, rfl, rfl, HT, HB⟩ := hrel
    have HBW := Lib.hid (HB3.out.trans (HB.out.mono HB3.out.size))
    have g0 := (HB.out.cell (p := ⟨w.heap.size, 0, none⟩) HLT3.out).trans f0
    have g1 := (HB.out.cell (p := ⟨w.heap.size, 1, none⟩) HLT3.out).trans f1
    have g2 := (HB.out.cell (p := ⟨w.heap.size, 2, none⟩) HLT3.out).trans f2
    by_cases hlt : k < ng
    · have hltI : (k : Int) < (ng : Int) := by omega
      obtain ⟨b, off, rfl, hbs, hcs⟩ := HCG.out (by omega)
      have y0 := (HBW.out.cell (p := ⟨b, off + k, none⟩) hbs).trans (hcs k hlt)
      have HTS := Lib.hid (HTK.out k hlt)
      have HNX := Lib.hid (HNT.out k hlt HT.out)
      have HST := Lib.hid (HNS.out k hlt)
      have HM24 := Lib.hid (HSM2.out k HT.out)
      clear hcs
      generalize d[k]?.getD 0 = x at *
      generalize dmk p (d.take k) = M at *
      have HFX := Lib.hid (fun w' (hb : Below wr.heap.size wr w') => HFI.out x w' (HBW.out.trans (hb.mono HBW.out.size)))
      have j0 := rg g0
      have j1 := rg g1
      have j2 := rg g2
      have j3 := rg y0
      have HBX1 := Lib.hid (HBD.out x)
      generalize lix p x = r at *
      by_cases hneg : r < 0
      · have hn1 : decide (r < 0) = true := decide_eq_true hneg
        have HF := Lib.hid (fun w' hb => HNO.out w' hb (by rw [HOK2.out, HST.out hneg]; rfl))
        clear hneg
        go_wp2
        clear y0 g0 g1 g2
        refine wp_region_quiet_below (by kernel_rfl) (by kernel_rfl) ?_
        repeat (go_big_quiet_step (first | (go_at_call 116; exact Calls.regrown_of (HFX.out _ (below_regrown _ _ _)))))
        refine wpQuiet_nil ?_
        rintro _ ⟨⟨dq, osq⟩, rfl⟩
        have HB4 := Lib.hid (HBW.out.trans ((below_regrown wr dq osq).mono HBW.out.size))
        go_wp2
        go_ret2
        exact ⟨HF.out _ HB4.out, trivial⟩
      · have hn1 : decide (r < 0) = false := decide_eq_false hneg
        obtain ⟨j, rfl⟩ : ∃ j : Nat, r = (j : Int) := ⟨r.toNat, by omega⟩
        have HNX2 := Lib.hid (HNX.out (Int.natCast_nonneg j))
        rw [Int.toNat_natCast] at HTS
        have hj24 : j < 24 := by have := HBX1.out.2; omega
        have hsh := shl_one (k := j) hj24
        have hp24 := pow_lt24 (k := j) hj24
        generalize (2 : Nat) ^ j = P at *
        have hor := bits_or HM24.out hp24
        clear hneg
        go_wp2
        clear y0 g0 g1 g2
        refine wp_region_quiet_below (by kernel_rfl) (by kernel_rfl) ?_
        repeat (go_big_quiet_step (first | (go_at_call 116; exact Calls.regrown_of (HFX.out _ (below_regrown _ _ _)))))
        refine wpQuiet_nil ?_
        rintro _ ⟨⟨dq, osq⟩, rfl⟩
        have HB4 := Lib.hid (HB.out.trans ((below_regrown wr dq osq).mono HB.out.size))
        go_wp2
        go_roundw
        case rel => exact ⟨k + 1, hlt, by go_num, by rw [HTS.out], HNX2.out, HB4.out⟩
        case measure => simp [intOf]; omega
    · obtain rfl : ng = k := by omega
      have hh := HT.out
      rw [HTE.out] at hh ⊢
      have HF := Lib.hid (HYE.out wr _ HBW.out (by rw [HOK2.out, hh]; rfl) rfl)
      clear hh
      go_wp2
      go_ret2
      exact ⟨HF.out, trivial⟩
end Go.Proofs.YtmkkdenhjfjmgaaGreat
namespace Go.Proofs.YtmkkdenhjfjmgaaGreat
open Go.RowKit Go.Sort
set_option maxRecDepth 100000

theorem rd_one {W : World} {c : Nat} {n : Int} (h : W.cell? ⟨c, 0, none⟩ = some (.int .i64 n)) : Rd W (.slice (some ⟨c, 0, none⟩) 1 1) [n] :=
  .inr ⟨c, 0, 1, rfl, Nat.le_refl _, by unfold maxLen; omega, World.block_lt_of_cell? _ _ h, one_cell h⟩
theorem bd_one {g m : Nat} (h : g < m) : ∀ i : Nat, i < [(g : Int)].length → 0 ≤ [(g : Int)][i]?.getD 0 ∧ [(g : Int)][i]?.getD 0 < (m : Nat) := fun i hi => by
  have : i = 0 := by simpa using hi
  subst this
  show (0 : Int) ≤ (g : Int) ∧ (g : Int) < (m : Nat)
  omega
set_option maxHeartbeats 1600000 in
theorem equalI_any (va vb : Value) (xs ys : List Int) (w : World) (ha : Rd w va xs) (hb : Rd w vb ys) :
    Calls Tryz.prog 117 #[va, vb] w fun e w' => e = .returned (.bool (decide (xs = ys))) ∧ Dr w w' := by
  obtain ⟨a, capa, n, HX, rfl, _, hla, ha⟩ := ha.opn
  obtain ⟨b, capb, m, HY, rfl, _, hlb, hb⟩ := hb.opn
  by_cases hn : n = m
  · subst hn
    have hne : ((n : Int) != (n : Int)) = false := by simp
    have HR := Lib.hid (show xs = ys → decide (xs = ys) = true from fun h => decide_eq_true h)
    have HN := Lib.hid (show xs ≠ ys → decide (xs = ys) = false from fun h => decide_eq_false h)
    generalize decide (xs = ys) = r at *
    go_enter Tryz.func117, Tryz.ntmps117
    go_wp2
    go_loopw [5, 13] (fun _ i wr => ∃ k : Nat, k ≤ n ∧ i = .int .i64 k ∧ Hid (xs.take k = ys.take k) ∧ Dr w wr) (fun _ i _ => n - (intOf i).toNat)
    case atStart => exact ⟨0, by omega, rfl, by simp [Hid], Dr.refl _⟩
    case round =>
      obtain ⟨k, hk, rfl, HT, m, rfl⟩ := hrel
      by_cases hlt : k < n
      · have hltI : (k : Int) < (n : Int) := by omega
        obtain ⟨b1, o1, rfl, hs1, hc1⟩ := ha (by omega)
        obtain ⟨b2, o2, rfl, hs2, hc2⟩ := hb (by omega)
        have c1 := hc1 k hlt
        have c2 := hc2 k hlt
        clear hc1 hc2
        by_cases he : (xs[k]?.getD 0) = (ys[k]?.getD 0)
        · have hne2 : ((xs[k]?.getD 0) != (ys[k]?.getD 0)) = false := by simpa using he
          have HE := Lib.hid he
          clear he
          go_wp2
          go_quiet (fail)
          go_wp2
          go_roundw
          case rel => exact ⟨k + 1, by omega, by go_num, take_eq_step (by rw [HX.out]; exact hlt) (by rw [HY.out]; exact hlt) HT.out HE.out, ⟨_, rfl⟩⟩
          case measure => simp [intOf]; omega
        · have hne2 : ((xs[k]?.getD 0) != (ys[k]?.getD 0)) = true := by simpa using he
          have HE := Lib.hid he
          clear he
          go_wp2
          go_quiet (fail)
          go_wp2
          go_ret
          exact ⟨by rw [HN.out (fun h => HE.out (by rw [h]))]; rfl, Dr.drewN ⟨_, rfl⟩ _⟩
      · obtain rfl : k = n := by omega
        go_wp2
        go_ret
        have hh := HT.out
        rw [← HX.out, List.take_length, HX.out, ← HY.out, List.take_length] at hh
        exact ⟨by rw [HR.out hh]; rfl, ⟨_, rfl⟩⟩
  · have hne : ((n : Int) != (m : Int)) = true := by rw [bne_iff_ne]; omega
    have he : decide (xs = ys) = false := by simp only [decide_eq_false_iff_not]; exact fun h => hn (by rw [← HX.out, ← HY.out, h])
    have HE := Lib.hid he
    clear he
    go_enter Tryz.func117, Tryz.ntmps117
    go_wp2
    go_ret
    exact ⟨by rw [HE.out]; rfl, Dr.refl _⟩
set_option maxHeartbeats 3200000 in
theorem suspects_any (v vg : Value) (p : Pln) (d : List Int) (w : World) (h : PlnR w v p) (hv : Rd w vg d) (hd : dwOk p d = true) (hfb : ∀ i : Nat, (lgA p i).fb.length ≤ 1100000) :
    Calls Tryz.prog 74 #[v, vg] w fun e w' => ∃ v', e = .returned v' ∧ Own w' w.heap.size v' (sps p d) ∧ Below w.heap.size w w' := by
  have hp := (dwOk_parts hd).1
  have HHT := Lib.hid (fun (g : Nat) (hg : g < (grps p.n).length) w' (hb : Below w.heap.size w w') vl (hl : Rd w' vl [(g : Int)]) => hits_any v vl p [(g : Int)] w' (h.behind hb) hl (plnOk_sz hp).2.2.1 (plnOk_sz hp).2.1 hfb (bd_one hg) (by simp))
  have HCM := Lib.hid (fun (xs : List Int) (hl : xs.length ≤ 1100000) w' (hb : Below w.heap.size w w') vx (hx : Rd w' vx xs) => common_any vx vg xs d w' hx (hv.belowAll hb) hl)
  obtain ⟨u1, u2, u3, rfl, r1, r2, r3, hsm⟩ := h
  have hnet : NetR w (.agg #[u1, u2]) p.n := ⟨u1, u2, rfl, r1, r2, hsm⟩
  have HGG := Lib.hid (fun w' (hb : Below w.heap.size w w') => groups_any u1 u2 p.n w' (hnet.behind hb) (by have := (plnOk_sz hp).2.2.1; omega))
  obtain ⟨⟨a1, m1, c1, rfl⟩, a2, m2, c2, rfl⟩ := slice_of_net hnet
  obtain ⟨a3, m3, c3, rfl, -, -, -, -⟩ := lgt_opn r3
  obtain ⟨ag, cg, ng, -, rfl, -, -, -⟩ := hv.opn
  have HY := Lib.hid (fun k h1 => @susTo_yes p d k h1)
  have HZ := Lib.hid (fun k h1 => @susTo_no p d k h1)
  have HL := Lib.hid (susTo_len p d)
  have HSN := Lib.hid (fun k h1 => @susB_none p d k h1)
  have HSI := Lib.hid (fun (g : Int) h1 => @susB_impl p d hp g h1)
  have HLH := Lib.hid (fun gs => Nat.le_trans (hitTo_len p gs p.ls.length) (plnOk_sz hp).2.1)
  obtain ⟨m, HM⟩ : ∃ m, Hid ((grps p.n).length = m) := ⟨_, rfl⟩
  have hm23 : m ≤ 23 := by have := (plnOk_sz hp).2.2.2; have := HM.out; omega
  have HT := Lib.hid (show susTo p d m = sps p d by unfold sps; rw [HM.out])
  rw [HM.out] at HHT
  clear hv r1 r2 r3 hsm hnet hfb hd hp
  obtain ⟨bx, bc, blt, -⟩ := box_facts w #[.slice a1 m1 c1, .slice a2 m2 c2, .slice a3 m3 c3] 38
  have q0 := bc 0 _ rfl
  have q1 := bc 1 _ rfl
  have q2 := bc 2 _ rfl
  have hs1 : (w.alloc (.cells #[.slice a1 m1 c1, .slice a2 m2 c2, .slice a3 m3 c3] 38)).heap.size = w.heap.size + 1 := by simp
  have HR0 := Lib.hid (show Own ((w.alloc (.cells #[.slice a1 m1 c1, .slice a2 m2 c2, .slice a3 m3 c3] 38)).alloc (.cells #[] 3)) (w.heap.size + 1) (.slice (some ⟨w.heap.size + 1, 0, none⟩) 0 0) [] by rw [← hs1]; exact (own_none _ 3))
  have HB0 := Lib.hid (bx.alloc bx.size (.cells #[] 3))
  have e0 := ((Below.refl _ _).alloc (Nat.le_refl _) (.cells #[] 3)).cell (p := ⟨w.heap.size, 0, none⟩) blt
  have e1 := ((Below.refl _ _).alloc (Nat.le_refl _) (.cells #[] 3)).cell (p := ⟨w.heap.size, 1, none⟩) blt
  have e2 := ((Below.refl _ _).alloc (Nat.le_refl _) (.cells #[] 3)).cell (p := ⟨w.heap.size, 2, none⟩) blt
  rw [q0] at e0
  rw [q1] at e1
  rw [q2] at e2
  clear bx bc hs1 q0 q1 q2
  go_enter Tryz.func74, Tryz.ntmps74
  go_wp2_with fail
  generalize hww : (w.alloc (.cells #[.slice a1 m1 c1, .slice a2 m2 c2, .slice a3 m3 c3] 38)).alloc (.cells #[] 3) = w2 at *
  have hlt2 : w.heap.size < w2.heap.size := World.block_lt_of_cell? _ _ e0
  clear hww
  refine (HGG.out w2 HB0.out).mono ?_
  rintro e w3 ⟨v3, rfl, o3, b3⟩
  have f0 := (b3.cell (p := ⟨w.heap.size, 0, none⟩) hlt2).trans e0
  have f1 := (b3.cell (p := ⟨w.heap.size, 1, none⟩) hlt2).trans e1
  have f2 := (b3.cell (p := ⟨w.heap.size, 2, none⟩) hlt2).trans e2
  obtain ⟨a5, n5, c5, rfl, HN5, -, hn5, -⟩ := ssD_opn o3.rd
  obtain rfl : m = n5 := by have := HM.out; have := HN5.out; omega
  have HB3 := Lib.hid (HB0.out.trans (b3.mono HB0.out.size))
  have HR3 := Lib.hid (HR0.out.belowAll b3)
  clear b3 o3 HR0 HB0 HGG e0 e1 e2
  go_wp2
  go_loopw [5, 6, 7, 13] (fun s5 _ _ i wr => ∃ (k : Nat), k ≤ m ∧ i = .int .i64 k ∧ Hid (Own wr (w.heap.size + 1) s5 (susTo p d k)) ∧ Hid (Below w.heap.size w wr) ∧ wr.cell? ⟨w.heap.size, 0, none⟩ = some (.slice a1 m1 c1) ∧ wr.cell? ⟨w.heap.size, 1, none⟩ = some (.slice a2 m2 c2) ∧ wr.cell? ⟨w.heap.size, 2, none⟩ = some (.slice a3 m3 c3)) (fun _ _ _ i _ => m - (intOf i).toNat)
  case atStart => exact ⟨0, Nat.zero_le _, rfl, HR3.out, HB3.out, f0, f1, f2⟩
  case round =>
    clear f0 f1 f2
    obtain ⟨k, hk, rfl, HO, HB, g0, g1, g2⟩ := hrel
    obtain ⟨a6, c6, m6, HN6, rfl, _, _, -⟩ := HO.out.rd.opn
    by_cases hlt : k < m
    · have hltI : (k : Int) < (m : Int) := by omega
      obtain ⟨bf, cf, blf, -⟩ := box_facts wr #[.int .i64 k] 3
      have z0 := cf 0 _ rfl
      have hwl := World.block_lt_of_cell? _ _ g0
      have k0 := (bf.cell (p := ⟨w.heap.size, 0, none⟩) hwl).trans g0
      have k1 := (bf.cell (p := ⟨w.heap.size, 1, none⟩) hwl).trans g1
      have k2 := (bf.cell (p := ⟨w.heap.size, 2, none⟩) hwl).trans g2
      have HBF := Lib.hid (HB.out.trans (bf.mono HB.out.size))
      have HOF := Lib.hid (HO.out.belowAll bf)
      have HWF := Lib.hid (show w.heap.size < (wr.alloc (.cells #[.int .i64 k] 3)).heap.size from Nat.lt_of_lt_of_le hwl bf.size)
      have HH := Lib.hid (HHT.out k hlt _ HBF.out _ (rd_one z0))
      have HYK := Lib.hid (HY.out k)
      have HZK := Lib.hid (HZ.out k)
      have HSNK := Lib.hid (HSN.out k)
      have HSIK := Lib.hid (HSI.out k)
      have HLK := Lib.hid (show (susTo p d k).length ≤ 4000000 by have := HL.out k; omega)
      have HLHK := Lib.hid (show (hts p [(k : Int)]).length ≤ 12 from HLH.out _)
      clear bf cf z0 blf
      generalize hts p [(k : Int)] = H at *
      generalize hsb : susB p d k = sb at *
      clear hsb
      go_wp2_with fail
      generalize wr.alloc (.cells #[.int .i64 k] 3) = w4 at *
      refine HH.out.mono ?_
      rintro e w5 ⟨v5, rfl, o5, b5⟩
      have y0 := (b5.cell (p := ⟨w.heap.size, 0, none⟩) HWF.out).trans k0
      have y1 := (b5.cell (p := ⟨w.heap.size, 1, none⟩) HWF.out).trans k1
      have y2 := (b5.cell (p := ⟨w.heap.size, 2, none⟩) HWF.out).trans k2
      have HB5 := Lib.hid (HBF.out.trans (b5.mono HBF.out.size))
      have HO5 := Lib.hid (HOF.out.belowAll b5)
      have HW5 := Lib.hid (Nat.lt_of_lt_of_le HWF.out b5.size)
      have HC5 := Lib.hid (HCM.out H (by have := HLHK.out; omega) w5 HB5.out v5 o5.rd)
      obtain ⟨a7, c7, m7, HN7, rfl, -, -, -⟩ := o5.rd.opn
      clear b5 o5 HH k0 k1 k2
      by_cases h0 : 0 < m7
      · have d1 : decide (0 < (m7 : Int)) = true := decide_eq_true (by omega)
        have d2 : decide (0 < m7) = true := decide_eq_true h0
        have HSV := Lib.hid (HSIK.out (by rw [HN7.out]; exact h0))
        rw [HN7.out] at HSV
        generalize ust (cmn H d) = C at *
        clear h0
        go_wp2_with fail
        refine HC5.out.mono ?_
        rintro e w6 ⟨v6, rfl, o6, b6⟩
        have x0 := (b6.cell (p := ⟨w.heap.size, 0, none⟩) HW5.out).trans y0
        have x1 := (b6.cell (p := ⟨w.heap.size, 1, none⟩) HW5.out).trans y1
        have x2 := (b6.cell (p := ⟨w.heap.size, 2, none⟩) HW5.out).trans y2
        have HB6 := Lib.hid (HB5.out.trans (b6.mono HB5.out.size))
        have HO6 := Lib.hid (HO5.out.belowAll b6)
        obtain ⟨a8, c8, m8, HN8, rfl, -, -, -⟩ := o6.rd.opn
        rw [HN8.out] at HSV
        clear b6 o6 HC5 y0 y1 y2
        by_cases he : m8 = m7
        · have d3 : ((m8 : Int) == (m7 : Int)) = true := by rw [beq_iff_eq]; omega
          have HE := Lib.hid (HYK.out (HSV.out.trans (decide_eq_true he)))
          clear he
          go_wp2_with (at_builtin; go_loud (refine wpList_pushI rfl (.tmp 32) (.tmp 34) 29 rfl Tryz.underlying29 Tryz.infoI (w.heap.size + 1) _ _ rfl HO6.out rfl HLK.out (World.block_lt_of_cell? _ _ x0) ?_); intro v9 w9 o9 g9 l9; have HO9 := Lib.hid o9; have HB9 := Lib.hid (HB6.out.grown g9 HB6.out.size (fun q hq => Nat.le_of_succ_le (HO6.out.lt q hq).1)); have n0 := (g9.cell_far ⟨w.heap.size, 0, none⟩ (World.block_lt_of_cell? _ _ x0) (fun e => Nat.lt_irrefl _ (HO6.out.lt _ e.symm).1)).trans x0; have n1 := (g9.cell_far ⟨w.heap.size, 1, none⟩ (World.block_lt_of_cell? _ _ x1) (fun e => Nat.lt_irrefl _ (HO6.out.lt _ e.symm).1)).trans x1; have n2 := (g9.cell_far ⟨w.heap.size, 2, none⟩ (World.block_lt_of_cell? _ _ x2) (fun e => Nat.lt_irrefl _ (HO6.out.lt _ e.symm).1)).trans x2; clear o9 g9 l9)
          go_roundw
          case rel => exact ⟨k + 1, hlt, by go_num, by rw [HE.out]; exact HO9.out, HB9.out, n0, n1, n2⟩
          case measure => simp [intOf]; omega
        · have d3 : ((m8 : Int) == (m7 : Int)) = false := by rw [beq_eq_false_iff_ne]; omega
          have HE := Lib.hid (HZK.out (HSV.out.trans (decide_eq_false he)))
          clear he
          go_wp2
          go_roundw
          case rel => exact ⟨k + 1, hlt, by go_num, by rw [HE.out]; exact HO6.out, HB6.out, x0, x1, x2⟩
          case measure => simp [intOf]; omega
      · have d1 : decide (0 < (m7 : Int)) = false := decide_eq_false (by omega)
        have d2 : decide (0 < m7) = false := decide_eq_false h0
        have HE := Lib.hid (HZK.out (HSNK.out (by rw [HN7.out]; exact h0)))
        clear h0
        go_wp2
        go_roundw
        case rel => exact ⟨k + 1, hlt, by go_num, by rw [HE.out]; exact HO5.out, HB5.out, y0, y1, y2⟩
        case measure => simp [intOf]; omega
    · obtain rfl : m = k := by omega
      have HE := Lib.hid HT.out
      generalize susTo p d m = out at *
      go_wp2
      go_ret
      exact ⟨_, rfl, by rw [← HE.out]; exact HO.out.mono (Nat.le_succ _), HB.out⟩
end Go.Proofs.YtmkkdenhjfjmgaaGreat
namespace Go.Proofs.YtmkkdenhjfjmgaaGreat
open Go.RowKit Go.Sort
set_option maxRecDepth 100000

theorem bd_oneI {g : Int} {m : Nat} (h : 0 ≤ g ∧ g < (m : Int)) : ∀ i : Nat, i < [g].length → 0 ≤ [g][i]?.getD 0 ∧ [g][i]?.getD 0 < (m : Nat) := fun i hi => by
  have : i = 0 := by simpa using hi
  subst this
  exact h
def hitN (p : Pln) (g : Int) : Bool := (hts p [g]).isEmpty
set_option maxHeartbeats 1600000 in
theorem explains1_any (b : Nat) (p : Pln) (g : Int) (w : World) (h : PlB w b p) (hp : plnOk p = true) (hg : 0 ≤ g ∧ g < (grps p.n).length) (hfb : ∀ i : Nat, (lgA p i).fb.length ≤ 1100000) :
    Calls Tryz.prog 119 #[.int .i64 g, ptr b] w fun e w' => e = .returned (.bool (hitN p g)) ∧ Below w.heap.size w w' := by
  obtain ⟨v1, v2, v3, h1, h2, h3, h4⟩ := h
  obtain ⟨bf, cf, blf, -⟩ := box_facts w #[.int .i64 g] 3
  have z0 := cf 0 _ rfl
  have HH := Lib.hid (hits_any _ _ p [g] _ (h1.behind bf) (rd_one z0) (plnOk_sz hp).2.2.1 (plnOk_sz hp).2.1 hfb (bd_oneI hg) (by simp))
  obtain ⟨a1, m1, c1, a2, m2, c2, a3, m3, c3, rfl, rfl, rfl⟩ := PlB.slices h1
  have HBF := Lib.hid bf
  have HHN := Lib.hid (show hitN p g = (hts p [g]).isEmpty from rfl)
  generalize hts p [g] = H at *
  generalize hitN p g = R at *
  clear h1 hp hfb bf cf z0 hg
  go_enter Tryz.func119, Tryz.ntmps119
  go_wp2_with fail
  generalize w.alloc (.cells #[.int .i64 g] 3) = w2 at *
  refine HH.out.mono ?_
  rintro e w3 ⟨v3, rfl, o3, b3⟩
  obtain ⟨a7, c7, m7, HN7, rfl, -, -, -⟩ := o3.rd.opn
  have HB3 := Lib.hid (HBF.out.trans (b3.mono HBF.out.size))
  have HE := Lib.hid (show R = ((m7 : Int) == 0) from by rw [HHN.out, ← HN7.out]; cases H <;> rfl)
  clear b3 o3
  go_wp2
  go_ret
  exact ⟨by rw [HE.out]; rfl, HB3.out⟩
set_option maxHeartbeats 1600000 in
theorem explains_any (v vd vg : Value) (p : Pln) (d gs : List Int) (w : World) (h : PlnR w v p) (hvd : Rd w vd d) (hv : Rd w vg gs) (hp : plnOk p = true) (hfb : ∀ i : Nat, (lgA p i).fb.length ≤ 1100000)
    (hgs : ∀ i : Nat, i < gs.length → 0 ≤ gs[i]?.getD 0 ∧ gs[i]?.getD 0 < (grps p.n).length) (hgl : gs.length ≤ 10000) :
    Calls Tryz.prog 70 #[v, vd, vg] w fun e w' => e = .returned (.bool (expB p d gs)) ∧ Below w.heap.size w w' := by
  have HHI := Lib.hid (fun w' (hb : Below w.heap.size w w') => hits_any v vg p gs w' (h.behind hb) (hv.belowAll hb) (plnOk_sz hp).2.2.1 (plnOk_sz hp).2.1 hfb hgs hgl)
  have HEQ := Lib.hid (fun (xs : List Int) w' (hb : Below w.heap.size w w') vx (hx : Rd w' vx xs) => equalI_any vx vd xs d w' hx (hvd.belowAll hb))
  have HFN := Lib.hid (show IsFn 119 from isFn_of rfl rfl rfl)
  have HX1 := Lib.hid (fun i hi w' hB => explains1_any w.heap.size p (gs[i]?.getD 0) w' hB hp (hgs i hi) hfb)
  have HCF := Lib.hid (fun (w2 : World) (hb : Below w.heap.size w w2) hp => containsFuncI_any vg gs 119 w.heap.size (hitN p) w2 (hv.belowAll hb) HFN.out hp)
  have HPB := Lib.hid (fun w' (hb : Below w.heap.size w w') => h.behind hb)
  obtain ⟨u1, u2, u3, rfl, r1, r2, r3, hsm⟩ := h
  have hnet : NetR w (.agg #[u1, u2]) p.n := ⟨u1, u2, rfl, r1, r2, hsm⟩
  obtain ⟨⟨a1, m1, c1, rfl⟩, a2, m2, c2, rfl⟩ := slice_of_net hnet
  obtain ⟨a3, m3, c3, rfl, -, -, -, -⟩ := lgt_opn r3
  obtain ⟨ag, cg, ng, -, rfl, -, -, -⟩ := hv.opn
  obtain ⟨ad, cd, nd, -, rfl, -, -, -⟩ := hvd.opn
  obtain ⟨bx, bc, blt, -⟩ := box_facts w #[.slice a1 m1 c1, .slice a2 m2 c2, .slice a3 m3 c3] 38
  have q0 := bc 0 _ rfl
  have q1 := bc 1 _ rfl
  have q2 := bc 2 _ rfl
  have HPB1 := Lib.hid (show PlB (w.alloc (.cells #[.slice a1 m1 c1, .slice a2 m2 c2, .slice a3 m3 c3] 38)) w.heap.size p from ⟨_, _, _, HPB.out _ bx, q0, q1, q2⟩)
  have HBX := Lib.hid bx
  have HEX := Lib.hid (show expB p d gs = (decide (hts p gs = d) && !(gs.any (hitN p))) from rfl)
  generalize hts p gs = H at *
  generalize gs.any (hitN p) = q at *
  generalize expB p d gs = R at *
  clear bx bc r1 r2 r3 hsm hnet hv hvd HPB hp hfb hgs hgl
  go_enter Tryz.func70, Tryz.ntmps70
  go_wp2_with fail
  generalize w.alloc (.cells #[.slice a1 m1 c1, .slice a2 m2 c2, .slice a3 m3 c3] 38) = w1 at *
  refine (HHI.out w1 HBX.out).mono ?_
  rintro e w2 ⟨v2, rfl, o2, b2⟩
  have HB2 := Lib.hid (HBX.out.trans (b2.mono HBX.out.size))
  have HPB2 := Lib.hid (HPB1.out.behind b2)
  have HE2 := Lib.hid (HEQ.out H w2 HB2.out v2 o2.rd)
  obtain ⟨a7, c7, m7, -, rfl, -, -, -⟩ := o2.rd.opn
  generalize decide (H = d) = t at *
  clear b2 o2 q0 q1 q2
  go_wp2_with fail
  refine HE2.out.mono ?_
  rintro e w3 ⟨rfl, dr⟩
  have b3 := dr.below (Below.refl w2.heap.size w2)
  have HB3 := Lib.hid (HB2.out.trans (b3.mono HB2.out.size))
  have HPB3 := Lib.hid (HPB2.out.behind b3)
  clear b3 dr HE2
  cases t
  · have HE := Lib.hid (show R = false from HEX.out)
    go_wp2
    go_ret
    exact ⟨by rw [HE.out]; rfl, HB3.out⟩
  have HE := Lib.hid (show R = !q from by rw [HEX.out, Bool.true_and])
  clear HEX
  go_wp2_with fail
  refine (HCF.out w3 HB3.out (fun i w' hi hb z hz => by subst hz; exact HX1.out i hi w' (HPB3.out.behind hb))).mono ?_
  rintro e w4 ⟨rfl, b4⟩
  have HB4 := Lib.hid (HB3.out.trans (b4.mono HB3.out.size))
  clear b4
  go_wp2
  go_ret
  exact ⟨by rw [HE.out]; rfl, HB4.out⟩
/-! ### SuspectGroups -/
/-! ### IsExplanation -/
def ieOk (p : Pln) (d gs : List Int) : Bool := dwOk p d && gsetOk p gs
def ieR (p : Pln) (d gs : List Int) : Bool := ieOk p d gs && expB p d gs
def IeP (p : Pln) (d gs : List Int) (w : World) (e : Ending) (w' : World) : Prop := e = .returned (.tuple #[.bool (ieR p d gs), .bool (ieOk p d gs)]) ∧ Below w.heap.size w w'
theorem IeP.no {p : Pln} {d gs : List Int} {w w' : World} (h : ieOk p d gs = false) (hb : Below w.heap.size w w') : IeP p d gs w (.returned (.tuple #[.bool false, .bool false])) w' := by unfold IeP ieR; rw [h]; exact ⟨rfl, hb⟩
theorem IeP.yes {p : Pln} {d gs : List Int} {w w' : World} {b : Bool} (h : ieOk p d gs = true) (hb : Below w.heap.size w w') (hx : expB p d gs = b) : IeP p d gs w (.returned (.tuple #[.bool b, .bool true])) w' := by unfold IeP ieR; rw [h, hx]; exact ⟨by rw [Bool.true_and], hb⟩
set_option maxHeartbeats 1600000 in
theorem implIe_any (v vd vg : Value) (p : Pln) (d gs : List Int) (w : World) (h : PlnR w v p) (hvd : Rd w vd d) (hv : Rd w vg gs) (hfb : ∀ i : Nat, (lgA p i).fb.length ≤ 1100000) :
    Calls Tryz.prog 22 #[v, vd, vg] w (IeP p d gs w) := by
  have HDW := Lib.hid (fun w' (hb : Below w.heap.size w w') => isDown_any v vd p d w' (h.behind hb) (hvd.belowAll hb) hfb)
  have HGS := Lib.hid (fun w' (hb : Below w.heap.size w w') => isGroupSet_any v vg p gs w' (h.behind hb) (hv.belowAll hb) hfb)
  have HEX := Lib.hid (fun (ho : gsetOk p gs = true) w' (hb : Below w.heap.size w w') => explains_any v vd vg p d gs w' (h.behind hb) (hvd.belowAll hb) (hv.belowAll hb) (gsetOk_parts ho).1 hfb (fun i hi => setOk_bd (gsetOk_parts ho).2 hi) (by have := setOk_len (gsetOk_parts ho).2; have := (plnOk_sz (gsetOk_parts ho).1).2.2.2; omega))
  obtain ⟨u1, u2, u3, rfl, r1, r2, r3, hsm⟩ := h
  have hnet : NetR w (.agg #[u1, u2]) p.n := ⟨u1, u2, rfl, r1, r2, hsm⟩
  obtain ⟨⟨a1, m1, c1, rfl⟩, a2, m2, c2, rfl⟩ := slice_of_net hnet
  obtain ⟨a3, m3, c3, rfl, -, -, -, -⟩ := lgt_opn r3
  obtain ⟨ag, cg, ng, -, rfl, -, -, -⟩ := hv.opn
  obtain ⟨ad, cd, nd, -, rfl, -, -, -⟩ := hvd.opn
  obtain ⟨bx, bc, blt, -⟩ := box_facts w #[.slice a1 m1 c1, .slice a2 m2 c2, .slice a3 m3 c3] 38
  have q0 := bc 0 _ rfl
  have q1 := bc 1 _ rfl
  have q2 := bc 2 _ rfl
  have HBX := Lib.hid bx
  have HNO := Lib.hid (fun (w' : World) (hb : Below w.heap.size w w') (h : ieOk p d gs = false) => IeP.no h hb)
  have HYE := Lib.hid (fun (w' : World) (hb : Below w.heap.size w w') (h : ieOk p d gs = true) => IeP.yes h hb rfl)
  have HOK := Lib.hid (show ieOk p d gs = (dwOk p d && gsetOk p gs) from rfl)
  generalize hK : IeP p d gs w = K at *
  generalize ieOk p d gs = ok at *
  generalize expB p d gs = R at *
  generalize dwOk p d = t1 at *
  clear hv hvd r1 r2 r3 hsm hnet hfb bx bc hK
  refine Calls.mono (show Calls _ _ _ _ (fun e w' => K e w' ∧ True) from ?_) (fun _ _ h => h.1)
  go_enter Tryz.func22, Tryz.ntmps22
  go_wp2_with fail
  generalize w.alloc (.cells #[.slice a1 m1 c1, .slice a2 m2 c2, .slice a3 m3 c3] 38) = w1 at *
  refine (HDW.out w1 HBX.out).mono ?_
  rintro e w2 ⟨rfl, b2⟩
  have e0 := (b2.cell (p := ⟨w.heap.size, 0, none⟩) blt).trans q0
  have e1 := (b2.cell (p := ⟨w.heap.size, 1, none⟩) blt).trans q1
  have e2 := (b2.cell (p := ⟨w.heap.size, 2, none⟩) blt).trans q2
  have HB2 := Lib.hid (HBX.out.trans (b2.mono HBX.out.size))
  have HW2 := Lib.hid (Nat.lt_of_lt_of_le blt b2.size)
  clear b2 q0 q1 q2
  cases t1
  · have HF := Lib.hid (HNO.out w2 HB2.out HOK.out)
    go_wp2
    go_ret2
    exact ⟨HF.out, trivial⟩
  have HG2 := Lib.hid (HGS.out w2 HB2.out)
  cases hgo : gsetOk p gs
  · have HF := Lib.hid (fun w3 hb => HNO.out w3 hb (by rw [HOK.out, hgo]; rfl))
    rw [hgo] at HG2
    clear hgo HGS HEX
    go_wp2_with fail
    refine HG2.out.mono ?_
    rintro e w3 ⟨rfl, b3⟩
    have HB3 := Lib.hid (HB2.out.trans (b3.mono HB2.out.size))
    clear b3
    go_wp2
    go_ret2
    exact ⟨HF.out _ HB3.out, trivial⟩
  have HF := Lib.hid (fun w3 hb => HYE.out w3 hb (by rw [HOK.out, hgo]; rfl))
  have HX := Lib.hid (HEX.out hgo)
  rw [hgo] at HG2
  clear hgo HGS HEX
  go_wp2_with fail
  refine HG2.out.mono ?_
  rintro e w3 ⟨rfl, b3⟩
  have f0 := (b3.cell (p := ⟨w.heap.size, 0, none⟩) HW2.out).trans e0
  have f1 := (b3.cell (p := ⟨w.heap.size, 1, none⟩) HW2.out).trans e1
  have f2 := (b3.cell (p := ⟨w.heap.size, 2, none⟩) HW2.out).trans e2
  have HB3 := Lib.hid (HB2.out.trans (b3.mono HB2.out.size))
  clear b3 e0 e1 e2
  go_wp2_with fail
  refine (HX.out w3 HB3.out).mono ?_
  rintro e w4 ⟨rfl, b4⟩
  have HB4 := Lib.hid (HB3.out.trans (b4.mono HB3.out.size))
  clear b4
  go_wp2
  go_ret2
  exact ⟨HF.out _ HB4.out, trivial⟩
end Go.Proofs.YtmkkdenhjfjmgaaGreat
namespace Go.Proofs.YtmkkdenhjfjmgaaGreat
open Go.RowKit Go.Sort
set_option maxRecDepth 100000

set_option maxHeartbeats 3200000 in
theorem l25Suspects_any (vh : Value) (p : Pln) (d : List Int) (w : World) (hh : Rd w vh (nats (hmks p))) (hd : dwOk p d = true) :
    Calls Tryz.prog 73 #[vh, .int .i64 (dmk p d)] w fun e w' => ∃ v', e = .returned v' ∧ Own w' w.heap.size v' (sps p d) ∧ Below w.heap.size w w' := by
  obtain ⟨ah, ch, nh, HNH, rfl, -, hnh, hch⟩ := hh.opn
  have HA := Lib.hid hch
  have HY := Lib.hid (fun k h1 => @susTo_yes p d k h1)
  have HZ := Lib.hid (fun k h1 => @susTo_no p d k h1)
  have HL := Lib.hid (susTo_len p d)
  have HSB := Lib.hid (fun k : Nat => show susB p d (k : Int) = (decide (¬ (hmks p)[k]?.getD 0 = 0) && decide (anot ((hmks p)[k]?.getD 0) (dmk p d) = 0)) from @susB_spec p d hd (k : Int))
  have HNA := Lib.hid (nats_at (hmks p))
  have hgl : (hmks p).length = nh := by have := HNH.out; rwa [nats_len] at this
  have h23 : nh ≤ 23 := by rw [← hgl]; unfold hmks; rw [List.length_map]; exact (plnOk_sz (dwOk_parts hd).1).2.2.2
  have HT := Lib.hid (show susTo p d nh = sps p d by unfold sps; rw [← hgl]; unfold hmks; rw [List.length_map])
  have HM24 := Lib.hid (fun i => show (hmks p)[i]?.getD 0 < 16777216 from by
    by_cases h : i < (hmks p).length
    · rw [List.getElem?_eq_getElem h]; exact le12 (hmks_mem p _ (List.getElem_mem h)) (plnOk_sz (dwOk_parts hd).1).2.1
    · rw [List.getElem?_eq_none (by omega)]; show (0 : Nat) < _; omega)
  have HON := Lib.hid (own_none w 3)
  have HB0 := Lib.hid ((Below.refl w.heap.size w).alloc (Nat.le_refl _) (.cells #[] 3))
  generalize dmk p d = M at *
  clear hch hh hd hgl
  go_enter Tryz.func73, Tryz.ntmps73
  go_wp2
  generalize w.alloc (.cells #[] 3) = w1 at *
  go_loopw [5, 6] (fun s5 i wr => ∃ k : Nat, k ≤ nh ∧ i = .int .i64 k ∧ Hid (Own wr w.heap.size s5 (susTo p d k)) ∧ Hid (Below w.heap.size w wr)) (fun _ i _ => nh - (intOf i).toNat)
  case atStart => exact ⟨0, Nat.zero_le _, rfl, HON.out, HB0.out⟩
  case round =>
    obtain ⟨k, hk, rfl, HO, HB⟩ := hrel
    obtain ⟨a6, c6, m6, HN6, rfl, _, _, -⟩ := HO.out.rd.opn
    by_cases hlt : k < nh
    · have hltI : (k : Int) < (nh : Int) := by omega
      obtain ⟨b, off, rfl, hbs, hcs⟩ := HA.out (by omega)
      have y0 := (HB.out.cell (p := ⟨b, off + k, none⟩) hbs).trans (hcs k hlt)
      rw [HNA.out k] at y0
      have HSK := Lib.hid (HSB.out k)
      have HYK := Lib.hid (HY.out k)
      have HZK := Lib.hid (HZ.out k)
      have HMK := Lib.hid (HM24.out k)
      have HLK := Lib.hid (show (susTo p d k).length ≤ 4000000 by have := HL.out k; omega)
      have HLH := Lib.hid HB.out.size
      clear hcs
      generalize (hmks p)[k]?.getD 0 = m at *
      generalize hsb : susB p d k = sb at *
      by_cases h0 : m = 0
      · have HE := Lib.hid (HZK.out (by rw [HSK.out, h0]; rfl))
        have hz : ((m : Int) != 0) = false := by simp [h0]
        clear h0 hsb
        go_wp2
        go_roundw
        case rel => exact ⟨k + 1, hlt, by go_num, by rw [HE.out]; exact HO.out, HB.out⟩
        case measure => simp [intOf]; omega
      · have hz : ((m : Int) != 0) = true := by simp; omega
        have hba := bits_anot (b := M) HMK.out
        by_cases hn : anot m M = 0
        · have HE := Lib.hid (HYK.out (by rw [HSK.out, decide_eq_true h0, decide_eq_true hn]; rfl))
          rw [hn] at hba
          have hz0 : m ≠ 0 := h0
          clear h0 hsb hn
          go_wp2_with (at_builtin; go_loud (refine wpList_pushI rfl (.tmp 28) (.tmp 30) 29 rfl Tryz.underlying29 Tryz.infoI w.heap.size _ _ rfl HO.out rfl HLK.out HLH.out ?_); intro v9 w9 o9 g9 l9; have HO9 := Lib.hid o9; have HB9 := Lib.hid (HB.out.grown g9 HB.out.size (fun q hq => (HO.out.lt q hq).1)); clear o9 g9 l9)
          go_roundw
          case rel => exact ⟨k + 1, hlt, by go_num, by rw [HE.out]; exact HO9.out, HB9.out⟩
          case measure => simp [intOf]; omega
        · have HE := Lib.hid (HZK.out (by rw [HSK.out, decide_eq_false hn, Bool.and_false]))
          have hna : (((anot m M : Nat) : Int) == 0) = false := by rw [beq_eq_false_iff_ne]; omega
          generalize anot m M = q at *
          clear h0 hsb hn
          go_wp2
          go_roundw
          case rel => exact ⟨k + 1, hlt, by go_num, by rw [HE.out]; exact HO.out, HB.out⟩
          case measure => simp [intOf]; omega
    · obtain rfl : nh = k := by omega
      have HE := Lib.hid HT.out
      generalize susTo p d nh = out at *
      go_wp2
      go_ret
      exact ⟨_, rfl, by rw [← HE.out]; exact HO.out, HB.out⟩
end Go.Proofs.YtmkkdenhjfjmgaaGreat
