/- Joined: XSpd XSui XSuj XSpe XExp XFst XFsu XFws XMnw XNal XCerP XHld. -/
import Derived.Test.YtmkkdenhjfjmgaaGreatBf09
import Derived.Test.YtmkkdenhjfjmgaaGreatBf10
import Derived.Lib.QuietBelow
import Derived.Test.YtmkkdenhjfjmgaaGreatBf07
import Derived.Test.YtmkkdenhjfjmgaaGreatBf03
import Derived.Test.YtmkkdenhjfjmgaaGreatBf04
import Derived.Test.YtmkkdenhjfjmgaaGreatBf01
import Derived.StillTailTactics
import Derived.Deep.RegionLaw
import Derived.Deep.RegionHeld3
import Derived.Test.YtmkkdenhjfjmgaaGreatBf08
import Derived.Test.YtmkkdenhjfjmgaaGreatBf06
namespace Go.Proofs.YtmkkdenhjfjmgaaGreat
open Go.RowKit Go.Sort
set_option maxRecDepth 100000

set_option maxHeartbeats 1600000 in
theorem l9Find_any (v : Value) (p : Pln) (id : Int) (w : World) (h : PlnR w v p) :
    Calls Tryz.prog 116 #[v, .int .i64 id] w fun e w' => e = .returned (.int .i64 (lix p id)) ∧ Below w.heap.size w w' := by
  obtain ⟨u1, u2, u3, rfl, r1, r2, r3, hsm⟩ := h
  have hnet : NetR w (.agg #[u1, u2]) p.n := ⟨u1, u2, rfl, r1, r2, hsm⟩
  obtain ⟨⟨a1, m1, c1, rfl⟩, a2, m2, c2, rfl⟩ := slice_of_net hnet
  obtain ⟨a3, m3, c3, rfl, HN3, hc3, hm3, ha3⟩ := lgt_opn r3
  have HA := Lib.hid ha3
  have HI := Lib.hid (fun k hk h e => idxG_some (zs := p.ls) (p := fun x => x.id == id) (nil := nilL) (k := k) hk h e)
  have HO := Lib.hid (idxG_none (zs := p.ls) (p := fun x => x.id == id))
  have HM := Lib.hid (fun k hk h e => anyG_more (zs := p.ls) (p := fun x => x.id == id) (nil := nilL) (k := k) hk h e)
  rw [HN3.out] at HI HM
  have HTK := Lib.hid (show p.ls.take m3 = p.ls from List.take_of_length_le (Nat.le_of_eq HN3.out))
  unfold lix
  generalize idxG p.ls (fun x => x.id == id) = r at *
  obtain ⟨bx, bc, blt, -⟩ := box_facts w #[.slice a1 m1 c1, .slice a2 m2 c2, .slice a3 m3 c3] 38
  have q2 := bc 2 _ rfl
  have HBX := Lib.hid bx
  clear bx bc ha3 r1 r2 r3 hsm hnet
  go_enter Tryz.func116, Tryz.ntmps116
  go_wp2_with fail
  generalize w.alloc (.cells #[.slice a1 m1 c1, .slice a2 m2 c2, .slice a3 m3 c3] 38) = w1 at *
  go_loopw [5] (fun i wr => ∃ k : Nat, k ≤ m3 ∧ i = .int .i64 k ∧ Hid ((p.ls.take k).any (fun x => x.id == id) = false) ∧ Hid (Below w1.heap.size w1 wr)) (fun i _ => m3 - (intOf i).toNat)
  case atStart => exact ⟨0, Nat.zero_le _, rfl, by simp [Hid], Below.refl _ _⟩
  case round =>
    obtain ⟨k, hk, rfl, HT, HB⟩ := hrel
    have t2 := (HB.out.cell (p := ⟨w.heap.size, 2, none⟩) blt).trans q2
    by_cases hlt : k < m3
    · have hltI : (k : Int) < (m3 : Int) := by omega
      obtain ⟨b, off, rfl, hbs, hcs⟩ := HA.out (by omega)
      obtain ⟨u, x0, -⟩ := hcs k hlt
      have y0 := ((HBX.out.trans (HB.out.mono HBX.out.size)).cell (p := ⟨b, off + k * 5, none⟩) hbs).trans x0
      have HIK := Lib.hid (HI.out k hlt HT.out)
      have HMK := Lib.hid (HM.out k hlt HT.out)
      clear hcs x0
      generalize p.ls[k]?.getD nilL = x at *
      by_cases he : x.id = id
      · have heb : (x.id == id) = true := by simpa using he
        have HE := Lib.hid (HIK.out heb)
        clear he
        go_wp2
        go_ret
        exact ⟨by rw [HE.out]; rfl, HBX.out.trans (HB.out.mono HBX.out.size)⟩
      · have heb : (x.id == id) = false := by simpa using he
        have HE := Lib.hid (HMK.out heb)
        clear he
        go_wp2
        go_roundw
        case rel => exact ⟨k + 1, hlt, by go_num, HE.out, HB.out⟩
        case measure => simp [intOf]; omega
    · obtain rfl : m3 = k := by omega
      have hh := HT.out
      rw [HTK.out] at hh
      have HE := Lib.hid (HO.out hh)
      clear hh
      go_wp2
      go_ret
      exact ⟨by rw [HE.out]; rfl, HBX.out.trans (HB.out.mono HBX.out.size)⟩
def dwR (p : Pln) (d : List Int) : Nat := if dwOk p d then dmk p d else 0
def DwP (p : Pln) (d : List Int) (w : World) (e : Ending) (w' : World) : Prop := e = .returned (.tuple #[.int .i64 (dwR p d), .bool (dwOk p d)]) ∧ Below w.heap.size w w'
theorem DwP.no {p : Pln} {d : List Int} {w w' : World} (h : dwOk p d = false) (hb : Below w.heap.size w w') : DwP p d w (.returned (.tuple #[.int .i64 0, .bool false])) w' := by unfold DwP dwR; rw [h]; exact ⟨rfl, hb⟩
theorem DwP.yes {p : Pln} {d : List Int} {w w' : World} {m : Nat} (h : dwOk p d = true) (hm : dmk p d = m) (hb : Below w.heap.size w w') : DwP p d w (.returned (.tuple #[.int .i64 (m : Int), .bool true])) w' := by unfold DwP dwR; rw [h, ← hm]; exact ⟨rfl, hb⟩
theorem noL_take {p : Pln} {d : List Int} {k : Nat} (hk : k < d.length) (h : (d.take k).any (noL p) = false) (e : 0 ≤ lix p (d[k]?.getD 0)) : (d.take (k + 1)).any (noL p) = false :=
  anyG_more (nil := 0) hk h (by unfold noL; simpa using e)
theorem noL_stop {p : Pln} {d : List Int} {k : Nat} (hk : k < d.length) (e : lix p (d[k]?.getD 0) < 0) : d.any (noL p) = true := by
  rw [List.any_eq_true]
  refine ⟨d[k], List.getElem_mem hk, ?_⟩
  rw [List.getElem?_eq_getElem hk] at e
  unfold noL; simpa using e
theorem dmk_small {p : Pln} {d : List Int} {k : Nat} (hp : plnOk p = true) (h : (d.take k).any (noL p) = false) : dmk p (d.take k) < 16777216 := by
  refine le12 (dmk_lt' (fun x hx => ?_)) (plnOk_sz hp).2.1
  rw [List.any_eq_false] at h
  have := h x hx
  unfold noL at this
  simp at this
  exact this
set_option maxHeartbeats 3200000 in
theorem l25Down_any (v vg : Value) (p : Pln) (d : List Int) (w : World) (h : PlnR w v p) (hv : Rd w vg d) (hfb : ∀ i : Nat, (lgA p i).fb.length ≤ 1100000) :
    Calls Tryz.prog 68 #[v, vg] w (DwP p d w) := by
  have HVP := Lib.hid (fun w' (hb : Below w.heap.size w w') => l9Good_any v p w' (h.behind hb) hfb)
  have HRI := Lib.hid (fun w' (hb : Below w.heap.size w w') => l1Rising1_any vg d w' (hv.belowAll hb))
  have HFI := Lib.hid (fun id w' (hb : Below w.heap.size w w') => l9Find_any v p id w' (h.behind hb))
  have HBD := Lib.hid (lix_bd p)
  obtain ⟨u1, u2, u3, rfl, r1, r2, r3, hsm⟩ := h
  have hnet : NetR w (.agg #[u1, u2]) p.n := ⟨u1, u2, rfl, r1, r2, hsm⟩
  obtain ⟨⟨a1, m1, c1, rfl⟩, a2, m2, c2, rfl⟩ := slice_of_net hnet
  obtain ⟨a3, m3, c3, rfl, -, -, -, -⟩ := lgt_opn r3
  obtain ⟨ag, cg, ng, HNG, rfl, -, hng, hcg⟩ := hv.opn
  have HCG := Lib.hid hcg
  obtain ⟨bx, bc, blt, -⟩ := box_facts w #[.slice a1 m1 c1, .slice a2 m2 c2, .slice a3 m3 c3] 38
  have q0 := bc 0 _ rfl
  have q1 := bc 1 _ rfl
  have q2 := bc 2 _ rfl
  have HBX := Lib.hid bx
  have HNO := Lib.hid (fun (w' : World) (hb : Below w.heap.size w w') (h : dwOk p d = false) => DwP.no h hb)
  have HYE := Lib.hid (fun (w' : World) (m : Nat) (hb : Below w.heap.size w w') (h : dwOk p d = true) (hm : dmk p d = m) => DwP.yes h hm hb)
  have HOK := Lib.hid (@dwOk_spec p d)
  have HTK := Lib.hid (fun k hk => @dmk_take p d k hk)
  have HNT := Lib.hid (fun k hk => @noL_take p d k hk)
  have HNS := Lib.hid (fun k hk => @noL_stop p d k hk)
  have HSM := Lib.hid (fun k => @dmk_small p d k)
  have H12 := Lib.hid (fun (h : plnOk p = true) => (plnOk_sz h).2.1)
  have HTE := Lib.hid (show d.take ng = d from List.take_of_length_le (Nat.le_of_eq HNG.out))
  rw [HNG.out] at HTK HNT HNS
  generalize hK : DwP p d w = K at *
  generalize dwOk p d = ok at *
  clear hv hcg r1 r2 r3 hsm hnet hfb bx bc hK
  refine Calls.mono (show Calls _ _ _ _ (fun e w' => K e w' ∧ True) from ?_) (fun _ _ h => h.1)
  go_enter Tryz.func68, Tryz.ntmps68
  go_wp2_with fail
  generalize w.alloc (.cells #[.slice a1 m1 c1, .slice a2 m2 c2, .slice a3 m3 c3] 38) = w1 at *
  have HV1 := Lib.hid (HVP.out w1 HBX.out)
  cases hok : plnOk p
  · have HF := Lib.hid (fun w' hb => HNO.out w' hb (by rw [HOK.out, hok]; rfl))
    rw [hok] at HV1
    clear hok
    refine HV1.out.mono ?_
    rintro e w2 ⟨rfl, b2⟩
    have HB2 := Lib.hid (HBX.out.trans (b2.mono HBX.out.size))
    clear b2
    go_wp2
    go_ret2
    exact ⟨HF.out _ HB2.out, trivial⟩
  rw [hok] at HV1
  refine HV1.out.mono ?_
  rintro e w2 ⟨rfl, b2⟩
  have e0 := (b2.cell (p := ⟨w.heap.size, 0, none⟩) blt).trans q0
  have e1 := (b2.cell (p := ⟨w.heap.size, 1, none⟩) blt).trans q1
  have e2 := (b2.cell (p := ⟨w.heap.size, 2, none⟩) blt).trans q2
  have HB2 := Lib.hid (HBX.out.trans (b2.mono HBX.out.size))
  have HLT2 := Lib.hid (Nat.lt_of_lt_of_le blt b2.size)
  have HR2 := Lib.hid (HRI.out w2 HB2.out)
  have h12 := H12.out hok
  clear b2 q0 q1 q2
  cases hris : ris1 d
  · have HF := Lib.hid (fun w' hb => HNO.out w' hb (by rw [HOK.out, hok, hris]; rfl))
    rw [hris] at HR2
    clear hris hok
    go_wp2_with fail
    refine HR2.out.mono ?_
    rintro e w3 ⟨rfl, b3⟩
    have HB3 := Lib.hid (HB2.out.trans (b3.mono HB2.out.size))
    clear b3
    go_wp2
    go_ret2
    exact ⟨HF.out _ HB3.out, trivial⟩
  have HOK2 := Lib.hid (show ok = !(d.any (noL p)) by rw [HOK.out, hok, hris]; rfl)
  have HSM2 := Lib.hid (fun k => HSM.out k hok)
  rw [hris] at HR2
  clear hris hok HOK HSM
  go_wp2_with fail
  refine HR2.out.mono ?_
  rintro e w3 ⟨rfl, b3⟩
  have f0 := (b3.cell (p := ⟨w.heap.size, 0, none⟩) HLT2.out).trans e0
  have f1 := (b3.cell (p := ⟨w.heap.size, 1, none⟩) HLT2.out).trans e1
  have f2 := (b3.cell (p := ⟨w.heap.size, 2, none⟩) HLT2.out).trans e2
  have HB3 := Lib.hid (HB2.out.trans (b3.mono HB2.out.size))
  have HLT3 := Lib.hid (Nat.lt_of_lt_of_le HLT2.out b3.size)
  clear b3 e0 e1 e2
  go_wp2
  go_loopw [6, 7, 8] (fun s i _ wr => ∃ k : Nat, k ≤ ng ∧ i = .int .i64 k ∧ s = .int .i64 (dmk p (d.take k)) ∧ Hid ((d.take k).any (noL p) = false) ∧ Hid (Below w3.heap.size w3 wr)) (fun _ i _ _ => ng - (intOf i).toNat)
  case atStart => exact ⟨0, Nat.zero_le _, rfl, rfl, by simp [Hid], Below.refl _ _⟩
  case round =>
    obtain ⟨k, hk, rfl, rfl, HT, HB⟩ := hrel
    have HBW := Lib.hid (HB3.out.trans (HB.out.mono HB3.out.size))
    have g0 := (HB.out.cell (p := ⟨w.heap.size, 0, none⟩) HLT3.out).trans f0
    have g1 := (HB.out.cell (p := ⟨w.heap.size, 1, none⟩) HLT3.out).trans f1
    have g2 := (HB.out.cell (p := ⟨w.heap.size, 2, none⟩) HLT3.out).trans f2
    by_cases hlt : k < ng
    · have hltI : (k : Int) < (ng : Int) := by omega
      obtain ⟨b, off, rfl, hbs, hcs⟩ := HCG.out (by omega)
      have y0 := (HBW.out.cell (p := ⟨b, off + k, none⟩) hbs).trans (hcs k hlt)
      have HTS := Lib.hid (HTK.out k hlt)
      have HNX := Lib.hid (HNT.out k hlt HT.out)
      have HST := Lib.hid (HNS.out k hlt)
      have HM24 := Lib.hid (HSM2.out k HT.out)
      clear hcs
      generalize d[k]?.getD 0 = x at *
      generalize dmk p (d.take k) = M at *
      have HFX := Lib.hid (fun w' (hb : Below wr.heap.size wr w') => HFI.out x w' (HBW.out.trans (hb.mono HBW.out.size)))
      have j0 := rg g0
      have j1 := rg g1
      have j2 := rg g2
      have j3 := rg y0
      have HBX1 := Lib.hid (HBD.out x)
      generalize lix p x = r at *
      by_cases hneg : r < 0
      · have hn1 : decide (r < 0) = true := decide_eq_true hneg
        have HF := Lib.hid (fun w' hb => HNO.out w' hb (by rw [HOK2.out, HST.out hneg]; rfl))
        clear hneg
        go_wp2
        clear y0 g0 g1 g2
        refine wp_region_quiet_below (by kernel_rfl) (by kernel_rfl) ?_
        repeat (go_big_quiet_step (first | (go_at_call 116; exact Calls.regrown_of (HFX.out _ (below_regrown _ _ _)))))
        refine wpQuiet_nil ?_
        rintro _ ⟨⟨dq, osq⟩, rfl⟩
        have HB4 := Lib.hid (HBW.out.trans ((below_regrown wr dq osq).mono HBW.out.size))
        go_wp2
        go_ret2
        exact ⟨HF.out _ HB4.out, trivial⟩
      · have hn1 : decide (r < 0) = false := decide_eq_false hneg
        obtain ⟨j, rfl⟩ : ∃ j : Nat, r = (j : Int) := ⟨r.toNat, by omega⟩
        have HNX2 := Lib.hid (HNX.out (Int.natCast_nonneg j))
        rw [Int.toNat_natCast] at HTS
        have hj24 : j < 24 := by have := HBX1.out.2; omega
        have hsh := shl_one (k := j) hj24
        have hp24 := pow_lt24 (k := j) hj24
        generalize (2 : Nat) ^ j = P at *
        have hor := bits_or HM24.out hp24
        clear hneg
        go_wp2
        clear y0 g0 g1 g2
        refine wp_region_quiet_below (by kernel_rfl) (by kernel_rfl) ?_
        repeat (go_big_quiet_step (first | (go_at_call 116; exact Calls.regrown_of (HFX.out _ (below_regrown _ _ _)))))
        refine wpQuiet_nil ?_
        rintro _ ⟨⟨dq, osq⟩, rfl⟩
        have HB4 := Lib.hid (HB.out.trans ((below_regrown wr dq osq).mono HB.out.size))
        go_wp2
        go_roundw
        case rel => exact ⟨k + 1, hlt, by go_num, by rw [HTS.out], HNX2.out, HB4.out⟩
        case measure => simp [intOf]; omega
    · obtain rfl : ng = k := by omega
      have hh := HT.out
      rw [HTE.out] at hh ⊢
      have HF := Lib.hid (HYE.out wr _ HBW.out (by rw [HOK2.out, hh]; rfl) rfl)
      clear hh
      go_wp2
      go_ret2
      exact ⟨HF.out, trivial⟩
end Go.Proofs.YtmkkdenhjfjmgaaGreat
namespace Go.Proofs.YtmkkdenhjfjmgaaGreat
open Go.RowKit Go.Sort
set_option maxRecDepth 100000

theorem rd_one {W : World} {c : Nat} {n : Int} (h : W.cell? ⟨c, 0, none⟩ = some (.int .i64 n)) : Rd W (.slice (some ⟨c, 0, none⟩) 1 1) [n] :=
  .inr ⟨c, 0, 1, rfl, Nat.le_refl _, by unfold maxLen; omega, World.block_lt_of_cell? _ _ h, one_cell h⟩
theorem bd_one {g m : Nat} (h : g < m) : ∀ i : Nat, i < [(g : Int)].length → 0 ≤ [(g : Int)][i]?.getD 0 ∧ [(g : Int)][i]?.getD 0 < (m : Nat) := fun i hi => by
  have : i = 0 := by simpa using hi
  subst this
  show (0 : Int) ≤ (g : Int) ∧ (g : Int) < (m : Nat)
  omega
set_option maxHeartbeats 3200000 in
theorem suspects_any (v vg : Value) (p : Pln) (d : List Int) (w : World) (h : PlnR w v p) (hv : Rd w vg d) (hd : dwOk p d = true) (hfb : ∀ i : Nat, (lgA p i).fb.length ≤ 1100000) :
    Calls Tryz.prog 74 #[v, vg] w fun e w' => ∃ v', e = .returned v' ∧ Own w' w.heap.size v' (sps p d) ∧ Below w.heap.size w w' := by
  have hp := (dwOk_parts hd).1
  have HHT := Lib.hid (fun (g : Nat) (hg : g < (grps p.n).length) w' (hb : Below w.heap.size w w') vl (hl : Rd w' vl [(g : Int)]) => hits_any v vl p [(g : Int)] w' (h.behind hb) hl (plnOk_sz hp).2.2.1 (plnOk_sz hp).2.1 hfb (bd_one hg) (by simp))
  have HCM := Lib.hid (fun (xs : List Int) (hl : xs.length ≤ 1100000) w' (hb : Below w.heap.size w w') vx (hx : Rd w' vx xs) => common_any vx vg xs d w' hx (hv.belowAll hb) hl)
  obtain ⟨u1, u2, u3, rfl, r1, r2, r3, hsm⟩ := h
  have hnet : NetR w (.agg #[u1, u2]) p.n := ⟨u1, u2, rfl, r1, r2, hsm⟩
  have HGG := Lib.hid (fun w' (hb : Below w.heap.size w w') => groups_any u1 u2 p.n w' (hnet.behind hb) (by have := (plnOk_sz hp).2.2.1; omega))
  obtain ⟨⟨a1, m1, c1, rfl⟩, a2, m2, c2, rfl⟩ := slice_of_net hnet
  obtain ⟨a3, m3, c3, rfl, -, -, -, -⟩ := lgt_opn r3
  obtain ⟨ag, cg, ng, -, rfl, -, -, -⟩ := hv.opn
  have HY := Lib.hid (fun k h1 => @susTo_yes p d k h1)
  have HZ := Lib.hid (fun k h1 => @susTo_no p d k h1)
  have HL := Lib.hid (susTo_len p d)
  have HSN := Lib.hid (fun k h1 => @susB_none p d k h1)
  have HSI := Lib.hid (fun (g : Int) h1 => @susB_impl p d hp g h1)
  have HLH := Lib.hid (fun gs => Nat.le_trans (hitTo_len p gs p.ls.length) (plnOk_sz hp).2.1)
  obtain ⟨m, HM⟩ : ∃ m, Hid ((grps p.n).length = m) := ⟨_, rfl⟩
  have hm23 : m ≤ 23 := by have := (plnOk_sz hp).2.2.2; have := HM.out; omega
  have HT := Lib.hid (show susTo p d m = sps p d by unfold sps; rw [HM.out])
  rw [HM.out] at HHT
  clear hv r1 r2 r3 hsm hnet hfb hd hp
  obtain ⟨bx, bc, blt, -⟩ := box_facts w #[.slice a1 m1 c1, .slice a2 m2 c2, .slice a3 m3 c3] 38
  have q0 := bc 0 _ rfl
  have q1 := bc 1 _ rfl
  have q2 := bc 2 _ rfl
  have hs1 : (w.alloc (.cells #[.slice a1 m1 c1, .slice a2 m2 c2, .slice a3 m3 c3] 38)).heap.size = w.heap.size + 1 := by simp
  have HR0 := Lib.hid (show Own ((w.alloc (.cells #[.slice a1 m1 c1, .slice a2 m2 c2, .slice a3 m3 c3] 38)).alloc (.cells #[] 3)) (w.heap.size + 1) (.slice (some ⟨w.heap.size + 1, 0, none⟩) 0 0) [] by rw [← hs1]; exact (own_none _ 3))
  have HB0 := Lib.hid (bx.alloc bx.size (.cells #[] 3))
  have e0 := ((Below.refl _ _).alloc (Nat.le_refl _) (.cells #[] 3)).cell (p := ⟨w.heap.size, 0, none⟩) blt
  have e1 := ((Below.refl _ _).alloc (Nat.le_refl _) (.cells #[] 3)).cell (p := ⟨w.heap.size, 1, none⟩) blt
  have e2 := ((Below.refl _ _).alloc (Nat.le_refl _) (.cells #[] 3)).cell (p := ⟨w.heap.size, 2, none⟩) blt
  rw [q0] at e0
  rw [q1] at e1
  rw [q2] at e2
  clear bx bc hs1 q0 q1 q2
  go_enter Tryz.func74, Tryz.ntmps74
  go_wp2_with fail
  generalize hww : (w.alloc (.cells #[.slice a1 m1 c1, .slice a2 m2 c2, .slice a3 m3 c3] 38)).alloc (.cells #[] 3) = w2 at *
  have hlt2 : w.heap.size < w2.heap.size := World.block_lt_of_cell? _ _ e0
  clear hww
  refine (HGG.out w2 HB0.out).mono ?_
  rintro e w3 ⟨v3, rfl, o3, b3⟩
  have f0 := (b3.cell (p := ⟨w.heap.size, 0, none⟩) hlt2).trans e0
  have f1 := (b3.cell (p := ⟨w.heap.size, 1, none⟩) hlt2).trans e1
  have f2 := (b3.cell (p := ⟨w.heap.size, 2, none⟩) hlt2).trans e2
  obtain ⟨a5, n5, c5, rfl, HN5, -, hn5, -⟩ := ssD_opn o3.rd
  obtain rfl : m = n5 := by have := HM.out; have := HN5.out; omega
  have HB3 := Lib.hid (HB0.out.trans (b3.mono HB0.out.size))
  have HR3 := Lib.hid (HR0.out.belowAll b3)
  clear b3 o3 HR0 HB0 HGG e0 e1 e2
  go_wp2
  go_loopw [5, 6, 7, 13] (fun s5 _ _ i wr => ∃ (k : Nat), k ≤ m ∧ i = .int .i64 k ∧ Hid (Own wr (w.heap.size + 1) s5 (susTo p d k)) ∧ Hid (Below w.heap.size w wr) ∧ wr.cell? ⟨w.heap.size, 0, none⟩ = some (.slice a1 m1 c1) ∧ wr.cell? ⟨w.heap.size, 1, none⟩ = some (.slice a2 m2 c2) ∧ wr.cell? ⟨w.heap.size, 2, none⟩ = some (.slice a3 m3 c3)) (fun _ _ _ i _ => m - (intOf i).toNat)
  case atStart => exact ⟨0, Nat.zero_le _, rfl, HR3.out, HB3.out, f0, f1, f2⟩
  case round =>
    clear f0 f1 f2
    obtain ⟨k, hk, rfl, HO, HB, g0, g1, g2⟩ := hrel
    obtain ⟨a6, c6, m6, HN6, rfl, _, _, -⟩ := HO.out.rd.opn
    by_cases hlt : k < m
    · have hltI : (k : Int) < (m : Int) := by omega
      obtain ⟨bf, cf, blf, -⟩ := box_facts wr #[.int .i64 k] 3
      have z0 := cf 0 _ rfl
      have hwl := World.block_lt_of_cell? _ _ g0
      have k0 := (bf.cell (p := ⟨w.heap.size, 0, none⟩) hwl).trans g0
      have k1 := (bf.cell (p := ⟨w.heap.size, 1, none⟩) hwl).trans g1
      have k2 := (bf.cell (p := ⟨w.heap.size, 2, none⟩) hwl).trans g2
      have HBF := Lib.hid (HB.out.trans (bf.mono HB.out.size))
      have HOF := Lib.hid (HO.out.belowAll bf)
      have HWF := Lib.hid (show w.heap.size < (wr.alloc (.cells #[.int .i64 k] 3)).heap.size from Nat.lt_of_lt_of_le hwl bf.size)
      have HH := Lib.hid (HHT.out k hlt _ HBF.out _ (rd_one z0))
      have HYK := Lib.hid (HY.out k)
      have HZK := Lib.hid (HZ.out k)
      have HSNK := Lib.hid (HSN.out k)
      have HSIK := Lib.hid (HSI.out k)
      have HLK := Lib.hid (show (susTo p d k).length ≤ 4000000 by have := HL.out k; omega)
      have HLHK := Lib.hid (show (hts p [(k : Int)]).length ≤ 12 from HLH.out _)
      clear bf cf z0 blf
      generalize hts p [(k : Int)] = H at *
      generalize hsb : susB p d k = sb at *
      clear hsb
      go_wp2_with fail
      generalize wr.alloc (.cells #[.int .i64 k] 3) = w4 at *
      refine HH.out.mono ?_
      rintro e w5 ⟨v5, rfl, o5, b5⟩
      have y0 := (b5.cell (p := ⟨w.heap.size, 0, none⟩) HWF.out).trans k0
      have y1 := (b5.cell (p := ⟨w.heap.size, 1, none⟩) HWF.out).trans k1
      have y2 := (b5.cell (p := ⟨w.heap.size, 2, none⟩) HWF.out).trans k2
      have HB5 := Lib.hid (HBF.out.trans (b5.mono HBF.out.size))
      have HO5 := Lib.hid (HOF.out.belowAll b5)
      have HW5 := Lib.hid (Nat.lt_of_lt_of_le HWF.out b5.size)
      have HC5 := Lib.hid (HCM.out H (by have := HLHK.out; omega) w5 HB5.out v5 o5.rd)
      obtain ⟨a7, c7, m7, HN7, rfl, -, -, -⟩ := o5.rd.opn
      clear b5 o5 HH k0 k1 k2
      by_cases h0 : 0 < m7
      · have d1 : decide (0 < (m7 : Int)) = true := decide_eq_true (by omega)
        have d2 : decide (0 < m7) = true := decide_eq_true h0
        have HSV := Lib.hid (HSIK.out (by rw [HN7.out]; exact h0))
        rw [HN7.out] at HSV
        generalize ust (cmn H d) = C at *
        clear h0
        go_wp2_with fail
        refine HC5.out.mono ?_
        rintro e w6 ⟨v6, rfl, o6, b6⟩
        have x0 := (b6.cell (p := ⟨w.heap.size, 0, none⟩) HW5.out).trans y0
        have x1 := (b6.cell (p := ⟨w.heap.size, 1, none⟩) HW5.out).trans y1
        have x2 := (b6.cell (p := ⟨w.heap.size, 2, none⟩) HW5.out).trans y2
        have HB6 := Lib.hid (HB5.out.trans (b6.mono HB5.out.size))
        have HO6 := Lib.hid (HO5.out.belowAll b6)
        obtain ⟨a8, c8, m8, HN8, rfl, -, -, -⟩ := o6.rd.opn
        rw [HN8.out] at HSV
        clear b6 o6 HC5 y0 y1 y2
        by_cases he : m8 = m7
        · have d3 : ((m8 : Int) == (m7 : Int)) = true := by rw [beq_iff_eq]; omega
          have HE := Lib.hid (HYK.out (HSV.out.trans (decide_eq_true he)))
          clear he
          go_wp2_with (at_builtin; go_loud (refine wpList_pushI rfl (.tmp 32) (.tmp 34) 29 rfl Tryz.underlying29 Tryz.infoI (w.heap.size + 1) _ _ rfl HO6.out rfl HLK.out (World.block_lt_of_cell? _ _ x0) ?_); intro v9 w9 o9 g9 l9; have HO9 := Lib.hid o9; have HB9 := Lib.hid (HB6.out.grown g9 HB6.out.size (fun q hq => Nat.le_of_succ_le (HO6.out.lt q hq).1)); have n0 := (g9.cell_far ⟨w.heap.size, 0, none⟩ (World.block_lt_of_cell? _ _ x0) (fun e => Nat.lt_irrefl _ (HO6.out.lt _ e.symm).1)).trans x0; have n1 := (g9.cell_far ⟨w.heap.size, 1, none⟩ (World.block_lt_of_cell? _ _ x1) (fun e => Nat.lt_irrefl _ (HO6.out.lt _ e.symm).1)).trans x1; have n2 := (g9.cell_far ⟨w.heap.size, 2, none⟩ (World.block_lt_of_cell? _ _ x2) (fun e => Nat.lt_irrefl _ (HO6.out.lt _ e.symm).1)).trans x2; clear o9 g9 l9)
          go_roundw
          case rel => exact ⟨k + 1, hlt, by go_num, by rw [HE.out]; exact HO9.out, HB9.out, n0, n1, n2⟩
          case measure => simp [intOf]; omega
        · have d3 : ((m8 : Int) == (m7 : Int)) = false := by rw [beq_eq_false_iff_ne]; omega
          have HE := Lib.hid (HZK.out (HSV.out.trans (decide_eq_false he)))
          clear he
          go_wp2
          go_roundw
          case rel => exact ⟨k + 1, hlt, by go_num, by rw [HE.out]; exact HO6.out, HB6.out, x0, x1, x2⟩
          case measure => simp [intOf]; omega
      · have d1 : decide (0 < (m7 : Int)) = false := decide_eq_false (by omega)
        have d2 : decide (0 < m7) = false := decide_eq_false h0
        have HE := Lib.hid (HZK.out (HSNK.out (by rw [HN7.out]; exact h0)))
        clear h0
        go_wp2
        go_roundw
        case rel => exact ⟨k + 1, hlt, by go_num, by rw [HE.out]; exact HO5.out, HB5.out, y0, y1, y2⟩
        case measure => simp [intOf]; omega
    · obtain rfl : m = k := by omega
      have HE := Lib.hid HT.out
      generalize susTo p d m = out at *
      go_wp2
      go_ret
      exact ⟨_, rfl, by rw [← HE.out]; exact HO.out.mono (Nat.le_succ _), HB.out⟩
end Go.Proofs.YtmkkdenhjfjmgaaGreat
namespace Go.Proofs.YtmkkdenhjfjmgaaGreat
open Go.RowKit Go.Sort
set_option maxRecDepth 100000

/-! ### SuspectGroups -/
def sgR (p : Pln) (d : List Int) : List Int := if dwOk p d then sps p d else []
theorem sgR_len (p : Pln) (d : List Int) : (sgR p d).length ≤ 23 := by
  unfold sgR
  split
  · rename_i h
    have h1 := (plnOk_sz (dwOk_parts h).1).2.2.2
    exact Nat.le_trans (susTo_len _ _ _) h1
  · simp
def SgP (p : Pln) (d : List Int) (w : World) (e : Ending) (w' : World) : Prop := ∃ v, e = .returned (.tuple #[v, .bool (dwOk p d)]) ∧ Ofr w' w.heap.size (inD (sgR p d)) v ∧ Below w.heap.size w w'
set_option maxHeartbeats 1600000 in
theorem implSus_any (v vg : Value) (p : Pln) (d : List Int) (w : World) (h : PlnR w v p) (hv : Rd w vg d) (hfb : ∀ i : Nat, (lgA p i).fb.length ≤ 1100000) :
    Calls Tryz.prog 29 #[v, vg] w (SgP p d w) := by
  have HGS := Lib.hid (fun w' (hb : Below w.heap.size w w') => isDown_any v vg p d w' (h.behind hb) (hv.belowAll hb) hfb)
  have HHI := Lib.hid (fun (ho : dwOk p d = true) w' (hb : Below w.heap.size w w') => suspects_any v vg p d w' (h.behind hb) (hv.belowAll hb) ho hfb)
  obtain ⟨u1, u2, u3, rfl, r1, r2, r3, hsm⟩ := h
  have hnet : NetR w (.agg #[u1, u2]) p.n := ⟨u1, u2, rfl, r1, r2, hsm⟩
  obtain ⟨⟨a1, m1, c1, rfl⟩, a2, m2, c2, rfl⟩ := slice_of_net hnet
  obtain ⟨a3, m3, c3, rfl, -, -, -, -⟩ := lgt_opn r3
  obtain ⟨ag, cg, ng, -, rfl, -, -, -⟩ := hv.opn
  obtain ⟨bx, bc, blt, -⟩ := box_facts w #[.slice a1 m1 c1, .slice a2 m2 c2, .slice a3 m3 c3] 38
  have q0 := bc 0 _ rfl
  have q1 := bc 1 _ rfl
  have q2 := bc 2 _ rfl
  have HBX := Lib.hid bx
  have HRY := Lib.hid (show dwOk p d = true → sgR p d = sps p d from fun e => by unfold sgR; rw [if_pos e])
  have HRN := Lib.hid (show dwOk p d = false → sgR p d = [] from fun e => by unfold sgR; rw [e]; rfl)
  unfold SgP
  generalize sgR p d = R at *
  generalize sps p d = H at *
  clear hv r1 r2 r3 hsm hnet hfb bx bc
  go_enter Tryz.func29, Tryz.ntmps29
  go_wp2_with fail
  generalize w.alloc (.cells #[.slice a1 m1 c1, .slice a2 m2 c2, .slice a3 m3 c3] 38) = w1 at *
  have HV1 := Lib.hid (HGS.out w1 HBX.out)
  cases hok : dwOk p d
  · have HE := Lib.hid (HRN.out hok)
    rw [hok] at HV1
    have HOK := Lib.hid hok
    clear HGS HHI HRY HRN hok
    refine HV1.out.mono ?_
    rintro e w2 ⟨rfl, b2⟩
    have HB2 := Lib.hid (HBX.out.trans (b2.mono HBX.out.size))
    clear b2
    go_wp2
    go_ret2
    exact ⟨_, by rw [HOK.out]; rfl, by rw [HE.out]; exact Ofr.nil _ _ _, HB2.out⟩
  have HE := Lib.hid (HRY.out hok)
  have HH := Lib.hid (HHI.out hok)
  rw [hok] at HV1
  have HOK := Lib.hid hok
  clear HGS HHI HRY HRN hok
  refine HV1.out.mono ?_
  rintro e w2 ⟨rfl, b2⟩
  have e0 := (b2.cell (p := ⟨w.heap.size, 0, none⟩) blt).trans q0
  have e1 := (b2.cell (p := ⟨w.heap.size, 1, none⟩) blt).trans q1
  have e2 := (b2.cell (p := ⟨w.heap.size, 2, none⟩) blt).trans q2
  have HB2 := Lib.hid (HBX.out.trans (b2.mono HBX.out.size))
  clear b2 q0 q1 q2
  go_wp2_with fail
  refine (HH.out w2 HB2.out).mono ?_
  rintro e w3 ⟨v3, rfl, o3, b3⟩
  obtain ⟨a5, c5, n5, -, rfl, -, -, -⟩ := o3.rd.opn
  have HB3 := Lib.hid (HB2.out.trans (b3.mono HB2.out.size))
  have HO3 := Lib.hid (o3.mono HB2.out.size)
  clear b3 o3
  go_wp2
  go_ret2
  exact ⟨_, by rw [HOK.out]; rfl, by rw [HE.out]; exact HO3.out.ofr, HB3.out⟩
/-! ### IsExplanation -/
def ieOk (p : Pln) (d gs : List Int) : Bool := dwOk p d && gsetOk p gs
def ieR (p : Pln) (d gs : List Int) : Bool := ieOk p d gs && expB p d gs
def IeP (p : Pln) (d gs : List Int) (w : World) (e : Ending) (w' : World) : Prop := e = .returned (.tuple #[.bool (ieR p d gs), .bool (ieOk p d gs)]) ∧ Below w.heap.size w w'
theorem IeP.no {p : Pln} {d gs : List Int} {w w' : World} (h : ieOk p d gs = false) (hb : Below w.heap.size w w') : IeP p d gs w (.returned (.tuple #[.bool false, .bool false])) w' := by unfold IeP ieR; rw [h]; exact ⟨rfl, hb⟩
theorem IeP.yes {p : Pln} {d gs : List Int} {w w' : World} {b : Bool} (h : ieOk p d gs = true) (hb : Below w.heap.size w w') (hx : expB p d gs = b) : IeP p d gs w (.returned (.tuple #[.bool b, .bool true])) w' := by unfold IeP ieR; rw [h, hx]; exact ⟨by rw [Bool.true_and], hb⟩
end Go.Proofs.YtmkkdenhjfjmgaaGreat
namespace Go.Proofs.YtmkkdenhjfjmgaaGreat
open Go.RowKit Go.Sort
set_option maxRecDepth 100000

set_option maxHeartbeats 3200000 in
theorem l25Suspects_any (vh : Value) (p : Pln) (d : List Int) (w : World) (hh : Rd w vh (nats (hmks p))) (hd : dwOk p d = true) :
    Calls Tryz.prog 73 #[vh, .int .i64 (dmk p d)] w fun e w' => ∃ v', e = .returned v' ∧ Own w' w.heap.size v' (sps p d) ∧ Below w.heap.size w w' := by
  obtain ⟨ah, ch, nh, HNH, rfl, -, hnh, hch⟩ := hh.opn
  have HA := Lib.hid hch
  have HY := Lib.hid (fun k h1 => @susTo_yes p d k h1)
  have HZ := Lib.hid (fun k h1 => @susTo_no p d k h1)
  have HL := Lib.hid (susTo_len p d)
  have HSB := Lib.hid (fun k : Nat => show susB p d (k : Int) = (decide (¬ (hmks p)[k]?.getD 0 = 0) && decide (anot ((hmks p)[k]?.getD 0) (dmk p d) = 0)) from @susB_spec p d hd (k : Int))
  have HNA := Lib.hid (nats_at (hmks p))
  have hgl : (hmks p).length = nh := by have := HNH.out; rwa [nats_len] at this
  have h23 : nh ≤ 23 := by rw [← hgl]; unfold hmks; rw [List.length_map]; exact (plnOk_sz (dwOk_parts hd).1).2.2.2
  have HT := Lib.hid (show susTo p d nh = sps p d by unfold sps; rw [← hgl]; unfold hmks; rw [List.length_map])
  have HM24 := Lib.hid (fun i => show (hmks p)[i]?.getD 0 < 16777216 from by
    by_cases h : i < (hmks p).length
    · rw [List.getElem?_eq_getElem h]; exact le12 (hmks_mem p _ (List.getElem_mem h)) (plnOk_sz (dwOk_parts hd).1).2.1
    · rw [List.getElem?_eq_none (by omega)]; show (0 : Nat) < _; omega)
  have HON := Lib.hid (own_none w 3)
  have HB0 := Lib.hid ((Below.refl w.heap.size w).alloc (Nat.le_refl _) (.cells #[] 3))
  generalize dmk p d = M at *
  clear hch hh hd hgl
  go_enter Tryz.func73, Tryz.ntmps73
  go_wp2
  generalize w.alloc (.cells #[] 3) = w1 at *
  go_loopw [5, 6] (fun s5 i wr => ∃ k : Nat, k ≤ nh ∧ i = .int .i64 k ∧ Hid (Own wr w.heap.size s5 (susTo p d k)) ∧ Hid (Below w.heap.size w wr)) (fun _ i _ => nh - (intOf i).toNat)
  case atStart => exact ⟨0, Nat.zero_le _, rfl, HON.out, HB0.out⟩
  case round =>
    obtain ⟨k, hk, rfl, HO, HB⟩ := hrel
    obtain ⟨a6, c6, m6, HN6, rfl, _, _, -⟩ := HO.out.rd.opn
    by_cases hlt : k < nh
    · have hltI : (k : Int) < (nh : Int) := by omega
      obtain ⟨b, off, rfl, hbs, hcs⟩ := HA.out (by omega)
      have y0 := (HB.out.cell (p := ⟨b, off + k, none⟩) hbs).trans (hcs k hlt)
      rw [HNA.out k] at y0
      have HSK := Lib.hid (HSB.out k)
      have HYK := Lib.hid (HY.out k)
      have HZK := Lib.hid (HZ.out k)
      have HMK := Lib.hid (HM24.out k)
      have HLK := Lib.hid (show (susTo p d k).length ≤ 4000000 by have := HL.out k; omega)
      have HLH := Lib.hid HB.out.size
      clear hcs
      generalize (hmks p)[k]?.getD 0 = m at *
      generalize hsb : susB p d k = sb at *
      by_cases h0 : m = 0
      · have HE := Lib.hid (HZK.out (by rw [HSK.out, h0]; rfl))
        have hz : ((m : Int) != 0) = false := by simp [h0]
        clear h0 hsb
        go_wp2
        go_roundw
        case rel => exact ⟨k + 1, hlt, by go_num, by rw [HE.out]; exact HO.out, HB.out⟩
        case measure => simp [intOf]; omega
      · have hz : ((m : Int) != 0) = true := by simp; omega
        have hba := bits_anot (b := M) HMK.out
        by_cases hn : anot m M = 0
        · have HE := Lib.hid (HYK.out (by rw [HSK.out, decide_eq_true h0, decide_eq_true hn]; rfl))
          rw [hn] at hba
          have hz0 : m ≠ 0 := h0
          clear h0 hsb hn
          go_wp2_with (at_builtin; go_loud (refine wpList_pushI rfl (.tmp 28) (.tmp 30) 29 rfl Tryz.underlying29 Tryz.infoI w.heap.size _ _ rfl HO.out rfl HLK.out HLH.out ?_); intro v9 w9 o9 g9 l9; have HO9 := Lib.hid o9; have HB9 := Lib.hid (HB.out.grown g9 HB.out.size (fun q hq => (HO.out.lt q hq).1)); clear o9 g9 l9)
          go_roundw
          case rel => exact ⟨k + 1, hlt, by go_num, by rw [HE.out]; exact HO9.out, HB9.out⟩
          case measure => simp [intOf]; omega
        · have HE := Lib.hid (HZK.out (by rw [HSK.out, decide_eq_false hn, Bool.and_false]))
          have hna : (((anot m M : Nat) : Int) == 0) = false := by rw [beq_eq_false_iff_ne]; omega
          generalize anot m M = q at *
          clear h0 hsb hn
          go_wp2
          go_roundw
          case rel => exact ⟨k + 1, hlt, by go_num, by rw [HE.out]; exact HO.out, HB.out⟩
          case measure => simp [intOf]; omega
    · obtain rfl : nh = k := by omega
      have HE := Lib.hid HT.out
      generalize susTo p d nh = out at *
      go_wp2
      go_ret
      exact ⟨_, rfl, by rw [← HE.out]; exact HO.out, HB.out⟩
set_option maxHeartbeats 1600000 in
theorem specSus_any (v vg : Value) (p : Pln) (d : List Int) (w : World) (h : PlnR w v p) (hv : Rd w vg d) (hfb : ∀ i : Nat, (lgA p i).fb.length ≤ 1100000) :
    Calls Tryz.prog 28 #[v, vg] w (SgP p d w) := by
  have HDW := Lib.hid (fun w' (hb : Below w.heap.size w w') => l25Down_any v vg p d w' (h.behind hb) (hv.belowAll hb) hfb)
  have HHI := Lib.hid (fun (ho : dwOk p d = true) w' (hb : Below w.heap.size w w') => l25Hits_any v p w' (h.behind hb) (plnOk_sz (dwOk_parts ho).1).2.2.1 (plnOk_sz (dwOk_parts ho).1).2.1)
  have HSU := Lib.hid (fun (ho : dwOk p d = true) w' vh (hh : Rd w' vh (nats (hmks p))) => l25Suspects_any vh p d w' hh ho)
  obtain ⟨u1, u2, u3, rfl, r1, r2, r3, hsm⟩ := h
  have hnet : NetR w (.agg #[u1, u2]) p.n := ⟨u1, u2, rfl, r1, r2, hsm⟩
  obtain ⟨⟨a1, m1, c1, rfl⟩, a2, m2, c2, rfl⟩ := slice_of_net hnet
  obtain ⟨a3, m3, c3, rfl, -, -, -, -⟩ := lgt_opn r3
  obtain ⟨ag, cg, ng, -, rfl, -, -, -⟩ := hv.opn
  obtain ⟨bx, bc, blt, -⟩ := box_facts w #[.slice a1 m1 c1, .slice a2 m2 c2, .slice a3 m3 c3] 38
  have q0 := bc 0 _ rfl
  have q1 := bc 1 _ rfl
  have q2 := bc 2 _ rfl
  have HBX := Lib.hid bx
  have HRY := Lib.hid (show dwOk p d = true → sgR p d = sps p d from fun e => by unfold sgR; rw [if_pos e])
  have HRN := Lib.hid (show dwOk p d = false → sgR p d = [] from fun e => by unfold sgR; rw [e]; rfl)
  have HDR := Lib.hid (show dwOk p d = true → dwR p d = dmk p d from fun e => by unfold dwR; rw [if_pos e])
  unfold SgP
  unfold DwP at HDW
  generalize sgR p d = R at *
  generalize sps p d = H at *
  generalize dwR p d = M0 at *
  clear hv r1 r2 r3 hsm hnet hfb bx bc
  go_enter Tryz.func28, Tryz.ntmps28
  go_wp2_with fail
  generalize w.alloc (.cells #[.slice a1 m1 c1, .slice a2 m2 c2, .slice a3 m3 c3] 38) = w1 at *
  have HV1 := Lib.hid (HDW.out w1 HBX.out)
  cases hok : dwOk p d
  · have HE := Lib.hid (HRN.out hok)
    rw [hok] at HV1
    have HOK := Lib.hid hok
    clear HDW HHI HSU HRY HRN HDR hok
    refine HV1.out.mono ?_
    rintro e w2 ⟨rfl, b2⟩
    have HB2 := Lib.hid (HBX.out.trans (b2.mono HBX.out.size))
    have HON := Lib.hid (own_none w2 3)
    have HB3 := Lib.hid (HB2.out.alloc HB2.out.size (.cells #[] 3))
    have HSZ := Lib.hid HB2.out.size
    clear b2
    go_wp2
    go_ret2
    exact ⟨_, by rw [HOK.out]; rfl, by rw [HE.out]; exact (HON.out.mono HSZ.out).ofr, HB3.out⟩
  have HE := Lib.hid (HRY.out hok)
  have HH := Lib.hid (HHI.out hok)
  have HS := Lib.hid (HSU.out hok)
  have HMM := HDR.out hok
  rw [hok, HMM] at HV1
  have HOK := Lib.hid hok
  clear HDW HHI HSU HRY HRN HDR hok HMM
  generalize dmk p d = M at *
  refine HV1.out.mono ?_
  rintro e w2 ⟨rfl, b2⟩
  have e0 := (b2.cell (p := ⟨w.heap.size, 0, none⟩) blt).trans q0
  have e1 := (b2.cell (p := ⟨w.heap.size, 1, none⟩) blt).trans q1
  have e2 := (b2.cell (p := ⟨w.heap.size, 2, none⟩) blt).trans q2
  have HB2 := Lib.hid (HBX.out.trans (b2.mono HBX.out.size))
  clear b2 q0 q1 q2
  go_wp2_with fail
  refine (HH.out w2 HB2.out).mono ?_
  rintro e w3 ⟨v3, rfl, o3, b3⟩
  have HB3 := Lib.hid (HB2.out.trans (b3.mono HB2.out.size))
  have HS3 := Lib.hid (HS.out w3 v3 o3.rd)
  obtain ⟨a5, c5, n5, -, rfl, -, -, -⟩ := o3.rd.opn
  clear b3 o3
  go_wp2_with fail
  refine HS3.out.mono ?_
  rintro e w4 ⟨v4, rfl, o4, b4⟩
  obtain ⟨a7, c7, n7, -, rfl, -, -, -⟩ := o4.rd.opn
  have HB4 := Lib.hid (HB3.out.trans (b4.mono HB3.out.size))
  have HO4 := Lib.hid (o4.mono HB3.out.size)
  clear b4 o4
  go_wp2
  go_ret2
  exact ⟨_, by rw [HOK.out]; rfl, by rw [HE.out]; exact HO4.out.ofr, HB4.out⟩
end Go.Proofs.YtmkkdenhjfjmgaaGreat
namespace Go.Proofs.YtmkkdenhjfjmgaaGreat
open Go.RowKit Go.Sort
set_option maxRecDepth 100000

/-- The variables that the visitor of choices captures; what the own visitor writes lies apart from them. -/
structure Env2 (u w : World) (T : Nat → Prop) (q0 q1 q2 q3 : Nat) (va a1 a2 a3 vd vf : Value) (all : List Int) : Prop where
  h0 : w.heap[q0]? = some (.cells #[va] 29 (0, 0))
  h1 : w.heap[q1]? = some (.cells #[a1, a2, a3] 38 (0, 0))
  h2 : w.heap[q2]? = some (.cells #[vd] 29 (0, 0))
  h3 : w.heap[q3]? = some (.cells #[vf] 119 (0, 0))
  n0 : ¬ T q0
  n1 : ¬ T q1
  n2 : ¬ T q2
  n3 : ¬ T q3
  ra : Own w 0 va all
  na : ∀ g, va.ownBlock = some g → ¬ T g
  bel : Below u.heap.size u w
  tb : ∀ g, T g → u.heap.size ≤ g
theorem Env2.step {u w w' : World} {T T' : Nat → Prop} {q0 q1 q2 q3 : Nat} {va a1 a2 a3 vd vf : Value} {all : List Int} (h : Env2 u w T q0 q1 q2 q3 va a1 a2 a3 vd vf all) (hm : Mv T T' w w') : Env2 u w' T' q0 q1 q2 q3 va a1 a2 a3 vd vf all := by
  have l0 := (Array.getElem?_eq_some_iff.1 h.h0).1
  have l1 := (Array.getElem?_eq_some_iff.1 h.h1).1
  have l2 := (Array.getElem?_eq_some_iff.1 h.h2).1
  have l3 := (Array.getElem?_eq_some_iff.1 h.h3).1
  have hn : ∀ q, q < w.heap.size → ¬ T q → ¬ T' q := fun q hq hnq e => (hm.old q e).elim hnq (fun e => by omega)
  exact ⟨(hm.block q0 l0 h.n0).trans h.h0, (hm.block q1 l1 h.n1).trans h.h1, (hm.block q2 l2 h.n2).trans h.h2, (hm.block q3 l3 h.n3).trans h.h3, hn _ l0 h.n0, hn _ l1 h.n1, hn _ l2 h.n2, hn _ l3 h.n3, h.ra.keptM hm h.na,
    fun g hg => hn g (h.ra.lt g hg).2 (h.na g hg), hm.below h.bel h.bel.size h.tb, fun g hg => (hm.old g hg).elim (h.tb g) (fun e => Nat.le_trans h.bel.size e)⟩
end Go.Proofs.YtmkkdenhjfjmgaaGreat
namespace Go.Proofs.YtmkkdenhjfjmgaaGreat
open Go.RowKit Go.Sort
set_option maxRecDepth 100000

/-- Only new blocks and those of T have been written. -/
theorem Mv.alloc (T : Nat → Prop) (w : World) (b : Obj) : Mv T T w (w.alloc b) := Mv.of_below ((Below.refl _ _).alloc (Nat.le_refl _) b)
theorem Mv.set {T : Nat → Prop} {w : World} {g j : Nat} (h : T g ∨ w.heap.size ≤ g) (u : Value) : Mv T T w (w.setCell ⟨g, j, none⟩ u) :=
  ⟨rfl, rfl, rfl, by simp, fun k hk hn => heap_setCell_other w ⟨g, j, none⟩ k u fun e => by
    have e : k = g := e
    subst e
    rcases h with h | h
    · exact hn h
    · omega, fun _ h => .inl h⟩
end Go.Proofs.YtmkkdenhjfjmgaaGreat
namespace Go.Proofs.YtmkkdenhjfjmgaaGreat
open Go.RowKit Go.Sort
set_option maxRecDepth 100000

/-- The two variables that the visitor fills. -/
structure JF (base qo qf : Nat) (s : Option (List Int)) (T : Nat → Prop) (w : World) : Prop where
  t : ∀ g, T g ↔ g = qo ∨ g = qf
  ne : qo ≠ qf
  c : ∃ vo : Value, w.heap[qo]? = some (.cells #[vo] 29 (0, 0)) ∧ Own w base vo (s.getD []) ∧ ∀ g, vo.ownBlock = some g → ¬ T g
  f : w.heap[qf]? = some (.cells #[.bool s.isSome] 4 (0, 0))
theorem JF.lt {base qo qf : Nat} {s : Option (List Int)} {T : Nat → Prop} {w : World} (h : JF base qo qf s T w) {g : Nat} (hg : T g) : g < w.heap.size := by
  obtain ⟨vo, h1, -⟩ := h.c
  rcases (h.t g).1 hg with rfl | rfl
  · exact (Array.getElem?_eq_some_iff.1 h1).1
  · exact (Array.getElem?_eq_some_iff.1 h.f).1
/-! ### FewestFailures -/
end Go.Proofs.YtmkkdenhjfjmgaaGreat
namespace Go.Proofs.YtmkkdenhjfjmgaaGreat
open Go.RowKit Go.Sort
set_option maxRecDepth 100000

/-- The first element of a fresh row of lists. -/
theorem GrX.first {w : World} {base lo n cap g : Nat} {T : TypeId} {x : List Int} {xs : List (List Int)} {us : List Value} {fs : List (List Nat)} (h : GrX w base lo T 1 (.slice (some ⟨g, 0, none⟩) n cap) n ((x :: xs).map inD) us fs) : ∃ u, w.cell? ⟨g, 0, none⟩ = some u ∧ Own w lo u x := by
  have h1 := h.e.ul
  have h2 := h.e.fl
  rw [List.length_map] at h1 h2
  have hu : 0 < us.length := by rw [h1]; simp
  have hf : 0 < fs.length := by rw [h2]; simp
  refine ⟨us[0], ?_, ((h.e.els 0 (inD x) us[0] fs[0] rfl (List.getElem?_eq_getElem hu) (List.getElem?_eq_getElem hf)).toOwn (fun k hk => h.e.lo k (List.mem_flatten.2 ⟨_, List.getElem_mem hf, hk⟩))).1⟩
  have := h.cells 0 _ (List.getElem?_eq_getElem hu)
  simpa [Addr.add] using this
end Go.Proofs.YtmkkdenhjfjmgaaGreat
namespace Go.Proofs.YtmkkdenhjfjmgaaGreat
open Go.RowKit Go.Sort
set_option maxRecDepth 100000

/-- The visitor's variables. -/
structure JMs (base bo bp bd : Nat) (a1 a2 a3 vd : Value) (s : List (List Int)) (T : Nat → Prop) (w : World) (g m cap : Nat) (us : List Value) (fs : List (List Nat)) : Prop where
  t : ∀ q, T q ↔ q = bo ∨ q = g
  ho : w.heap[bo]? = some (.cells #[.slice (some ⟨g, 0, none⟩) m cap] 63 (0, 0))
  hg : GrX w base (bo + 1) 29 1 (.slice (some ⟨g, 0, none⟩) m cap) m (s.map inD) us fs
  ne : g ≠ bo
  ml : s.length = m
  hp : w.heap[bp]? = some (.cells #[a1, a2, a3] 38 (0, 0))
  hd : w.heap[bd]? = some (.cells #[vd] 29 (0, 0))
  np : ¬ T bp
  nd : ¬ T bd
theorem JMs.below {base bo bp bd : Nat} {a1 a2 a3 vd : Value} {s : List (List Int)} {T : Nat → Prop} {w w' : World} {g m cap : Nat} {us : List Value} {fs : List (List Nat)} (h : JMs base bo bp bd a1 a2 a3 vd s T w g m cap us fs) (hb : Below w.heap.size w w') : JMs base bo bp bd a1 a2 a3 vd s T w' g m cap us fs :=
  ⟨h.t, kept_o' h.ho hb, h.hg.below hb, h.ne, h.ml, kept_o' h.hp hb, kept_o' h.hd hb, h.np, h.nd⟩
theorem JMs.lt {base bo bp bd : Nat} {a1 a2 a3 vd : Value} {s : List (List Int)} {T : Nat → Prop} {w : World} {g m cap : Nat} {us : List Value} {fs : List (List Nat)} (h : JMs base bo bp bd a1 a2 a3 vd s T w g m cap us fs) {q : Nat} (hq : T q) : q < w.heap.size := by
  rcases (h.t q).1 hq with rfl | rfl
  · exact (Array.getElem?_eq_some_iff.1 h.ho).1
  · exact h.hg.lt q (.inl rfl)
theorem Mv.grown {T : Nat → Prop} {w w' : World} {v : Value} {g g' bo : Nat} (h : w.grownBy w' v.ownBlock) (hv : v.ownBlock = some g) (ht : ∀ q, T q ↔ q = bo ∨ q = g) (hat : v.ownBlock = some g' ∨ g' = w.heap.size) : Mv T (fun q => q = bo ∨ q = g') w w' :=
  ⟨h.os, h.tape, h.output, h.size, fun q hq hn => h.block q hq (fun e => hn ((ht q).2 (.inr (by rw [hv] at e; exact Option.some.inj e)))), fun q hq => by
    rcases hq with hq | hq
    · exact .inl ((ht q).2 (.inl hq))
    · rcases hat with e | e
      · exact .inl ((ht q).2 (.inr (by rw [hv] at e; rw [hq]; exact (Option.some.inj e).symm)))
      · exact .inr (by rw [hq, e]; exact Nat.le_refl _)⟩
end Go.Proofs.YtmkkdenhjfjmgaaGreat
namespace Go.Proofs.YtmkkdenhjfjmgaaGreat
open Go.RowKit Go.Sort
set_option maxRecDepth 100000

theorem GrX.keptM {w w' : World} {base lo size n : Nat} {e : TypeId} {v : Value} {ds : List Dt} {us : List Value} {fs : List (List Nat)} {T T' : Nat → Prop} (h : GrX w base lo e size v n ds us fs) (hm : Mv T T' w w') (hT : ∀ q, (v.ownBlock = some q ∨ q ∈ fs.flatten) → ¬ T q) : GrX w' base lo e size v n ds us fs :=
  h.kept fun q hq => hm.block q (h.lt q hq) (hT q hq)
end Go.Proofs.YtmkkdenhjfjmgaaGreat
namespace Go.Proofs.YtmkkdenhjfjmgaaGreat
open Go.RowKit Go.Sort

/-- Two rows of the call's own that lie apart. -/
def Apt (u v : Value) : Prop := ∀ q, u.ownBlock = some q → v.ownBlock ≠ some q
theorem Apt.nil (v : Value) : Apt (.slice none 0 0) v := fun q h => by simp [Value.ownBlock] at h
/-! ### Counting, as the reference does -/
end Go.Proofs.YtmkkdenhjfjmgaaGreat
namespace Go.Proofs.YtmkkdenhjfjmgaaGreat
open Go.RowKit

section
variable {P : Program} {ops : Array Oper} {Q : Exit → Act → World → Prop} {md : Region.Mode} {S : World → Prop} {U : List Nat}
/-- One of the operations U has not come up yet. -/
def lft (U : List Nat) (listed : Array Bool) : Bool := U.any fun k => !listed.getD k true
/-- One of the operations U that has not come up yet waits for number i. -/
def waits (md : Region.Mode) (ops : Array Oper) (U : List Nat) (listed : Array Bool) (i : Nat) : Bool := U.any fun m => !listed.getD m true && m != i && ((ops[m]?).map (·.after.any fun e => Region.binds md e && e.on == i)).getD false
theorem lft_of {listed : Array Bool} {m : Nat} (hm : m ∈ U) (hl : listed.getD m true = false) : lft U listed = true := by
  unfold lft
  exact List.any_eq_true.2 ⟨m, hm, by rw [hl]; rfl⟩
theorem waits_iff {listed : Array Bool} {i : Nat} : waits md ops U listed i = true ↔ ∃ m om, m ∈ U ∧ ops[m]? = some om ∧ m ≠ i ∧ listed.getD m true = false ∧ ∃ e ∈ om.after, Region.binds md e = true ∧ e.on = i := by
  unfold waits
  rw [List.any_eq_true]
  constructor
  · rintro ⟨m, h1, h2⟩
    simp only [Bool.and_eq_true, Bool.not_eq_true', bne_iff_ne, ne_eq] at h2
    obtain ⟨⟨h3, h4⟩, h5⟩ := h2
    cases ho : ops[m]? with
    | none => rw [ho] at h5; cases h5
    | some om =>
      rw [ho] at h5
      obtain ⟨e, he, hb⟩ := Array.any_eq_true'.1 (show om.after.any (fun e => Region.binds md e && e.on == i) = true from h5)
      simp only [Bool.and_eq_true, beq_iff_eq] at hb
      exact ⟨m, om, h1, ho, h4, h3, e, he, hb.1, hb.2⟩
  · rintro ⟨m, om, h1, ho, h4, h3, e, he, hb1, hb2⟩
    refine ⟨m, h1, ?_⟩
    simp only [Bool.and_eq_true, Bool.not_eq_true', bne_iff_ne, ne_eq]
    refine ⟨⟨h3, h4⟩, ?_⟩
    rw [ho]
    show om.after.any (fun e => Region.binds md e && e.on == i) = true
    exact Array.any_eq_true'.2 ⟨e, he, by simp [hb1, hb2]⟩
/-- Whatever order is picked, and S holds behind every operation behind which something is left to do. -/
def wpAnyL (P : Program) (md : Region.Mode) (ops : Array Oper) (U : List Nat) (Q : Exit → Act → World → Prop) (S : World → Prop) : Nat → Array Bool → Act → World → Prop
  | 0, listed, a, w => Region.ready md ops listed = [] ∧ Q .normal a w
  | fuel + 1, listed, a, w =>
    (Region.ready md ops listed = [] → Q .normal a w) ∧
    ∀ i ∈ Region.ready md ops listed, wpOp P ops Q i (fun a' w' => (lft U (listed.setIfInBounds i true) = true → S w') ∧ wpAnyL P md ops U Q S fuel (listed.setIfInBounds i true) a' w') a w
theorem wpAny_of_L : ∀ (fuel : Nat) (listed : Array Bool) (a : Act) (w : World), wpAnyL P md ops U Q S fuel listed a w → wpAny P md ops Q fuel listed a w
  | 0, _, _, _, h => h
  | fuel + 1, _, _, _, h => ⟨h.1, fun i hi => wpOp_mono (fun a' w' h' => wpAny_of_L fuel _ a' w' h'.2) (h.2 i hi)⟩
theorem wpAnyL_first {i : Nat} {oi : Oper} {v : Value} (hi : ops[i]? = some oi) (hsel : ∀ (j : Nat) (o : Oper) cs b, ops[j]? = some o → o.op ≠ .select cs b)
    (hQ : ∀ c a w, Q (.panic c) (a.put oi.dst v) w → Q (.panic c) a w) :
    ∀ (fuel : Nat) (listed : Array Bool) (a : Act) (w : World),
      (∀ j oj, ops[j]? = some oj → j ≠ i → listed.getD j true = false → (∀ e ∈ oj.after, Region.binds md e = true → e.on ≠ i) → oi.apart ops oj = true) →
      i ∈ Region.ready md ops listed → waits md ops U listed i = true → YieldsIf P ops S oi v a → S w →
      wpAnyL P md ops U Q S fuel (listed.setIfInBounds i true) (a.put oi.dst v) w → wpAnyL P md ops U Q S (fuel + 1) listed a w := by
  intro fuel
  induction fuel with
  | zero =>
    intro listed a w _ hr _ hy hS H
    refine ⟨fun h => (by rw [h] at hr; cases hr), fun j hj => ?_⟩
    by_cases hji : j = i
    · subst hji; exact hy.wpOp hi hS ⟨fun _ => hS, H⟩
    · have := ready_mono hj hji
      rw [H.1] at this
      cases this
  | succ fuel ih =>
    intro listed a w hfree hr hwt hy hS H
    refine ⟨fun h => (by rw [h] at hr; cases hr), fun j hj => ?_⟩
    by_cases hji : j = i
    · subst hji; exact hy.wpOp hi hS ⟨fun _ => hS, H⟩
    · have h1 := H.2 j (ready_mono hj hji)
      obtain ⟨hjun, oj, hoj, hall⟩ := mem_ready.1 hj
      have hnot : ∀ e ∈ oj.after, Region.binds md e = true → e.on ≠ i := fun e he hb heq => by
        have h1 := hall e he hb
        have h0 := (mem_ready.1 hr).1
        rw [heq] at h1
        rcases Nat.lt_or_ge i listed.size with h' | h'
        · simp [h'] at h0 h1; rw [h0] at h1; cases h1
        · simp [Array.getElem?_eq_none h'] at h1
      have h2 := wpOp_putIf hoj (hfree j oj hoj hji hjun hnot) (fun cs b => hsel i oi cs b hi) (fun cs b => hsel j oj cs b hoj) hQ hy h1
      have hfree' : ∀ k ok, ops[k]? = some ok → k ≠ i → (listed.setIfInBounds j true).getD k true = false →
          (∀ e ∈ ok.after, Region.binds md e = true → e.on ≠ i) → oi.apart ops ok = true := fun k ok hk hki hun hno => by
        refine hfree k ok hk hki ?_ hno
        by_cases hjk : j = k
        · subst hjk; exact hjun
        · rw [getD_set_ne true hjk] at hun; exact hun
      obtain ⟨m, om, hmU, hom, hmi, hml, e, he, hb1, hb2⟩ := waits_iff.1 hwt
      have hmj : j ≠ m := fun h => by
        subst h
        rw [hoj] at hom
        cases hom
        exact hnot e he hb1 hb2
      have hml2 : (listed.setIfInBounds j true).getD m true = false := by rw [getD_set_ne true hmj]; exact hml
      have hwt2 : waits md ops U (listed.setIfInBounds j true) i = true := waits_iff.2 ⟨m, om, hmU, hom, hmi, hml2, e, he, hb1, hb2⟩
      have hl2 : lft U ((listed.setIfInBounds i true).setIfInBounds j true) = true :=
        lft_of hmU (by rw [getD_set_ne true hmj, getD_set_ne true (Ne.symm hmi)]; exact hml)
      refine wpOp_mono (fun a' w' h3 => ⟨fun _ => h3.2.1 hl2, ih (listed.setIfInBounds j true) a' w' hfree' (ready_mono hr (Ne.symm hji)) hwt2 h3.1 (h3.2.1 hl2) ?_⟩) h2
      rw [Array.setIfInBounds_comm _ _ hji]
      exact h3.2.2
theorem get_of_drop {i : Nat} {o : Oper} {tl : List Oper} (h : ops.toList.drop i = o :: tl) : ops[i]? = some o := by
  have : (ops.toList.drop i)[0]? = some o := by rw [h]; rfl
  rw [List.getElem?_drop, Nat.add_zero] at this
  simpa using this
/-- An operation that yields the same in every world that meets S is taken first. -/
theorem hlTake (i : Nat) {oi : Oper} {v : Value} {fuel : Nat} {listed : Array Bool} {a : Act} {w : World} {tl : List Oper} (hi : ops.toList.drop i = oi :: tl)
    (hs : Region.noSelect ops = true) (hf : Region.free md ops listed i = true) (hr : (Region.ready md ops listed).contains i = true) (hwt : waits md ops U listed i = true)
    (hQ : ∀ c a w, Q (.panic c) (a.put oi.dst v) w → Q (.panic c) a w) (hw : Region.wanted oi (yielded ops a.tmps) = true) (hy : ∀ w, S w → (execOp a.eval oi).run P w = .ok (.value v) w) (hS : S w)
    (h : wpAnyL P md ops U Q S fuel (listed.setIfInBounds i true) (a.put oi.dst v) w) : wpAnyL P md ops U Q S (fuel + 1) listed a w :=
  wpAnyL_first (get_of_drop hi) (Region.noSelect_spec hs) hQ fuel listed a w (Region.free_spec (get_of_drop hi) hf) (by simpa using hr) hwt (.inl ⟨hw, hy⟩) hS h
/-- An operation that is not wanted is taken first. -/
theorem hlSkip (i : Nat) {oi : Oper} {fuel : Nat} {listed : Array Bool} {a : Act} {w : World} {tl : List Oper} (hi : ops.toList.drop i = oi :: tl)
    (hs : Region.noSelect ops = true) (hf : Region.free md ops listed i = true) (hr : (Region.ready md ops listed).contains i = true) (hwt : waits md ops U listed i = true)
    (hQ : ∀ c a w, Q (.panic c) (a.put oi.dst undef) w → Q (.panic c) a w) (hw : Region.wanted oi (yielded ops a.tmps) = false) (hS : S w)
    (h : wpAnyL P md ops U Q S fuel (listed.setIfInBounds i true) (a.put oi.dst undef) w) : wpAnyL P md ops U Q S (fuel + 1) listed a w :=
  wpAnyL_first (get_of_drop hi) (Region.noSelect_spec hs) hQ fuel listed a w (Region.free_spec (get_of_drop hi) hf) (by simpa using hr) hwt (.inr ⟨hw, rfl⟩) hS h
def AllReadyL (P : Program) (md : Region.Mode) (ops : Array Oper) (U : List Nat) (Q : Exit → Act → World → Prop) (S : World → Prop) (fuel : Nat) (listed : Array Bool) (a : Act) (w : World) (rs : List Nat) : Prop :=
  ∀ i ∈ rs, wpOp P ops Q i (fun a' w' => (lft U (listed.setIfInBounds i true) = true → S w') ∧ wpAnyL P md ops U Q S fuel (listed.setIfInBounds i true) a' w') a w
theorem AllReadyL.nil {fuel : Nat} {listed : Array Bool} {a : Act} {w : World} : AllReadyL P md ops U Q S fuel listed a w [] := fun _ h => by cases h
theorem AllReadyL.cons {fuel : Nat} {listed : Array Bool} {a : Act} {w : World} {i : Nat} {o : Oper} {rs : List Nat} {tl : List Oper} (ho : ops.toList.drop i = o :: tl)
    (h : ∀ K' : Act → World → Prop, Shut (∀ a w, S w → (S w → wpAnyL P md ops U Q S fuel (listed.setIfInBounds i true) a w) → K' a w) → if Region.wanted o (yielded ops a.tmps) = true then Oper.wp P o a w K' Q else K' (a.put o.dst undef) w)
    (hs : AllReadyL P md ops U Q S fuel listed a w rs) : AllReadyL P md ops U Q S fuel listed a w (i :: rs) := fun j hj => by
  rcases List.mem_cons.1 hj with rfl | hj
  · exact wpOp_step (get_of_drop ho) (fun K' hK => h K' (fun a w hS hW => hK a w ⟨fun _ => hS, hW hS⟩))
  · exact hs j hj
theorem hlReady {rs : List Nat} {fuel : Nat} {listed : Array Bool} {a : Act} {w : World} (hr : Region.ready md ops listed = rs) (hne : rs ≠ [])
    (h : AllReadyL P md ops U Q S fuel listed a w rs) : wpAnyL P md ops U Q S (fuel + 1) listed a w :=
  ⟨fun h0 => absurd (hr ▸ h0) hne, hr ▸ h⟩
/-- An operation behind which S is not asked for. -/
theorem hlStep (i : Nat) {fuel : Nat} {listed : Array Bool} {a : Act} {w : World} {o : Oper} {tl : List Oper} (ho : ops.toList.drop i = o :: tl) (hr : Region.ready md ops listed = [i]) (hl : lft U (listed.setIfInBounds i true) = false)
    (h : ∀ K' : Act → World → Prop, Shut (∀ a w, wpAnyL P md ops U Q S fuel (listed.setIfInBounds i true) a w → K' a w) → if Region.wanted o (yielded ops a.tmps) = true then Oper.wp P o a w K' Q else K' (a.put o.dst undef) w) : wpAnyL P md ops U Q S (fuel + 1) listed a w :=
  hlReady hr (by simp) fun j hj => by
    obtain rfl : j = i := by simpa using hj
    exact wpOp_step (get_of_drop ho) (fun K' hK => h K' (fun a w hW => hK a w ⟨fun h => (by rw [hl] at h; cases h), hW⟩))
/-- All have come up. -/
theorem hlDone {listed : Array Bool} {a : Act} {w : World} (hr : Region.ready md ops listed = []) (h : Q .normal a w) : ∀ fuel, wpAnyL P md ops U Q S fuel listed a w
  | 0 => ⟨hr, h⟩
  | _ + 1 => ⟨fun _ => h, by rw [hr]; simp⟩
theorem wp_region_L (U : List Nat) {id : Nat} {a : Act} {w : World} (hm : P.follows .mixedOrders = true) (hS : S w.drew)
    (h : S w.drew → wpAnyL P .any ops U Q S ops.size (Array.replicate ops.size false) a w.drew) : (Code.region id ops true).wp P Q a w :=
  wp_region_any hm (wpAny_of_L _ _ _ _ (h hS))
end
end Go.Proofs.YtmkkdenhjfjmgaaGreat
