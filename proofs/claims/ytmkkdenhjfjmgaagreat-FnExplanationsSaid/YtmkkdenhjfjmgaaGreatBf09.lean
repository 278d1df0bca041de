/- Joined: XSet XGrq XGrs XNed XRis XRiz. -/
import Derived.Test.YtmkkdenhjfjmgaaGreatBf06
import Derived.Test.YtmkkdenhjfjmgaaGreatBf01
import Derived.Lib.QuietBelow
import Derived.Test.YtmkkdenhjfjmgaaGreatBf08
import Derived.Test.YtmkkdenhjfjmgaaGreatBf04
import Derived.Test.YtmkkdenhjfjmgaaGreatBf07
namespace Go.Proofs.YtmkkdenhjfjmgaaGreat
open Go.RowKit Go.Sort
set_option maxRecDepth 100000

set_option maxHeartbeats 1600000 in
theorem isSet_any (v : Value) (xs : List Int) (m : Nat) (w : World) (h : Rd w v xs) (hm : m ≤ 1000000) :
    Calls Tryz.prog 109 #[v, .int .i64 m] w fun e w' => e = .returned (.bool (setOk xs m)) ∧ Below w.heap.size w w' := by
  obtain ⟨a, ca, n, HN, rfl, _, hn, hca⟩ := h.opn
  have HA := Lib.hid hca
  have HX := Lib.hid (fun i hi h => @setOk_at xs m i hi h)
  have HY := Lib.hid (@setOk_all xs m)
  rw [HN.out] at HX HY
  clear hca h
  generalize setOk xs m = q at *
  have f0 : IntKind.i64.wrap ((m : Int) - 1) = (m : Int) - 1 := IntWalk.i64_in _ (by omega)
  go_enter Tryz.func109, Tryz.ntmps109
  go_wp2
  go_loopw [5, 6, 9] (fun _ _ i wr => ∃ k : Nat, k ≤ n ∧ i = .int .i64 k ∧ Hid (∀ i, i < k → seAt xs m i = true) ∧ wr = w) (fun _ _ i _ => n - (intOf i).toNat)
  case atStart => exact ⟨0, Nat.zero_le _, rfl, fun i hi => by omega, rfl⟩
  case round =>
    obtain ⟨k, hk, rfl, HK, rfl⟩ := hrel
    by_cases hlt : k < n
    · have hltI : (k : Int) < (n : Int) := by omega
      obtain ⟨b, off, rfl, hbs, hcs⟩ := HA.out (by omega)
      have c0 := hcs k hlt
      have HV := Lib.hid (show seAt xs m k = (inB (xs[k]?.getD 0) 0 ((m : Int) - 1) && !(decide (0 < k) && decide (xs[k]?.getD 0 ≤ xs[k - 1]?.getD 0))) from rfl)
      have HNO := Lib.hid (HX.out k hlt)
      have HST := Lib.hid (fun h => upto_succ HK.out (k := k) h)
      generalize xs[k]?.getD 0 = x at *
      cases hin : inB x 0 ((m : Int) - 1)
      · have HF := Lib.hid (HNO.out (by rw [HV.out, hin]; rfl))
        clear hcs HV HST HNO
        go_wp2_with (go_at_call 83; refine (within_any _ _ _ _).mono ?_; rintro e w' ⟨rfl, rfl⟩; rw [hin])
        go_ret
        exact ⟨by rw [HF.out]; rfl, Below.refl _ _⟩
      rw [hin] at HV
      by_cases hk0 : k = 0
      · have hk0b : decide (0 < k) = false := decide_eq_false (by omega)
        have hk0c : decide (0 < (k : Int)) = false := decide_eq_false (by omega)
        have HS := Lib.hid (HST.out (by rw [HV.out, hk0b]; rfl))
        clear hcs HV HST HNO hk0
        go_wp2_with (go_at_call 83; refine (within_any _ _ _ _).mono ?_; rintro e w' ⟨rfl, rfl⟩; rw [hin])
        go_roundw
        case rel => exact ⟨k + 1, hlt, by go_num, HS.out, trivial⟩
        case measure => simp [intOf]; omega
      obtain ⟨k', hk'⟩ : ∃ k', k = k' + 1 := ⟨k - 1, by omega⟩
      have hkk : k - 1 = k' := by omega
      have hk0b : decide (0 < k) = true := decide_eq_true (by omega)
      have hk0c : decide (0 < (k : Int)) = true := decide_eq_true (by omega)
      have hkp : (0 : Int) < (k : Int) := by omega
      have f1w : IntKind.i64.wrap ((k : Int) - 1) = (k' : Int) := by rw [IntWalk.i64_in _ (by omega)]; omega
      have f2w : (k' : Int) < (n : Int) := by omega
      have f3w : k' < n := by omega
      have c1 := hcs k' f3w
      have hv := HV.out
      rw [hkk, hk0b] at hv
      generalize xs[k']?.getD 0 = y at *
      have HV2 := Lib.hid hv
      clear hcs HV hk0 hk' hkk hv
      cases hge : decide (x ≤ y)
      · have HS := Lib.hid (HST.out (by rw [HV2.out, hge]; rfl))
        clear HV2 HST HNO
        go_wp2_with (go_at_call 83; refine (within_any _ _ _ _).mono ?_; rintro e w' ⟨rfl, rfl⟩; rw [hin])
        go_roundw
        case rel => exact ⟨k + 1, hlt, by go_num, HS.out, trivial⟩
        case measure => simp [intOf]; omega
      · have HF := Lib.hid (HNO.out (by rw [HV2.out, hge]; rfl))
        clear HV2 HST HNO
        go_wp2_with (go_at_call 83; refine (within_any _ _ _ _).mono ?_; rintro e w' ⟨rfl, rfl⟩; rw [hin])
        go_ret
        exact ⟨by rw [HF.out]; rfl, Below.refl _ _⟩
    · obtain rfl : n = k := by omega
      have HE := Lib.hid (HY.out HK.out)
      go_wp2
      go_ret
      exact ⟨by rw [HE.out]; rfl, Below.refl _ _⟩
end Go.Proofs.YtmkkdenhjfjmgaaGreat
namespace Go.Proofs.YtmkkdenhjfjmgaaGreat
open Go.RowKit Go.Sort
set_option maxRecDepth 100000

theorem Tryz.infoRw : (Tryz.prog.info? 29).map (fun i => (i.zero, i.size, i.bytes)) = some (some (.slice none 0 0), 1, 24) := by kernel_rfl
theorem gA_no {n : Net} {g : Nat} (h : (grpTo n ((g + 1 : Nat) : Int) n.fs.length).length = 0) : gA n (g + 1) = gA n g := by
  show (if (grp n ((g + 1 : Nat) : Int)).length = 0 then gA n g else gA n g ++ [grp n ((g + 1 : Nat) : Int)]) = gA n g
  exact if_pos h
theorem gA_yes {n : Net} {g : Nat} (h : ¬ (grpTo n ((g + 1 : Nat) : Int) n.fs.length).length = 0) : gA n (g + 1) = gA n g ++ [grpTo n ((g + 1 : Nat) : Int) n.fs.length] := by
  show (if (grp n ((g + 1 : Nat) : Int)).length = 0 then gA n g else gA n g ++ [grp n ((g + 1 : Nat) : Int)]) = gA n g ++ [grp n ((g + 1 : Nat) : Int)]
  exact if_neg h
theorem gS_yes {n : Net} {k : Nat} (h : (fbA n k).r = 0) : gS n (k + 1) = gS n k ++ [[(k : Int)]] := if_pos h
theorem gS_no {n : Net} {k : Nat} (h : ¬ (fbA n k).r = 0) : gS n (k + 1) = gS n k := if_neg h
/-- A row of rows under way takes one more row. -/
theorem Grw.next {w : World} {base : Nat} {T : TypeId} {v : Value} {R R' : List (List Int)} {xs : List Int} (e : R' = R ++ [xs]) (h : Grw w base T 1 v (R.length + 1) (R.map inD ++ [inD xs])) : Grw w base T 1 v R'.length (R'.map inD) := by
  subst e
  rw [List.map_append, List.length_append]; exact h

set_option maxHeartbeats 3200000 in
theorem groups_any (u1 u2 : Value) (n : Net) (w : World) (h : NetR w (.agg #[u1, u2]) n) (hl : n.fs.length ≤ 100000) :
    Calls Tryz.prog 110 #[.agg #[u1, u2]] w fun e w' => ∃ v', e = .returned v' ∧ Ofr w' w.heap.size (ssD (grps n)) v' ∧ Below w.heap.size w w' := by
  obtain ⟨x1, x2, e, r1, r2, hsm⟩ := h
  simp only [Value.agg.injEq, Array.mk.injEq, List.cons.injEq, and_true] at e
  obtain ⟨rfl, rfl⟩ := e
  obtain ⟨a1, m1, c1, rfl⟩ := Rdt.slice' r1
  obtain ⟨a2, m2, c2, rfl, HN2, hc2, hm2, ha2⟩ := flt_opn (m := 4) (enc := fibE) (fun _ => rfl) (by omega) nilB r2
  have hm10 : m2 ≤ 100000 := by have := HN2.out; omega
  have HC := Lib.hid ha2
  obtain ⟨bx, bc, blt, -⟩ := box_facts w #[.slice a1 m1 c1, .slice a2 m2 c2] 35
  have q1 := bc 1 _ rfl
  have HBX := Lib.hid bx
  clear bc bx ha2 r1 r2 hl hsm hc2 hm2
  have hs1 : (w.alloc (.cells #[.slice a1 m1 c1, .slice a2 m2 c2] 35)).heap.size = w.heap.size + 1 := by simp
  have HSZ := Lib.hid hs1
  have HG0 := Lib.hid (show Grw ((w.alloc (.cells #[.slice a1 m1 c1, .slice a2 m2 c2] 35)).alloc (.cells #[] 29)) (w.heap.size + 1) 29 1 (.slice (some ⟨w.heap.size + 1, 0, none⟩) 0 0) 0 [] by rw [← hs1]; exact Grw.start 29 (Nat.le_refl _))
  have HB0 := Lib.hid ((Below.refl (w.alloc (.cells #[.slice a1 m1 c1, .slice a2 m2 c2] 35)).heap.size (w.alloc (.cells #[.slice a1 m1 c1, .slice a2 m2 c2] 35))).alloc (Nat.le_refl _) (.cells #[] 29))
  have HGR := Lib.hid (show grps n = gA n 9 ++ gS n m2 by unfold grps; rw [HN2.out])
  have HAY := Lib.hid (fun g => @gA_yes n g)
  have HAN := Lib.hid (fun g => @gA_no n g)
  rw [HN2.out] at HAY HAN
  clear hs1
  go_enter Tryz.func110, Tryz.ntmps110
  go_wp2
  generalize w.alloc (.cells #[.slice a1 m1 c1, .slice a2 m2 c2] 35) = w1 at *
  generalize w1.alloc (.cells #[] 29) = w2 at *
  go_loopw [3, 4] (fun s3 s4 wr => ∃ g : Nat, g ≤ 9 ∧ s4 = .int .i64 (g + 1 : Nat) ∧ Hid (Grw wr (w.heap.size + 1) 29 1 s3 (gA n g).length ((gA n g).map inD)) ∧ Hid (Below w1.heap.size w1 wr)) (fun _ i _ => 20 - (intOf i).toNat)
  case atStart => exact ⟨0, Nat.zero_le _, rfl, HG0.out, HB0.out⟩
  case round =>
    obtain ⟨g, hg, rfl, HG, HB⟩ := hrel
    obtain ⟨wo, hwo⟩ : ∃ wo, wo = wr := ⟨_, rfl⟩
    subst hwo
    obtain ⟨-, aR, cR, rfl⟩ := HG.out.form
    have p1 := (HB.out.cell (p := ⟨w.heap.size, 1, none⟩) (by rw [HSZ.out]; exact Nat.lt_succ_self _)).trans q1
    have hsz : w.heap.size + 1 ≤ wo.heap.size := by rw [← HSZ.out]; exact HB.out.size
    have HS := Lib.hid hsz
    by_cases hlt : g < 9
    · have hgI : ((g + 1 : Nat) : Int) ≤ 9 := by omega
      have HLG := Lib.hid (gA_len n g)
      have HY := Lib.hid (HAY.out g)
      have HN := Lib.hid (HAN.out g)
      have HOZ := Lib.hid (own_none wo 3)
      have HBA := Lib.hid ((Below.refl wo.heap.size wo).alloc (Nat.le_refl _) (.cells #[] 3))
      have p1' := (HBA.out.cell (p := ⟨w.heap.size, 1, none⟩) (Nat.lt_of_lt_of_le (Nat.lt_succ_self _) HS.out)).trans p1
      obtain ⟨ri, hri⟩ : ∃ ri : Int, ((g + 1 : Nat) : Int) = ri := ⟨_, rfl⟩
      have HRI := Lib.hid hri
      rw [hri] at HY HN hgI
      have hri1 : IntKind.i64.wrap (ri + 1) = ((g + 1 + 1 : Nat) : Int) := by rw [IntWalk.i64_in _ (by omega)]; omega
      rw [hri]
      clear hri hsz
      go_wp2
      generalize wo.alloc (.cells #[] 3) = wr1 at *
      go_loopw [5, 6, 7, 19] (fun s5 _ _ i wx => ∃ k : Nat, k ≤ m2 ∧ i = .int .i64 k ∧ Hid (Own wx wo.heap.size s5 (grpTo n ri k)) ∧ Hid (Below wo.heap.size wo wx)) (fun _ _ _ i _ => m2 - (intOf i).toNat)
      case atStart => exact ⟨0, Nat.zero_le _, rfl, HOZ.out, HBA.out⟩
      case round =>
        obtain ⟨k, hk, rfl, HO, HBI⟩ := hrel
        obtain ⟨aI, cI, nI, HNI, rfl, hcI, hnI, -⟩ := HO.out.rd.opn
        by_cases hlk : k < m2
        · have hltI : (k : Int) < (m2 : Int) := by omega
          obtain ⟨b, off, rfl, hbs, hcs⟩ := HC.out (by omega)
          have BW := HBX.out.trans ((HB.out.trans (HBI.out.mono HB.out.size)).mono HBX.out.size)
          have e0 := (BW.cell (p := ⟨b, off + k * 4 + 0, none⟩) hbs).trans (hcs k hlk 0 _ rfl)
          have e1 := (BW.cell (p := ⟨b, off + k * 4 + 1, none⟩) hbs).trans (hcs k hlk 1 _ rfl)
          have e2 := (BW.cell (p := ⟨b, off + k * 4 + 2, none⟩) hbs).trans (hcs k hlk 2 _ rfl)
          have e3 := (BW.cell (p := ⟨b, off + k * 4 + 3, none⟩) hbs).trans (hcs k hlk 3 _ rfl)
          simp only [Nat.add_zero] at e0
          have HGY := Lib.hid (@grpTo_yes n ri k)
          have HGN := Lib.hid (@grpTo_no n ri k)
          have HLO := Lib.hid (show (grpTo n ri k).length ≤ 4000000 by have := grpTo_len n ri k; omega)
          unfold fbA at HGY HGN
          clear BW hcs
          generalize n.fs[k]?.getD nilB = f at *
          obtain ⟨bf, cf, blf, -⟩ := box_facts wr #[.int .i64 f.a, .int .i64 f.b, .int .i64 f.l, .int .i64 f.r] 148
          have z3 := cf 3 _ rfl
          have HBF := Lib.hid (HBI.out.trans (bf.mono HBI.out.size))
          have HO1 := Lib.hid (HO.out.belowAll bf)
          have hs3 : wo.heap.size ≤ (wr.alloc (.cells #[.int .i64 f.a, .int .i64 f.b, .int .i64 f.l, .int .i64 f.r] 148)).heap.size := Nat.le_trans HBI.out.size bf.size
          have HS3 := Lib.hid hs3
          have HSF := Lib.hid (show (wr.alloc (.cells #[.int .i64 f.a, .int .i64 f.b, .int .i64 f.l, .int .i64 f.r] 148)).heap.size = wr.heap.size + 1 by simp)
          clear bf cf hs3
          generalize grpTo n ri k = out at *
          by_cases hr : f.r = ri
          · have HE2 := Lib.hid (HGY.out hr)
            have d1 : (f.r == ri) = true := by simp [hr]
            have d2 : decide (f.r = ri) = true := by simp [hr]
            clear hr HGY HGN
            go_wp2_with (at_builtin; go_loud (refine wpList_pushI rfl (.tmp 28) (.tmp 30) 29 rfl Tryz.underlying29 Tryz.infoI wo.heap.size (.slice aI nI cI) out rfl HO1.out (by rw [HSF.out]; rfl) HLO.out HS3.out ?_); intro v5 w5 o5 g5 l5; have HO5 := Lib.hid o5; have HB5 := Lib.hid (HBF.out.grown g5 HBF.out.size (fun q hq => (HO1.out.lt q hq).1)); clear o5 g5 l5)
            go_roundw
            case rel => exact ⟨k + 1, hlk, by go_num, by rw [HE2.out]; exact HO5.out, HB5.out⟩
            case measure => simp [intOf]; omega
          · have HE2 := Lib.hid (HGN.out hr)
            have d1 : (f.r == ri) = false := by simp [hr]
            have d2 : decide (f.r = ri) = false := by simp [hr]
            clear hr HGY HGN
            go_wp2
            go_roundw
            case rel => exact ⟨k + 1, hlk, by go_num, by rw [HE2.out]; exact HO1.out, HBF.out⟩
            case measure => simp [intOf]; omega
        · obtain rfl : m2 = k := by omega
          have hB2 := HB.out.trans (HBI.out.mono HB.out.size)
          have HB2 := Lib.hid hB2
          have HGI := Lib.hid (HG.out.below HBI.out)
          clear hB2
          generalize grpTo n ri m2 = out at *
          by_cases hz : nI = 0
          · have HE := Lib.hid (HN.out (by rw [HNI.out]; exact hz))
            have d1 : decide (0 < (nI : Int)) = false := decide_eq_false (by omega)
            have d2 : decide (0 < nI) = false := decide_eq_false (by omega)
            clear hz HY HN
            go_wp2
            go_roundw
            case rel => exact ⟨g + 1, hlt, by go_num, by rw [HE.out]; exact HGI.out, HB2.out⟩
            case measure => have := HRI.out; simp [intOf]; omega
          · have HE := Lib.hid (HY.out (by rw [HNI.out]; exact hz))
            have d1 : decide (0 < (nI : Int)) = true := decide_eq_true (by omega)
            have d2 : decide (0 < nI) = true := decide_eq_true (by omega)
            have HLG2 := Lib.hid (show (gA n g).length ≤ 1000000 by have := HLG.out; omega)
            clear hz HY HN
            go_wp2_with (at_builtin; go_loud (refine wpList_grow rfl (.tmp 36) (.tmp 38) 63 29 rfl Tryz.underlying63 (.slice none 0 0) 1 24 Tryz.infoRw rfl (by decide) (by decide) (w.heap.size + 1) (gA n g).length (.slice aR (gA n g).length cR) _ _ rfl HG.out HS.out HBI.out [.slice aI nI cI] (Newd.one HO.out.ofr) rfl (by simp [Value.oneCell']) rfl HLG2.out ?_); intro v5 w5 o5 g5 l5; have HG5 := Lib.hid (Grw.next HE.out o5); have HB5 := Lib.hid (HB2.out.grown g5 HB2.out.size (fun q hq => (by rw [HSZ.out]; exact (HG.out.own q hq).1))); clear o5 g5 l5)
            go_roundw
            case rel => exact ⟨g + 1, hlt, by go_num, HG5.out, HB5.out⟩
            case measure => have := HRI.out; simp [intOf]; omega
    · obtain rfl : g = 9 := by omega
      have HGB := Lib.hid (HB.out)
      rw [show ((9 + 1 : Nat) : Int) = 10 from rfl]
      go_wp2
      clear p1
      have HG1 := Lib.hid (show Grw wo (w.heap.size + 1) 29 1 (.slice aR (gA n 9).length cR) (gA n 9 ++ gS n 0).length ((gA n 9 ++ gS n 0).map inD) by simpa [gS] using HG.out)
      have HLG := Lib.hid (gA_len n 9)
      generalize gA n 9 = A at *
      go_loopw [3, 8, 9, 43] (fun s3 _ _ i wx => ∃ k : Nat, k ≤ m2 ∧ i = .int .i64 k ∧ Hid (Grw wx (w.heap.size + 1) 29 1 s3 (A ++ gS n k).length ((A ++ gS n k).map inD)) ∧ Hid (Below w1.heap.size w1 wx)) (fun _ _ _ i _ => m2 - (intOf i).toNat)
      case atStart => exact ⟨0, Nat.zero_le _, rfl, HG1.out, HGB.out⟩
      case round =>
        clear HG HG1 HB HGB hsz HS
        obtain ⟨k, hk, rfl, HG, HB⟩ := hrel
        obtain ⟨-, aX, cX, rfl⟩ := HG.out.form
        by_cases hlk : k < m2
        · have hltI : (k : Int) < (m2 : Int) := by omega
          obtain ⟨b, off, rfl, hbs, hcs⟩ := HC.out (by omega)
          have BW := HBX.out.trans (HB.out.mono HBX.out.size)
          have e0 := (BW.cell (p := ⟨b, off + k * 4 + 0, none⟩) hbs).trans (hcs k hlk 0 _ rfl)
          have e1 := (BW.cell (p := ⟨b, off + k * 4 + 1, none⟩) hbs).trans (hcs k hlk 1 _ rfl)
          have e2 := (BW.cell (p := ⟨b, off + k * 4 + 2, none⟩) hbs).trans (hcs k hlk 2 _ rfl)
          have e3 := (BW.cell (p := ⟨b, off + k * 4 + 3, none⟩) hbs).trans (hcs k hlk 3 _ rfl)
          simp only [Nat.add_zero] at e0
          have HGY := Lib.hid (@gS_yes n k)
          have HGN := Lib.hid (@gS_no n k)
          have HLO := Lib.hid (show (A ++ gS n k).length ≤ 1000000 by rw [List.length_append]; have h1 := gS_len n k; have h2 := HLG.out; omega)
          unfold fbA at HGY HGN
          clear BW hcs
          generalize n.fs[k]?.getD nilB = f at *
          obtain ⟨bf, cf, blf, -⟩ := box_facts wr #[.int .i64 f.a, .int .i64 f.b, .int .i64 f.l, .int .i64 f.r] 148
          have z3 := cf 3 _ rfl
          have HBF := Lib.hid (HB.out.trans (bf.mono HB.out.size))
          have HG2 := Lib.hid (HG.out.below bf)
          clear bf cf
          by_cases hr : f.r = 0
          · have HE2 := Lib.hid (show A ++ gS n (k + 1) = (A ++ gS n k) ++ [[(k : Int)]] by rw [HGY.out hr, List.append_assoc])
            generalize f.r = rr at *
            subst hr
            generalize A ++ gS n k = out at *
            have hs4 : (wr.alloc (.cells #[.int .i64 f.a, .int .i64 f.b, .int .i64 f.l, .int .i64 0] 148)).heap.size = wr.heap.size + 1 := by simp
            have hs5 : ((wr.alloc (.cells #[.int .i64 f.a, .int .i64 f.b, .int .i64 f.l, .int .i64 0] 148)).alloc (.cells #[.int .i64 k] 3)).heap.size = wr.heap.size + 1 + 1 := by simp
            have HS4 := Lib.hid (show w.heap.size + 1 ≤ (wr.alloc (.cells #[.int .i64 f.a, .int .i64 f.b, .int .i64 f.l, .int .i64 0] 148)).heap.size by rw [← HSZ.out]; exact HBF.out.size)
            have HO1 := Lib.hid (show Ofr ((wr.alloc (.cells #[.int .i64 f.a, .int .i64 f.b, .int .i64 f.l, .int .i64 0] 148)).alloc (.cells #[.int .i64 k] 3)) (wr.alloc (.cells #[.int .i64 f.a, .int .i64 f.b, .int .i64 f.l, .int .i64 0] 148)).heap.size (inD [(k : Int)]) (.slice (some ⟨wr.heap.size + 1, 0, none⟩) 1 1) by rw [← hs4]; exact (own_one _ (k : Int) 3).ofr)
            have HB1 := Lib.hid ((Below.refl (wr.alloc (.cells #[.int .i64 f.a, .int .i64 f.b, .int .i64 f.l, .int .i64 0] 148)).heap.size (wr.alloc (.cells #[.int .i64 f.a, .int .i64 f.b, .int .i64 f.l, .int .i64 0] 148))).alloc (Nat.le_refl _) (.cells #[.int .i64 k] 3))
            have HB2 := Lib.hid (HBF.out.alloc HBF.out.size (.cells #[.int .i64 k] 3))
            have HS5 := Lib.hid hs5
            clear hs4
            clear HGY HGN hs5
            go_wp2_with (at_builtin; go_loud (refine wpList_grow rfl (.tmp 51) (.tmp 54) 63 29 rfl Tryz.underlying63 (.slice none 0 0) 1 24 Tryz.infoRw rfl (by decide) (by decide) (w.heap.size + 1) out.length (.slice aX out.length cX) _ _ rfl HG2.out HS4.out HB1.out [.slice (some ⟨wr.heap.size + 1, 0, none⟩) 1 1] (Newd.one HO1.out) rfl (by simp [Value.oneCell']) (by rw [HS5.out]; rfl) HLO.out ?_); intro v5 w5 o5 g5 l5; have HG5 := Lib.hid (Grw.next HE2.out o5); have HB5 := Lib.hid (HB2.out.grown g5 HB2.out.size (fun q hq => (by rw [HSZ.out]; exact (HG2.out.own q hq).1))); clear o5 g5 l5)
            go_roundw
            case rel => exact ⟨k + 1, hlk, by go_num, HG5.out, HB5.out⟩
            case measure => simp [intOf]; omega
          · have HE2 := Lib.hid (HGN.out hr)
            have d1 : (f.r == 0) = false := by simp [hr]
            have d2 : decide (f.r = 0) = false := by simp [hr]
            clear hr HGY HGN
            go_wp2
            go_roundw
            case rel => exact ⟨k + 1, hlk, by go_num, by rw [HE2.out]; exact HG2.out, HBF.out⟩
            case measure => simp [intOf]; omega
        · obtain rfl : m2 = k := by omega
          have HE := Lib.hid (HGR.out)
          generalize A ++ gS n m2 = out at *
          go_wp2
          go_ret
          exact ⟨_, rfl, by rw [HE.out]; exact HG.out.ofr.mono (Nat.le_succ _), HBX.out.trans (HB.out.mono HBX.out.size)⟩
end Go.Proofs.YtmkkdenhjfjmgaaGreat
namespace Go.Proofs.YtmkkdenhjfjmgaaGreat
open Go.RowKit Go.Sort
set_option maxRecDepth 100000

/-- No fiber of a risk. -/
theorem grpTo_nil {n : Net} {ri : Int} {k : Nat} (h : ∀ i, i < k → ¬ (fbA n i).r = ri) : (grpTo n ri k).length = 0 := by
  induction k with
  | zero => rfl
  | succ k ih => rw [grpTo_no (h k (Nat.lt_succ_self _))]; exact ih fun i hi => h i (by omega)
theorem grpTo_mem {n : Net} {ri : Int} {k i : Nat} (hi : i < k) (h : (fbA n i).r = ri) : ¬ (grpTo n ri k).length = 0 := by
  induction k with
  | zero => omega
  | succ k ih =>
    by_cases e : i = k
    · subst e; rw [grpTo_yes h, List.length_append]; simp
    · by_cases e2 : (fbA n k).r = ri
      · rw [grpTo_yes e2, List.length_append]; simp
      · rw [grpTo_no e2]; exact ih (by omega)
theorem gA_found {n : Net} {g k : Nat} (hk : k < n.fs.length) (h : (fbA n k).r = ((g + 1 : Nat) : Int)) : gA n (g + 1) = gA n g ++ [grpF n k] := by
  rw [gA_yes (grpTo_mem hk h)]
  unfold grpF grp
  rw [if_neg (by rw [h]; omega), h]
theorem upto_not {k : Nat} {P : Nat → Prop} (h : ∀ i, i < k → P i) (hk : P k) : ∀ i, i < k + 1 → P i := fun i hi => by
  rcases Nat.lt_succ_iff_lt_or_eq.1 hi with e | rfl
  · exact h i e
  · exact hk

set_option maxHeartbeats 3200000 in
theorem l2Groups_any (u1 u2 : Value) (n : Net) (w : World) (h : NetR w (.agg #[u1, u2]) n) (hl : n.fs.length ≤ 100000) :
    Calls Tryz.prog 96 #[.agg #[u1, u2]] w fun e w' => ∃ v', e = .returned v' ∧ Ofr w' w.heap.size (ssD (grps n)) v' ∧ Below w.heap.size w w' := by
  have HN := Lib.hid (fun i hi w' (hb : Below w.heap.size w w') => l2Group_any u1 u2 n i w' (h.behind hb) hi hl)
  obtain ⟨x1, x2, e, r1, r2, hsm⟩ := h
  simp only [Value.agg.injEq, Array.mk.injEq, List.cons.injEq, and_true] at e
  obtain ⟨rfl, rfl⟩ := e
  obtain ⟨a1, m1, c1, rfl⟩ := Rdt.slice' r1
  obtain ⟨a2, m2, c2, rfl, HN2, hc2, hm2, ha2⟩ := flt_opn (m := 4) (enc := fibE) (fun _ => rfl) (by omega) nilB r2
  have hm10 : m2 ≤ 100000 := by have := HN2.out; omega
  have HC := Lib.hid ha2
  obtain ⟨bx, bc, blt, -⟩ := box_facts w #[.slice a1 m1 c1, .slice a2 m2 c2] 35
  have q0 := bc 0 _ rfl
  have q1 := bc 1 _ rfl
  have HBX := Lib.hid bx
  clear bc bx ha2 r1 r2 hl hsm hc2 hm2
  have hs1 : (w.alloc (.cells #[.slice a1 m1 c1, .slice a2 m2 c2] 35)).heap.size = w.heap.size + 1 := by simp
  have HSZ := Lib.hid hs1
  have HG0 := Lib.hid (show Grw ((w.alloc (.cells #[.slice a1 m1 c1, .slice a2 m2 c2] 35)).alloc (.cells #[] 29)) (w.heap.size + 1) 29 1 (.slice (some ⟨w.heap.size + 1, 0, none⟩) 0 0) 0 [] by rw [← hs1]; exact Grw.start 29 (Nat.le_refl _))
  have HB0 := Lib.hid ((Below.refl (w.alloc (.cells #[.slice a1 m1 c1, .slice a2 m2 c2] 35)).heap.size (w.alloc (.cells #[.slice a1 m1 c1, .slice a2 m2 c2] 35))).alloc (Nat.le_refl _) (.cells #[] 29))
  have HGR := Lib.hid (show grps n = gA n 9 ++ gS n m2 by unfold grps; rw [HN2.out])
  have HAY := Lib.hid (fun g k hk h => @gA_found n g k hk h)
  have HAN := Lib.hid (fun g h => @gA_no n g (grpTo_nil h))
  have HGF := Lib.hid (fun k hk w' hb => HN.out k hk w' hb)
  rw [HN2.out] at HAY HAN HGF
  clear hs1 HN
  go_enter Tryz.func96, Tryz.ntmps96
  go_wp2
  generalize w.alloc (.cells #[.slice a1 m1 c1, .slice a2 m2 c2] 35) = w1 at *
  generalize w1.alloc (.cells #[] 29) = w2 at *
  go_loopw [3, 4] (fun s3 s4 wr => ∃ g : Nat, g ≤ 9 ∧ s4 = .int .i64 (g + 1 : Nat) ∧ Hid (Grw wr (w.heap.size + 1) 29 1 s3 (gA n g).length ((gA n g).map inD)) ∧ Hid (Below w1.heap.size w1 wr)) (fun _ i _ => 20 - (intOf i).toNat)
  case atStart => exact ⟨0, Nat.zero_le _, rfl, HG0.out, HB0.out⟩
  case round =>
    obtain ⟨g, hg, rfl, HG, HB⟩ := hrel
    obtain ⟨wo, hwo⟩ : ∃ wo, wo = wr := ⟨_, rfl⟩
    subst hwo
    obtain ⟨-, aR, cR, rfl⟩ := HG.out.form
    by_cases hlt : g < 9
    · have hgI : ((g + 1 : Nat) : Int) ≤ 9 := by omega
      have HLG := Lib.hid (gA_len n g)
      have HLG2 := Lib.hid (show (gA n g).length ≤ 1000000 by have := HLG.out; omega)
      have HY := Lib.hid (HAY.out g)
      have HN := Lib.hid (HAN.out g)
      obtain ⟨ri, hri⟩ : ∃ ri : Int, ((g + 1 : Nat) : Int) = ri := ⟨_, rfl⟩
      have HRI := Lib.hid hri
      rw [hri] at HY HN hgI
      have hri1 : IntKind.i64.wrap (ri + 1) = ((g + 1 + 1 : Nat) : Int) := by rw [IntWalk.i64_in _ (by omega)]; omega
      rw [hri]
      clear hri
      go_wp2
      go_loopw [3, 5] (fun s3 i wx => ∃ k : Nat, k ≤ m2 ∧ i = .int .i64 k ∧ s3 = .slice aR (gA n g).length cR ∧ Hid (∀ i, i < k → ¬ (fbA n i).r = ri) ∧ Hid (Below wo.heap.size wo wx)) (fun _ i _ => m2 - (intOf i).toNat)
      case atStart => exact ⟨0, Nat.zero_le _, rfl, rfl, (fun i hi => absurd hi (Nat.not_lt_zero i)), Below.refl _ _⟩
      case round =>
        obtain ⟨k, hk, rfl, rfl, HK, HBI⟩ := hrel
        have hB2 := HB.out.trans (HBI.out.mono HB.out.size)
        have HB2 := Lib.hid hB2
        have p1 := (hB2.cell (p := ⟨w.heap.size, 1, none⟩) (by rw [HSZ.out]; exact Nat.lt_succ_self _)).trans q1
        by_cases hlk : k < m2
        · have hltI : (k : Int) < (m2 : Int) := by omega
          obtain ⟨b, off, rfl, hbs, hcs⟩ := HC.out (by omega)
          have BW := HBX.out.trans (hB2.mono HBX.out.size)
          have HBW := Lib.hid BW
          have e3 := (BW.cell (p := ⟨b, off + k * 4 + 3, none⟩) hbs).trans (hcs k hlk 3 _ rfl)
          have p0 := (hB2.cell (p := ⟨w.heap.size, 0, none⟩) (by rw [HSZ.out]; exact Nat.lt_succ_self _)).trans q0
          have HUN := Lib.hid (fun h => upto_not (P := fun i => ¬ (fbA n i).r = ri) HK.out (k := k) h)
          have HFD := Lib.hid (HY.out k hlk)
          unfold fbA at HUN HFD
          clear BW hcs hB2
          generalize hrk : (n.fs[k]?.getD nilB).r = rk at *
          by_cases hr : rk = ri
          · have d1 : (rk == ri) = true := by simp [hr]
            have d2 : decide (rk = ri) = true := by simp [hr]
            have HE := Lib.hid (HFD.out hr)
            have HGI := Lib.hid (HG.out.below HBI.out)
            have HL2 := Lib.hid (HGF.out k hlk wr HBW.out)
            have HS2 := Lib.hid (show w.heap.size + 1 ≤ wr.heap.size by rw [← HSZ.out]; exact HB2.out.size)
            clear HUN HN HFD HY hr
            generalize grpF n k = gr at *
            go_wp2_with fail
            refine HL2.out.mono ?_
            rintro e w4 ⟨v4, rfl, o4, b4⟩
            obtain ⟨aI, cI, nI, -, rfl, -, -, -⟩ := o4.rd.opn
            have HO4 := Lib.hid o4.ofr
            have HB4 := Lib.hid b4
            have HB5 := Lib.hid (HB2.out.trans (b4.mono HB2.out.size))
            clear b4 o4 HL2
            go_wp2_with (at_builtin; go_loud (refine wpList_grow rfl (.tmp 27) (.tmp 31) 63 29 rfl Tryz.underlying63 (.slice none 0 0) 1 24 Tryz.infoRw rfl (by decide) (by decide) (w.heap.size + 1) (gA n g).length (.slice aR (gA n g).length cR) _ _ rfl HGI.out HS2.out HB4.out [.slice aI nI cI] (Newd.one HO4.out) rfl (by simp [Value.oneCell']) rfl HLG2.out ?_); intro v5 w5 o5 g5 l5; have HG5 := Lib.hid (Grw.next HE.out o5); have HB5 := Lib.hid (HB5.out.grown g5 HB5.out.size (fun q hq => (by rw [HSZ.out]; exact (HGI.out.own q hq).1))); clear o5 g5 l5)
            go_roundw
            case rel => exact ⟨g + 1, hlt, by go_num, HG5.out, HB5.out⟩
            case measure => have := HRI.out; simp [intOf]; omega
          · have d1 : (rk == ri) = false := by simp [hr]
            have d2 : decide (rk = ri) = false := by simp [hr]
            have HE := Lib.hid (HUN.out hr)
            clear HFD hr
            go_wp2
            go_roundw
            case rel => exact ⟨k + 1, hlk, by go_num, rfl, HE.out, HBI.out⟩
            case measure => simp [intOf]; omega
        · obtain rfl : m2 = k := by omega
          have HE := Lib.hid (HN.out HK.out)
          have HGI := Lib.hid (HG.out.below HBI.out)
          clear HY HN hB2
          go_wp2
          go_roundw
          case rel => exact ⟨g + 1, hlt, by go_num, by rw [HE.out]; exact HGI.out, HB2.out⟩
          case measure => have := HRI.out; simp [intOf]; omega
    · obtain rfl : g = 9 := by omega
      have HGB := Lib.hid (HB.out)
      rw [show ((9 + 1 : Nat) : Int) = 10 from rfl]
      go_wp2
      have HG1 := Lib.hid (show Grw wo (w.heap.size + 1) 29 1 (.slice aR (gA n 9).length cR) (gA n 9 ++ gS n 0).length ((gA n 9 ++ gS n 0).map inD) by simpa [gS] using HG.out)
      have HLG := Lib.hid (gA_len n 9)
      generalize gA n 9 = A at *
      go_loopw [3, 6] (fun s3 i wx => ∃ k : Nat, k ≤ m2 ∧ i = .int .i64 k ∧ Hid (Grw wx (w.heap.size + 1) 29 1 s3 (A ++ gS n k).length ((A ++ gS n k).map inD)) ∧ Hid (Below w1.heap.size w1 wx)) (fun _ i _ => m2 - (intOf i).toNat)
      case atStart => exact ⟨0, Nat.zero_le _, rfl, HG1.out, HGB.out⟩
      case round =>
        clear HG HG1 HB HGB
        obtain ⟨k, hk, rfl, HG, HB⟩ := hrel
        obtain ⟨-, aX, cX, rfl⟩ := HG.out.form
        have p1 := (HB.out.cell (p := ⟨w.heap.size, 1, none⟩) (by rw [HSZ.out]; exact Nat.lt_succ_self _)).trans q1
        by_cases hlk : k < m2
        · have hltI : (k : Int) < (m2 : Int) := by omega
          obtain ⟨b, off, rfl, hbs, hcs⟩ := HC.out (by omega)
          have BW := HBX.out.trans (HB.out.mono HBX.out.size)
          have e3 := (BW.cell (p := ⟨b, off + k * 4 + 3, none⟩) hbs).trans (hcs k hlk 3 _ rfl)
          have HGY := Lib.hid (@gS_yes n k)
          have HGN := Lib.hid (@gS_no n k)
          have HLO := Lib.hid (show (A ++ gS n k).length ≤ 1000000 by rw [List.length_append]; have h1 := gS_len n k; have h2 := HLG.out; omega)
          unfold fbA at HGY HGN
          clear BW hcs
          generalize (n.fs[k]?.getD nilB).r = rr at *
          by_cases hr : rr = 0
          · have HE2 := Lib.hid (show A ++ gS n (k + 1) = (A ++ gS n k) ++ [[(k : Int)]] by rw [HGY.out hr, List.append_assoc])
            subst hr
            generalize A ++ gS n k = out at *
            have HS4 := Lib.hid (show w.heap.size + 1 ≤ wr.heap.size by rw [← HSZ.out]; exact HB.out.size)
            have HO1 := Lib.hid ((own_one wr (k : Int) 3).ofr)
            have HB1 := Lib.hid ((Below.refl wr.heap.size wr).alloc (Nat.le_refl _) (.cells #[.int .i64 k] 3))
            have HB2 := Lib.hid (HB.out.alloc HB.out.size (.cells #[.int .i64 k] 3))
            have HS5 := Lib.hid (show (wr.alloc (.cells #[.int .i64 k] 3)).heap.size = wr.heap.size + 1 by simp)
            clear HGY HGN
            go_wp2_with (at_builtin; go_loud (refine wpList_grow rfl (.tmp 47) (.tmp 50) 63 29 rfl Tryz.underlying63 (.slice none 0 0) 1 24 Tryz.infoRw rfl (by decide) (by decide) (w.heap.size + 1) out.length (.slice aX out.length cX) _ _ rfl HG.out HS4.out HB1.out [.slice (some ⟨wr.heap.size, 0, none⟩) 1 1] (Newd.one HO1.out) rfl (by simp [Value.oneCell']) (by rw [HS5.out]; rfl) HLO.out ?_); intro v5 w5 o5 g5 l5; have HG5 := Lib.hid (Grw.next HE2.out o5); have HB5 := Lib.hid (HB2.out.grown g5 HB2.out.size (fun q hq => (by rw [HSZ.out]; exact (HG.out.own q hq).1))); clear o5 g5 l5)
            go_roundw
            case rel => exact ⟨k + 1, hlk, by go_num, HG5.out, HB5.out⟩
            case measure => simp [intOf]; omega
          · have HE2 := Lib.hid (HGN.out hr)
            have d1 : (rr == 0) = false := by simp [hr]
            have d2 : decide (rr = 0) = false := by simp [hr]
            clear hr HGY HGN
            go_wp2
            go_roundw
            case rel => exact ⟨k + 1, hlk, by go_num, by rw [HE2.out]; exact HG.out, HB.out⟩
            case measure => simp [intOf]; omega
        · obtain rfl : m2 = k := by omega
          have HE := Lib.hid (HGR.out)
          generalize A ++ gS n m2 = out at *
          go_wp2
          go_ret
          exact ⟨_, rfl, by rw [HE.out]; exact HG.out.ofr.mono (Nat.le_succ _), HBX.out.trans (HB.out.mono HBX.out.size)⟩
end Go.Proofs.YtmkkdenhjfjmgaaGreat
namespace Go.Proofs.YtmkkdenhjfjmgaaGreat
open Go.RowKit Go.Sort
set_option maxRecDepth 100000

theorem Rd.takeK {w : World} {b off n cap k : Nat} {xs : List Int} (h : Rd w (.slice (some ⟨b, off, none⟩) n cap) xs) (hk : k ≤ xs.length) : Rd w (.slice (some ⟨b, off, none⟩) k cap) (xs.take k) := by
  rcases h with ⟨e, _⟩ | ⟨b', off', cap', e, h1, h2, h3, h4⟩
  · simp at e
  · simp only [Value.slice.injEq, Option.some.injEq, Addr.mk.injEq] at e
    obtain ⟨⟨rfl, rfl, -⟩, -, rfl⟩ := e
    have hl : (xs.take k).length = k := by rw [List.length_take]; omega
    exact .inr ⟨b, off, cap, by rw [hl], by rw [hl]; omega, h2, h3, fun j hj => by rw [List.getElem?_take, if_pos (by omega)]; exact h4 j (by omega)⟩
theorem needU_no {p : Pln} {d xs : List Int} {k : Nat} (hk : k < xs.length) (h : uq (hmks p) (dmk p d) (xs.eraseIdx k) = true) : needU p d xs = false := by
  unfold needU
  rw [show (List.range xs.length).any (fun k => uniB p d (xs.eraseIdx k)) = true from List.any_eq_true.2 ⟨k, List.mem_range.2 hk, h⟩]; rfl
theorem needU_yes {p : Pln} {d xs : List Int} (h : ∀ k, k < xs.length → uq (hmks p) (dmk p d) (xs.eraseIdx k) = false) : needU p d xs = true := by
  unfold needU
  rw [show (List.range xs.length).any (fun k => uniB p d (xs.eraseIdx k)) = false from by rw [List.any_eq_false]; intro k hk; have := h k (List.mem_range.1 hk); unfold uq at this; unfold uniB; rw [this]; simp]; rfl
set_option maxHeartbeats 3200000 in
theorem l25Needed_any (vh vx : Value) (p : Pln) (d xs : List Int) (w : World) (hh : Rd w vh (nats (hmks p))) (hx : Rd w vx xs) (hp : plnOk p = true) (hb : ∀ i : Nat, i < xs.length → 0 ≤ xs[i]?.getD 0 ∧ xs[i]?.getD 0 < (hmks p).length) (hl : xs.length ≤ 23) :
    Calls Tryz.prog 142 #[vh, vx, .int .i64 (dmk p d)] w fun e w' => e = .returned (.bool (needU p d xs)) ∧ Below w.heap.size w w' := by
  have HUN := Lib.hid (fun k w' (hb' : Below w.heap.size w w') v' (hv : Rd w' v' (xs.eraseIdx k)) => l25Union_any vh v' (hmks p) (xs.eraseIdx k) w' (hh.belowAll hb') hv (fun m hm => Nat.lt_of_lt_of_le (hmks_mem p m hm) (Nat.pow_le_pow_right (by omega) (plnOk_sz hp).2.1)) (fun i hi => by
    have hm := List.mem_of_mem_eraseIdx (List.getElem_mem hi)
    obtain ⟨j, hj, e⟩ := List.mem_iff_getElem.1 hm
    have := hb j hj
    rw [List.getElem?_eq_getElem hj, e] at this
    rw [List.getElem?_eq_getElem hi]; exact this))
  have HRX := Lib.hid (fun w' (hb : Below w.heap.size w w') => hx.belowAll hb)
  have HNO := Lib.hid (fun k h1 h2 => @needU_no p d xs k h1 h2)
  have HYE := Lib.hid (fun h => @needU_yes p d xs h)
  obtain ⟨ah, ch, nh, -, rfl, -, -, -⟩ := hh.opn
  obtain ⟨ax, cx, n, HN, rfl, hncx, hnx, hcx⟩ := hx.opn
  have HC := Lib.hid hcx
  rw [HN.out] at HNO HYE
  have hn23 : n ≤ 23 := by rw [← HN.out]; exact hl
  generalize needU p d xs = R at *
  have HUQ := Lib.hid (fun k => show uq (hmks p) (dmk p d) (xs.eraseIdx k) = decide (uni (hmks p) (xs.eraseIdx k) = dmk p d) from rfl)
  generalize dmk p d = M at *
  clear hh hx hcx hb hl hp
  go_enter Tryz.func142, Tryz.ntmps142
  go_wp2
  go_loopw [7, 8] (fun i _ wr => ∃ k : Nat, k ≤ n ∧ i = .int .i64 k ∧ Hid (∀ j, j < k → uq (hmks p) M (xs.eraseIdx j) = false) ∧ Hid (Below w.heap.size w wr)) (fun i _ _ => n - (intOf i).toNat)
  case atStart => exact ⟨0, Nat.zero_le _, rfl, fun j hj => absurd hj (Nat.not_lt_zero j), Below.refl _ _⟩
  case round =>
    obtain ⟨k, hk, rfl, HK, HB⟩ := hrel
    by_cases hlt : k < n
    · have hltI : (k : Int) < (n : Int) := by omega
      obtain ⟨b, off, rfl, hbs, hcs⟩ := HC.out (by omega)
      obtain ⟨k1, hk1⟩ : ∃ k1, k1 = k + 1 := ⟨_, rfl⟩
      have hwk : IntKind.i64.wrap ((k : Int) + 1) = (k1 : Int) := by rw [IntWalk.i64_in _ (by omega)]; omega
      have HRT := Lib.hid (fun w' (hb : Below wr.heap.size wr w') => ((HRX.out wr HB.out).belowAll hb).takeK (k := k) (by rw [HN.out]; omega))
      have HER := Lib.hid (show xs.eraseIdx k = xs.take k ++ xs.drop k1 from by rw [List.eraseIdx_eq_take_drop_succ, hk1])
      have HTL := Lib.hid (show (xs.take k).length = k by rw [List.length_take, HN.out]; omega)
      have HDL := Lib.hid (show (xs.drop k1).length = n - k1 by rw [List.length_drop, HN.out])
      have hbsw : b < wr.heap.size := Nat.lt_of_lt_of_le hbs HB.out.size
      have HDK := Lib.hid (fun (W : World) (hW : Below wr.heap.size wr W) j (hj : j < n - k1) => show W.cell? ⟨b, off + k1 + j, none⟩ = some (.int .i64 ((xs.drop k1)[j]?.getD 0)) by
        rw [List.getElem?_drop, Nat.add_assoc]; exact (hW.cell hbsw).trans ((HB.out.cell (p := ⟨b, off + (k1 + j), none⟩) hbs).trans (hcs (k1 + j) (by omega))))
      have HUK := Lib.hid (fun w' (hb : Below wr.heap.size wr w') v' hv => HUN.out k w' (HB.out.trans (hb.mono HB.out.size)) v' hv)
      have HNK := Lib.hid (HNO.out k hlt)
      have HST := Lib.hid (fun h => upto_not (P := fun j => uq (hmks p) M (xs.eraseIdx j) = false) HK.out (k := k) h)
      have HQK := Lib.hid (HUQ.out k)
      have HOW := Lib.hid (fun w' (hb : Below wr.heap.size wr w') => show Calls Tryz.prog 163 #[.slice (some ⟨b, off, none⟩) k cx] w' (fun e w5 => ∃ v5, e = .returned v5 ∧ w5.ownsRow wr.heap.size 3 1 v5 k (ints (xs.take k)) ∧ Below wr.heap.size wr w5) from (l1OwnE_any _ (xs.take k) w' (HRT.out w' hb) (by rw [HTL.out]; omega)).mono (by
        rintro e w5 ⟨v5, rfl, r5, b5⟩
        rw [HTL.out] at r5
        exact ⟨v5, rfl, row_mono r5 hb.size, hb.trans (b5.mono hb.size)⟩))
      have bel0 : Below wr.heap.size wr wr.drew := (Below.refl wr.heap.size wr).drew
      have hkx : k < xs.length := by rw [HN.out]; exact hlt
      generalize hqe : uq (hmks p) M (xs.eraseIdx k) = q at *
      clear hcs hbs hkx hlt hqe
      generalize xs.eraseIdx k = er at *
      generalize xs.take k = ts at *
      generalize xs.drop k1 = ds at *
      have i1 : (0 : Int) ≤ (k : Int) := by omega
      have i2 : (k : Int) ≤ (cx : Int) := by omega
      have i3 : k ≤ cx := by omega
      have j1 : (0 : Int) ≤ (k1 : Int) := by omega
      have j2 : (k1 : Int) ≤ (n : Int) := by omega
      have j3 : k1 ≤ n := by omega
      have j4 : (n : Int) ≤ (cx : Int) := by omega
      have j5 : (k1 : Int) ≤ (cx : Int) := by omega
      clear hk1
      by_cases hcm : cx = k1
      · have hnk : n = k1 := by omega
        have HDN := Lib.hid (show ds = [] from List.eq_nil_of_length_eq_zero (by rw [HDL.out]; omega))
        subst hcm
        subst hnk
        rw [HDN.out] at HER
        go_wp2
        go_region_law (first
          | ((refine step_of_list rfl ?_); (with_reducible show wpList _ _ _ (⟨some 23, _, _, _, _, _⟩ :: _) _ _); (go_loud (refine wpList_catA rfl (.tmp 18) (.tmp 22) 29 rfl Tryz.underlying29 Tryz.infoInt wr.heap.size v5 k ts (by rfl) r5 (some ⟨b, off, none⟩) 0 0 [] (by rfl) rfl (fun e => by cases e) (fun h => absurd h (Nat.lt_irrefl 0)) (by omega) B5.size ?_)); (intro v6 w6 r6 g6); (have B6 := Below.grown B5 g6 B5.size (fun q hq => (r5.lt q hq).1)); (have o6 := own_of_row r6); (obtain ⟨a6, c6, n6, -, rfl, -⟩ := o6.rd.opn); (unfold wpList); (refine ⟨rfl, ?_⟩))
          | (go_simp; go_at_call 163; (with_reducible refine (HOW.out _ bel0).mono ?_); rintro e w5 ⟨v5, rfl, r5, B5⟩))
        all_goals
          have HO6 := Lib.hid (show Rd w6 (.slice a6 n6 c6) er from by rw [HER.out]; exact o6.rd)
          have HB6 := Lib.hid (HB.out.trans (B6.mono HB.out.size))
          have HU6 := Lib.hid (HUK.out w6 B6 _ HO6.out)
          clear r5 B5 r6 g6 o6 B6 bel0 hwk
          generalize uni (hmks p) er = U at *
          by_cases hq : U = M
          · have hqi : ((U : Int) == (M : Int)) = true := by rw [beq_iff_eq]; omega
            have HR := Lib.hid (HNK.out (by rw [HQK.out]; exact decide_eq_true hq))
            clear hq
            go_wp2_with fail
            refine HU6.out.mono ?_
            rintro e w7 ⟨rfl, rfl⟩
            go_wp2
            go_ret
            exact ⟨by rw [HR.out]; rfl, HB6.out⟩
          · have hqi : ((U : Int) == (M : Int)) = false := by rw [beq_eq_false_iff_ne]; omega
            have HS2 := Lib.hid (HST.out (show q = false from by rw [HQK.out]; exact decide_eq_false hq))
            clear hq
            go_wp2_with fail
            refine HU6.out.mono ?_
            rintro e w7 ⟨rfl, rfl⟩
            go_wp2
            go_roundw
            case rel => exact ⟨k + 1, by omega, by go_num, HS2.out, HB6.out⟩
            case measure => simp [intOf]; omega
      · have hck : ¬ cx - k1 = 0 := by omega
        go_wp2
        go_region_law (first
          | ((refine step_of_list rfl ?_); (with_reducible show wpList _ _ _ (⟨some 23, _, _, _, _, _⟩ :: _) _ _); (go_loud (refine wpList_catA rfl (.tmp 18) (.tmp 22) 29 rfl Tryz.underlying29 Tryz.infoInt wr.heap.size v5 k ts (by rfl) r5 _ (n - k1) _ ds (by rfl) HDL.out (fun e => by cases e) (fun _ => ⟨b, off + k1, rfl, HDK.out _ B5⟩) (by omega) B5.size ?_)); (intro v6 w6 r6 g6); (have B6 := Below.grown B5 g6 B5.size (fun q hq => (r5.lt q hq).1)); (have o6 := own_of_row r6); (obtain ⟨a6, c6, n6, -, rfl, -⟩ := o6.rd.opn); (unfold wpList); (refine ⟨rfl, ?_⟩))
          | (go_simp; go_at_call 163; (with_reducible refine (HOW.out _ bel0).mono ?_); rintro e w5 ⟨v5, rfl, r5, B5⟩))
        all_goals
          have HO6 := Lib.hid (show Rd w6 (.slice a6 n6 c6) er from by rw [HER.out]; exact o6.rd)
          have HB6 := Lib.hid (HB.out.trans (B6.mono HB.out.size))
          have HU6 := Lib.hid (HUK.out w6 B6 _ HO6.out)
          clear r5 B5 r6 g6 o6 B6 bel0 hwk
          generalize uni (hmks p) er = U at *
          by_cases hq : U = M
          · have hqi : ((U : Int) == (M : Int)) = true := by rw [beq_iff_eq]; omega
            have HR := Lib.hid (HNK.out (by rw [HQK.out]; exact decide_eq_true hq))
            clear hq
            go_wp2_with fail
            refine HU6.out.mono ?_
            rintro e w7 ⟨rfl, rfl⟩
            go_wp2
            go_ret
            exact ⟨by rw [HR.out]; rfl, HB6.out⟩
          · have hqi : ((U : Int) == (M : Int)) = false := by rw [beq_eq_false_iff_ne]; omega
            have HS2 := Lib.hid (HST.out (show q = false from by rw [HQK.out]; exact decide_eq_false hq))
            clear hq
            go_wp2_with fail
            refine HU6.out.mono ?_
            rintro e w7 ⟨rfl, rfl⟩
            go_wp2
            go_roundw
            case rel => exact ⟨k + 1, by omega, by go_num, HS2.out, HB6.out⟩
            case measure => simp [intOf]; omega
    · obtain rfl : n = k := by omega
      have HE := Lib.hid (HYE.out HK.out)
      go_wp2
      go_ret
      exact ⟨by rw [HE.out]; rfl, HB.out⟩
end Go.Proofs.YtmkkdenhjfjmgaaGreat
namespace Go.Proofs.YtmkkdenhjfjmgaaGreat
open Go.RowKit Go.Sort
set_option maxRecDepth 100000

set_option maxHeartbeats 1600000 in
theorem l1Rising_any (v : Value) (xs : List Int) (m : Nat) (w : World) (h : Rd w v xs) (hm : m ≤ 1000000) :
    Calls Tryz.prog 104 #[v, .int .i64 0, .int .i64 ((m : Int) - 1)] w fun e w' => e = .returned (.bool (setOk xs m)) ∧ Below w.heap.size w w' := by
  obtain ⟨a, ca, n, HN, rfl, _, hn, hca⟩ := h.opn
  have HA := Lib.hid hca
  have HX := Lib.hid (fun i hi h => @setOk_at xs m i hi h)
  have HY := Lib.hid (@setOk_all xs m)
  rw [HN.out] at HX HY
  clear hca h
  generalize setOk xs m = q at *
  obtain ⟨hi, hhi⟩ : ∃ hi, (m : Int) - 1 = hi := ⟨_, rfl⟩
  have HIN := Lib.hid (fun (x : Int) (w : World) => l1In_any x 0 hi w)
  rw [hhi]
  go_enter Tryz.func104, Tryz.ntmps104
  go_wp2
  go_loopw [7] (fun i wr => ∃ k : Nat, k ≤ n ∧ i = .int .i64 k ∧ Hid (∀ i, i < k → seAt xs m i = true) ∧ Hid (Below w.heap.size w wr)) (fun i _ => n - (intOf i).toNat)
  case atStart => exact ⟨0, Nat.zero_le _, rfl, fun i hi => by omega, Below.refl _ _⟩
  case round =>
    obtain ⟨k, hk, rfl, HK, HB⟩ := hrel
    by_cases hlt : k < n
    · have hltI : (k : Int) < (n : Int) := by omega
      obtain ⟨b, off, rfl, hbs, hcs⟩ := HA.out (by omega)
      have c0 := (HB.out.cell (p := ⟨b, off + k, none⟩) hbs).trans (hcs k hlt)
      have HV := Lib.hid (show seAt xs m k = (inB (xs[k]?.getD 0) 0 hi && !(decide (0 < k) && decide (xs[k]?.getD 0 ≤ xs[k - 1]?.getD 0))) by rw [← hhi]; rfl)
      have HNO := Lib.hid (HX.out k hlt)
      have HST := Lib.hid (fun h => upto_succ HK.out (k := k) h)
      generalize xs[k]?.getD 0 = x at *
      have HI2 := Lib.hid (HIN.out x)
      cases hin : inB x 0 hi
      · have HF := Lib.hid (HNO.out (by rw [HV.out, hin]; rfl))
        clear hcs HV HST HNO
        rw [hin] at HI2
        go_wp2
        have j0 := rg c0
        clear c0
        refine wp_region_quiet_below (by kernel_rfl) (by kernel_rfl) ?_
        repeat (go_big_quiet_step (first | (go_at_call 86; exact rg_same (HI2.out _))))
        refine wpQuiet_nil ?_
        rintro _ ⟨⟨dq, osq⟩, rfl⟩
        have HBQ := Lib.hid (HB.out.trans ((below_regrown wr dq osq).mono HB.out.size))
        go_wp2
        go_ret
        exact ⟨by rw [HF.out]; rfl, HBQ.out⟩
      rw [hin] at HV
      by_cases hk0 : k = 0
      · have hk0b : decide (0 < k) = false := decide_eq_false (by omega)
        have hk0c : decide (0 < (k : Int)) = false := decide_eq_false (by omega)
        have HS := Lib.hid (HST.out (by rw [HV.out, hk0b]; rfl))
        clear hcs HV HST HNO hk0
        rw [hin] at HI2
        go_wp2
        have j0 := rg c0
        clear c0
        refine wp_region_quiet_below (by kernel_rfl) (by kernel_rfl) ?_
        repeat (go_big_quiet_step (first | (go_at_call 86; exact rg_same (HI2.out _))))
        refine wpQuiet_nil ?_
        rintro _ ⟨⟨dq, osq⟩, rfl⟩
        have HBQ := Lib.hid (HB.out.trans ((below_regrown wr dq osq).mono HB.out.size))
        go_wp2
        go_roundw
        case rel => exact ⟨k + 1, hlt, by go_num, HS.out, HBQ.out⟩
        case measure => simp [intOf]; omega
      obtain ⟨k', hk'⟩ : ∃ k', k = k' + 1 := ⟨k - 1, by omega⟩
      have hkk : k - 1 = k' := by omega
      have hk0b : decide (0 < k) = true := decide_eq_true (by omega)
      have hk0c : decide (0 < (k : Int)) = true := decide_eq_true (by omega)
      have hkp : (0 : Int) < (k : Int) := by omega
      have f1w : IntKind.i64.wrap ((k : Int) - 1) = (k' : Int) := by rw [IntWalk.i64_in _ (by omega)]; omega
      have f2w : (k' : Int) < (n : Int) := by omega
      have f3w : k' < n := by omega
      have c1 := (HB.out.cell (p := ⟨b, off + k', none⟩) hbs).trans (hcs k' f3w)
      have hv := HV.out
      rw [hkk, hk0b] at hv
      generalize xs[k']?.getD 0 = y at *
      have HV2 := Lib.hid hv
      clear hcs HV hk0 hk' hkk hv
      cases hge : decide (x ≤ y)
      · have HS := Lib.hid (HST.out (by rw [HV2.out, hge]; rfl))
        clear HV2 HST HNO
        rw [hin] at HI2
        go_wp2
        have j0 := rg c0
        have j1 := rg c1
        clear c0
        refine wp_region_quiet_below (by kernel_rfl) (by kernel_rfl) ?_
        repeat (go_big_quiet_step (first | (go_at_call 86; exact rg_same (HI2.out _))))
        refine wpQuiet_nil ?_
        rintro _ ⟨⟨dq, osq⟩, rfl⟩
        have HBQ := Lib.hid (HB.out.trans ((below_regrown wr dq osq).mono HB.out.size))
        go_wp2
        go_roundw
        case rel => exact ⟨k + 1, hlt, by go_num, HS.out, HBQ.out⟩
        case measure => simp [intOf]; omega
      · have HF := Lib.hid (HNO.out (by rw [HV2.out, hge]; rfl))
        clear HV2 HST HNO
        rw [hin] at HI2
        go_wp2
        have j0 := rg c0
        have j1 := rg c1
        clear c0
        refine wp_region_quiet_below (by kernel_rfl) (by kernel_rfl) ?_
        repeat (go_big_quiet_step (first | (go_at_call 86; exact rg_same (HI2.out _))))
        refine wpQuiet_nil ?_
        rintro _ ⟨⟨dq, osq⟩, rfl⟩
        have HBQ := Lib.hid (HB.out.trans ((below_regrown wr dq osq).mono HB.out.size))
        go_wp2
        go_ret
        exact ⟨by rw [HF.out]; rfl, HBQ.out⟩
    · obtain rfl : n = k := by omega
      have HE := Lib.hid (HY.out HK.out)
      go_wp2
      go_ret
      exact ⟨by rw [HE.out]; rfl, HB.out⟩
end Go.Proofs.YtmkkdenhjfjmgaaGreat
namespace Go.Proofs.YtmkkdenhjfjmgaaGreat
open Go.RowKit Go.Sort
set_option maxRecDepth 100000

def s1At (xs : List Int) (i : Nat) : Bool := inB (xs[i]?.getD 0) 1 999 && !(decide (0 < i) && decide (xs[i]?.getD 0 ≤ xs[i - 1]?.getD 0))
def ris1 (xs : List Int) : Bool := (List.range xs.length).all (s1At xs)
theorem ris1_at {xs : List Int} {i : Nat} (hi : i < xs.length) (h : s1At xs i = false) : ris1 xs = false := rng_no hi h
theorem ris1_all {xs : List Int} (h : ∀ i, i < xs.length → s1At xs i = true) : ris1 xs = true := rng_yes h
/-- The two tests agree if all numbers are those of lights. -/
theorem ris1_set {p : Pln} {d : List Int} (hp : plnOk p = true) (h : d.any (noL p) = false) : setOk d 1000 = ris1 d := by
  unfold setOk ris1
  rw [Bool.eq_iff_iff, List.all_eq_true, List.all_eq_true]
  have hd : ∀ i ∈ List.range d.length, seAt d 1000 i = s1At d i := fun i hi => by
    have hl := List.mem_range.1 hi
    unfold seAt s1At
    have hx : 0 ≤ lix p (d[i]?.getD 0) := by
      rw [List.any_eq_false] at h
      have := h (d[i]) (List.getElem_mem hl)
      unfold noL at this
      rw [List.getElem?_eq_getElem hl]
      simp at this
      exact this
    obtain ⟨k, hk, -, e⟩ := lix_some hx
    have hr := plnOk_idrng hp hk
    rw [e] at hr
    rw [inB_mk (by omega) (by omega), inB_mk hr.1 hr.2]
  exact ⟨fun q i hi => by rw [← hd i hi]; exact q i hi, fun q i hi => by rw [hd i hi]; exact q i hi⟩
theorem dwOk_spec {p : Pln} {d : List Int} : dwOk p d = (plnOk p && (ris1 d && !(d.any (noL p)))) := by
  unfold dwOk
  cases hp : plnOk p
  · rfl
  · cases h : d.any (noL p)
    · rw [ris1_set hp h]
    · simp
set_option maxHeartbeats 1600000 in
theorem l1Rising1_any (v : Value) (xs : List Int) (w : World) (h : Rd w v xs) :
    Calls Tryz.prog 104 #[v, .int .i64 1, .int .i64 999] w fun e w' => e = .returned (.bool (ris1 xs)) ∧ Below w.heap.size w w' := by
  obtain ⟨a, ca, n, HN, rfl, _, hn, hca⟩ := h.opn
  have HA := Lib.hid hca
  have HX := Lib.hid (fun i hi h => @ris1_at xs i hi h)
  have HY := Lib.hid (@ris1_all xs)
  rw [HN.out] at HX HY
  clear hca h
  generalize ris1 xs = q at *
  have HIN := Lib.hid (fun (x : Int) (w : World) => l1In_any x 1 999 w)
  go_enter Tryz.func104, Tryz.ntmps104
  go_wp2
  go_loopw [7] (fun i wr => ∃ k : Nat, k ≤ n ∧ i = .int .i64 k ∧ Hid (∀ i, i < k → s1At xs i = true) ∧ Hid (Below w.heap.size w wr)) (fun i _ => n - (intOf i).toNat)
  case atStart => exact ⟨0, Nat.zero_le _, rfl, fun i hi => by omega, Below.refl _ _⟩
  case round =>
    obtain ⟨k, hk, rfl, HK, HB⟩ := hrel
    by_cases hlt : k < n
    · have hltI : (k : Int) < (n : Int) := by omega
      obtain ⟨b, off, rfl, hbs, hcs⟩ := HA.out (by omega)
      have c0 := (HB.out.cell (p := ⟨b, off + k, none⟩) hbs).trans (hcs k hlt)
      have HV := Lib.hid (show s1At xs k = (inB (xs[k]?.getD 0) 1 999 && !(decide (0 < k) && decide (xs[k]?.getD 0 ≤ xs[k - 1]?.getD 0))) from rfl)
      have HNO := Lib.hid (HX.out k hlt)
      have HST := Lib.hid (fun h => upto_succ HK.out (k := k) h)
      generalize xs[k]?.getD 0 = x at *
      have HI2 := Lib.hid (HIN.out x)
      cases hin : inB x 1 999
      · have HF := Lib.hid (HNO.out (by rw [HV.out, hin]; rfl))
        clear hcs HV HST HNO
        rw [hin] at HI2
        go_wp2
        have j0 := rg c0
        clear c0
        refine wp_region_quiet_below (by kernel_rfl) (by kernel_rfl) ?_
        repeat (go_big_quiet_step (first | (go_at_call 86; exact rg_same (HI2.out _))))
        refine wpQuiet_nil ?_
        rintro _ ⟨⟨dq, osq⟩, rfl⟩
        have HBQ := Lib.hid (HB.out.trans ((below_regrown wr dq osq).mono HB.out.size))
        go_wp2
        go_ret
        exact ⟨by rw [HF.out]; rfl, HBQ.out⟩
      rw [hin] at HV
      by_cases hk0 : k = 0
      · have hk0b : decide (0 < k) = false := decide_eq_false (by omega)
        have hk0c : decide (0 < (k : Int)) = false := decide_eq_false (by omega)
        have HS := Lib.hid (HST.out (by rw [HV.out, hk0b]; rfl))
        clear hcs HV HST HNO hk0
        rw [hin] at HI2
        go_wp2
        have j0 := rg c0
        clear c0
        refine wp_region_quiet_below (by kernel_rfl) (by kernel_rfl) ?_
        repeat (go_big_quiet_step (first | (go_at_call 86; exact rg_same (HI2.out _))))
        refine wpQuiet_nil ?_
        rintro _ ⟨⟨dq, osq⟩, rfl⟩
        have HBQ := Lib.hid (HB.out.trans ((below_regrown wr dq osq).mono HB.out.size))
        go_wp2
        go_roundw
        case rel => exact ⟨k + 1, hlt, by go_num, HS.out, HBQ.out⟩
        case measure => simp [intOf]; omega
      obtain ⟨k', hk'⟩ : ∃ k', k = k' + 1 := ⟨k - 1, by omega⟩
      have hkk : k - 1 = k' := by omega
      have hk0b : decide (0 < k) = true := decide_eq_true (by omega)
      have hk0c : decide (0 < (k : Int)) = true := decide_eq_true (by omega)
      have hkp : (0 : Int) < (k : Int) := by omega
      have f1w : IntKind.i64.wrap ((k : Int) - 1) = (k' : Int) := by rw [IntWalk.i64_in _ (by omega)]; omega
      have f2w : (k' : Int) < (n : Int) := by omega
      have f3w : k' < n := by omega
      have c1 := (HB.out.cell (p := ⟨b, off + k', none⟩) hbs).trans (hcs k' f3w)
      have hv := HV.out
      rw [hkk, hk0b] at hv
      generalize xs[k']?.getD 0 = y at *
      have HV2 := Lib.hid hv
      clear hcs HV hk0 hk' hkk hv
      cases hge : decide (x ≤ y)
      · have HS := Lib.hid (HST.out (by rw [HV2.out, hge]; rfl))
        clear HV2 HST HNO
        rw [hin] at HI2
        go_wp2
        have j0 := rg c0
        have j1 := rg c1
        clear c0
        refine wp_region_quiet_below (by kernel_rfl) (by kernel_rfl) ?_
        repeat (go_big_quiet_step (first | (go_at_call 86; exact rg_same (HI2.out _))))
        refine wpQuiet_nil ?_
        rintro _ ⟨⟨dq, osq⟩, rfl⟩
        have HBQ := Lib.hid (HB.out.trans ((below_regrown wr dq osq).mono HB.out.size))
        go_wp2
        go_roundw
        case rel => exact ⟨k + 1, hlt, by go_num, HS.out, HBQ.out⟩
        case measure => simp [intOf]; omega
      · have HF := Lib.hid (HNO.out (by rw [HV2.out, hge]; rfl))
        clear HV2 HST HNO
        rw [hin] at HI2
        go_wp2
        have j0 := rg c0
        have j1 := rg c1
        clear c0
        refine wp_region_quiet_below (by kernel_rfl) (by kernel_rfl) ?_
        repeat (go_big_quiet_step (first | (go_at_call 86; exact rg_same (HI2.out _))))
        refine wpQuiet_nil ?_
        rintro _ ⟨⟨dq, osq⟩, rfl⟩
        have HBQ := Lib.hid (HB.out.trans ((below_regrown wr dq osq).mono HB.out.size))
        go_wp2
        go_ret
        exact ⟨by rw [HF.out]; rfl, HBQ.out⟩
    · obtain rfl : n = k := by omega
      have HE := Lib.hid (HY.out HK.out)
      go_wp2
      go_ret
      exact ⟨by rw [HE.out]; rfl, HB.out⟩
end Go.Proofs.YtmkkdenhjfjmgaaGreat
