/- Joined: XSet XGrq XGrs XRiz XVpl. -/
import Derived.Test.YtmkkdenhjfjmgaaGreatBf07
import Derived.Test.YtmkkdenhjfjmgaaGreatBf01
import Derived.Lib.QuietBelow
import Derived.Test.YtmkkdenhjfjmgaaGreatBf09
import Derived.Test.YtmkkdenhjfjmgaaGreatBf04
import Derived.Test.YtmkkdenhjfjmgaaGreatBf08
namespace Go.Proofs.YtmkkdenhjfjmgaaGreat
open Go.RowKit Go.Sort
set_option maxRecDepth 100000

set_option maxHeartbeats 1600000 in
theorem isSet_any (v : Value) (xs : List Int) (m : Nat) (w : World) (h : Rd w v xs) (hm : m ≤ 1000000) :
    Calls Tryz.prog 109 #[v, .int .i64 m] w fun e w' => e = .returned (.bool (setOk xs m)) ∧ Below w.heap.size w w' := by
  obtain ⟨a, ca, n, HN, rfl, _, hn, hca⟩ := h.opn
  have HA := Lib.hid hca
  have HX := Lib.hid (fun i hi h => @setOk_at xs m i hi h)
  have HY := Lib.hid (@setOk_all xs m)
  rw [HN.out] at HX HY
  clear hca h
  generalize setOk xs m = q at *
  have f0 : IntKind.i64.wrap ((m : Int) - 1) = (m : Int) - 1 := IntWalk.i64_in _ (by omega)
  go_enter Tryz.func109, Tryz.ntmps109
  go_wp2
  go_loopw [5, 6, 9] (fun _ _ i wr => ∃ k : Nat, k ≤ n ∧ i = .int .i64 k ∧ Hid (∀ i, i < k → seAt xs m i = true) ∧ wr = w) (fun _ _ i _ => n - (intOf i).toNat)
  case atStart => exact ⟨0, Nat.zero_le _, rfl, fun i hi => by omega, rfl⟩
  case round =>
    obtain ⟨k, hk, rfl, HK, rfl⟩ := hrel
    by_cases hlt : k < n
    · have hltI : (k : Int) < (n : Int) := by omega
      obtain ⟨b, off, rfl, hbs, hcs⟩ := HA.out (by omega)
      have c0 := hcs k hlt
      have HV := Lib.hid (show seAt xs m k = (inB (xs[k]?.getD 0) 0 ((m : Int) - 1) && !(decide (0 < k) && decide (xs[k]?.getD 0 ≤ xs[k - 1]?.getD 0))) from rfl)
      have HNO := Lib.hid (HX.out k hlt)
      have HST := Lib.hid (fun h => upto_succ HK.out (k := k) h)
      generalize xs[k]?.getD 0 = x at *
      cases hin : inB x 0 ((m : Int) - 1)
      · have HF := Lib.hid (HNO.out (by rw [HV.out, hin]; rfl))
        clear hcs HV HST HNO
        go_wp2_with (go_at_call 83; refine (within_any _ _ _ _).mono ?_; rintro e w' ⟨rfl, rfl⟩; rw [hin])
        go_ret
        exact ⟨by rw [HF.out]; rfl, Below.refl _ _⟩
      rw [hin] at HV
      by_cases hk0 : k = 0
      · have hk0b : decide (0 < k) = false := decide_eq_false (by omega)
        have hk0c : decide (0 < (k : Int)) = false := decide_eq_false (by omega)
        have HS := Lib.hid (HST.out (by rw [HV.out, hk0b]; rfl))
        clear hcs HV HST HNO hk0
        go_wp2_with (go_at_call 83; refine (within_any _ _ _ _).mono ?_; rintro e w' ⟨rfl, rfl⟩; rw [hin])
        go_roundw
        case rel => exact ⟨k + 1, hlt, by go_num, HS.out, trivial⟩
        case measure => simp [intOf]; omega
      obtain ⟨k', hk'⟩ : ∃ k', k = k' + 1 := ⟨k - 1, by omega⟩
      have hkk : k - 1 = k' := by omega
      have hk0b : decide (0 < k) = true := decide_eq_true (by omega)
      have hk0c : decide (0 < (k : Int)) = true := decide_eq_true (by omega)
      have hkp : (0 : Int) < (k : Int) := by omega
      have f1w : IntKind.i64.wrap ((k : Int) - 1) = (k' : Int) := by rw [IntWalk.i64_in _ (by omega)]; omega
      have f2w : (k' : Int) < (n : Int) := by omega
      have f3w : k' < n := by omega
      have c1 := hcs k' f3w
      have hv := HV.out
      rw [hkk, hk0b] at hv
      generalize xs[k']?.getD 0 = y at *
      have HV2 := Lib.hid hv
      clear hcs HV hk0 hk' hkk hv
      cases hge : decide (x ≤ y)
      · have HS := Lib.hid (HST.out (by rw [HV2.out, hge]; rfl))
        clear HV2 HST HNO
        go_wp2_with (go_at_call 83; refine (within_any _ _ _ _).mono ?_; rintro e w' ⟨rfl, rfl⟩; rw [hin])
        go_roundw
        case rel => exact ⟨k + 1, hlt, by go_num, HS.out, trivial⟩
        case measure => simp [intOf]; omega
      · have HF := Lib.hid (HNO.out (by rw [HV2.out, hge]; rfl))
        clear HV2 HST HNO
        go_wp2_with (go_at_call 83; refine (within_any _ _ _ _).mono ?_; rintro e w' ⟨rfl, rfl⟩; rw [hin])
        go_ret
        exact ⟨by rw [HF.out]; rfl, Below.refl _ _⟩
    · obtain rfl : n = k := by omega
      have HE := Lib.hid (HY.out HK.out)
      go_wp2
      go_ret
      exact ⟨by rw [HE.out]; rfl, Below.refl _ _⟩
end Go.Proofs.YtmkkdenhjfjmgaaGreat
namespace Go.Proofs.YtmkkdenhjfjmgaaGreat
open Go.RowKit Go.Sort
set_option maxRecDepth 100000

theorem Tryz.infoRw : (Tryz.prog.info? 29).map (fun i => (i.zero, i.size, i.bytes)) = some (some (.slice none 0 0), 1, 24) := by kernel_rfl
theorem gA_no {n : Net} {g : Nat} (h : (grpTo n ((g + 1 : Nat) : Int) n.fs.length).length = 0) : gA n (g + 1) = gA n g := by
  show (if (grp n ((g + 1 : Nat) : Int)).length = 0 then gA n g else gA n g ++ [grp n ((g + 1 : Nat) : Int)]) = gA n g
  exact if_pos h
theorem gA_yes {n : Net} {g : Nat} (h : ¬ (grpTo n ((g + 1 : Nat) : Int) n.fs.length).length = 0) : gA n (g + 1) = gA n g ++ [grpTo n ((g + 1 : Nat) : Int) n.fs.length] := by
  show (if (grp n ((g + 1 : Nat) : Int)).length = 0 then gA n g else gA n g ++ [grp n ((g + 1 : Nat) : Int)]) = gA n g ++ [grp n ((g + 1 : Nat) : Int)]
  exact if_neg h
theorem gS_yes {n : Net} {k : Nat} (h : (fbA n k).r = 0) : gS n (k + 1) = gS n k ++ [[(k : Int)]] := if_pos h
theorem gS_no {n : Net} {k : Nat} (h : ¬ (fbA n k).r = 0) : gS n (k + 1) = gS n k := if_neg h
/-- A row of rows under way takes one more row. -/
theorem Grw.next {w : World} {base : Nat} {T : TypeId} {v : Value} {R R' : List (List Int)} {xs : List Int} (e : R' = R ++ [xs]) (h : Grw w base T 1 v (R.length + 1) (R.map inD ++ [inD xs])) : Grw w base T 1 v R'.length (R'.map inD) := by
  subst e
  rw [List.map_append, List.length_append]; exact h

set_option maxHeartbeats 3200000 in
theorem groups_any (u1 u2 : Value) (n : Net) (w : World) (h : NetR w (.agg #[u1, u2]) n) (hl : n.fs.length ≤ 100000) :
    Calls Tryz.prog 110 #[.agg #[u1, u2]] w fun e w' => ∃ v', e = .returned v' ∧ Ofr w' w.heap.size (ssD (grps n)) v' ∧ Below w.heap.size w w' := by
  obtain ⟨x1, x2, e, r1, r2, hsm⟩ := h
  simp only [Value.agg.injEq, Array.mk.injEq, List.cons.injEq, and_true] at e
  obtain ⟨rfl, rfl⟩ := e
  obtain ⟨a1, m1, c1, rfl⟩ := Rdt.slice' r1
  obtain ⟨a2, m2, c2, rfl, HN2, hc2, hm2, ha2⟩ := flt_opn (m := 4) (enc := fibE) (fun _ => rfl) (by omega) nilB r2
  have hm10 : m2 ≤ 100000 := by have := HN2.out; omega
  have HC := Lib.hid ha2
  obtain ⟨bx, bc, blt, -⟩ := box_facts w #[.slice a1 m1 c1, .slice a2 m2 c2] 35
  have q1 := bc 1 _ rfl
  have HBX := Lib.hid bx
  clear bc bx ha2 r1 r2 hl hsm hc2 hm2
  have hs1 : (w.alloc (.cells #[.slice a1 m1 c1, .slice a2 m2 c2] 35)).heap.size = w.heap.size + 1 := by simp
  have HSZ := Lib.hid hs1
  have HG0 := Lib.hid (show Grw ((w.alloc (.cells #[.slice a1 m1 c1, .slice a2 m2 c2] 35)).alloc (.cells #[] 29)) (w.heap.size + 1) 29 1 (.slice (some ⟨w.heap.size + 1, 0, none⟩) 0 0) 0 [] by rw [← hs1]; exact Grw.start 29 (Nat.le_refl _))
  have HB0 := Lib.hid ((Below.refl (w.alloc (.cells #[.slice a1 m1 c1, .slice a2 m2 c2] 35)).heap.size (w.alloc (.cells #[.slice a1 m1 c1, .slice a2 m2 c2] 35))).alloc (Nat.le_refl _) (.cells #[] 29))
  have HGR := Lib.hid (show grps n = gA n 9 ++ gS n m2 by unfold grps; rw [HN2.out])
  have HAY := Lib.hid (fun g => @gA_yes n g)
  have HAN := Lib.hid (fun g => @gA_no n g)
  rw [HN2.out] at HAY HAN
  clear hs1
  go_enter Tryz.func110, Tryz.ntmps110
  go_wp2
  generalize w.alloc (.cells #[.slice a1 m1 c1, .slice a2 m2 c2] 35) = w1 at *
  generalize w1.alloc (.cells #[] 29) = w2 at *
  go_loopw [3, 4] (fun s3 s4 wr => ∃ g : Nat, g ≤ 9 ∧ s4 = .int .i64 (g + 1 : Nat) ∧ Hid (Grw wr (w.heap.size + 1) 29 1 s3 (gA n g).length ((gA n g).map inD)) ∧ Hid (Below w1.heap.size w1 wr)) (fun _ i _ => 20 - (intOf i).toNat)
  case atStart => exact ⟨0, Nat.zero_le _, rfl, HG0.out, HB0.out⟩
  case round =>
    obtain ⟨g, hg, rfl, HG, HB⟩ := hrel
    obtain ⟨wo, hwo⟩ : ∃ wo, wo = wr := ⟨_, rfl⟩
    subst hwo
    obtain ⟨-, aR, cR, rfl⟩ := HG.out.form
    have p1 := (HB.out.cell (p := ⟨w.heap.size, 1, none⟩) (by rw [HSZ.out]; exact Nat.lt_succ_self _)).trans q1
    have hsz : w.heap.size + 1 ≤ wo.heap.size := by rw [← HSZ.out]; exact HB.out.size
    have HS := Lib.hid hsz
    by_cases hlt : g < 9
    · have hgI : ((g + 1 : Nat) : Int) ≤ 9 := by omega
      have HLG := Lib.hid (gA_len n g)
      have HY := Lib.hid (HAY.out g)
      have HN := Lib.hid (HAN.out g)
      have HOZ := Lib.hid (own_none wo 3)
      have HBA := Lib.hid ((Below.refl wo.heap.size wo).alloc (Nat.le_refl _) (.cells #[] 3))
      have p1' := (HBA.out.cell (p := ⟨w.heap.size, 1, none⟩) (Nat.lt_of_lt_of_le (Nat.lt_succ_self _) HS.out)).trans p1
      obtain ⟨ri, hri⟩ : ∃ ri : Int, ((g + 1 : Nat) : Int) = ri := ⟨_, rfl⟩
      have HRI := Lib.hid hri
      rw [hri] at HY HN hgI
      have hri1 : IntKind.i64.wrap (ri + 1) = ((g + 1 + 1 : Nat) : Int) := by rw [IntWalk.i64_in _ (by omega)]; omega
      rw [hri]
      clear hri hsz
      go_wp2
      generalize wo.alloc (.cells #[] 3) = wr1 at *
      go_loopw [5, 6, 7, 19] (fun s5 _ _ i wx => ∃ k : Nat, k ≤ m2 ∧ i = .int .i64 k ∧ Hid (Own wx wo.heap.size s5 (grpTo n ri k)) ∧ Hid (Below wo.heap.size wo wx)) (fun _ _ _ i _ => m2 - (intOf i).toNat)
      case atStart => exact ⟨0, Nat.zero_le _, rfl, HOZ.out, HBA.out⟩
      case round =>
        obtain ⟨k, hk, rfl, HO, HBI⟩ := hrel
        obtain ⟨aI, cI, nI, HNI, rfl, hcI, hnI, -⟩ := HO.out.rd.opn
        by_cases hlk : k < m2
        · have hltI : (k : Int) < (m2 : Int) := by omega
          obtain ⟨b, off, rfl, hbs, hcs⟩ := HC.out (by omega)
          have BW := HBX.out.trans ((HB.out.trans (HBI.out.mono HB.out.size)).mono HBX.out.size)
          have e0 := (BW.cell (p := ⟨b, off + k * 4 + 0, none⟩) hbs).trans (hcs k hlk 0 _ rfl)
          have e1 := (BW.cell (p := ⟨b, off + k * 4 + 1, none⟩) hbs).trans (hcs k hlk 1 _ rfl)
          have e2 := (BW.cell (p := ⟨b, off + k * 4 + 2, none⟩) hbs).trans (hcs k hlk 2 _ rfl)
          have e3 := (BW.cell (p := ⟨b, off + k * 4 + 3, none⟩) hbs).trans (hcs k hlk 3 _ rfl)
          simp only [Nat.add_zero] at e0
          have HGY := Lib.hid (@grpTo_yes n ri k)
          have HGN := Lib.hid (@grpTo_no n ri k)
          have HLO := Lib.hid (show (grpTo n ri k).length ≤ 4000000 by have := grpTo_len n ri k; omega)
          unfold fbA at HGY HGN
          clear BW hcs
          generalize n.fs[k]?.getD nilB = f at *
          obtain ⟨bf, cf, blf, -⟩ := box_facts wr #[.int .i64 f.a, .int .i64 f.b, .int .i64 f.l, .int .i64 f.r] 148
          have z3 := cf 3 _ rfl
          have HBF := Lib.hid (HBI.out.trans (bf.mono HBI.out.size))
          have HO1 := Lib.hid (HO.out.belowAll bf)
          have hs3 : wo.heap.size ≤ (wr.alloc (.cells #[.int .i64 f.a, .int .i64 f.b, .int .i64 f.l, .int .i64 f.r] 148)).heap.size := Nat.le_trans HBI.out.size bf.size
          have HS3 := Lib.hid hs3
          have HSF := Lib.hid (show (wr.alloc (.cells #[.int .i64 f.a, .int .i64 f.b, .int .i64 f.l, .int .i64 f.r] 148)).heap.size = wr.heap.size + 1 by simp)
          clear bf cf hs3
          generalize grpTo n ri k = out at *
          by_cases hr : f.r = ri
          · have HE2 := Lib.hid (HGY.out hr)
            have d1 : (f.r == ri) = true := by simp [hr]
            have d2 : decide (f.r = ri) = true := by simp [hr]
            clear hr HGY HGN
            go_wp2_with (at_builtin; go_loud (refine wpList_pushI rfl (.tmp 28) (.tmp 30) 29 rfl Tryz.underlying29 Tryz.infoI wo.heap.size (.slice aI nI cI) out rfl HO1.out (by rw [HSF.out]; rfl) HLO.out HS3.out ?_); intro v5 w5 o5 g5 l5; have HO5 := Lib.hid o5; have HB5 := Lib.hid (HBF.out.grown g5 HBF.out.size (fun q hq => (HO1.out.lt q hq).1)); clear o5 g5 l5)
            go_roundw
            case rel => exact ⟨k + 1, hlk, by go_num, by rw [HE2.out]; exact HO5.out, HB5.out⟩
            case measure => simp [intOf]; omega
          · have HE2 := Lib.hid (HGN.out hr)
            have d1 : (f.r == ri) = false := by simp [hr]
            have d2 : decide (f.r = ri) = false := by simp [hr]
            clear hr HGY HGN
            go_wp2
            go_roundw
            case rel => exact ⟨k + 1, hlk, by go_num, by rw [HE2.out]; exact HO1.out, HBF.out⟩
            case measure => simp [intOf]; omega
        · obtain rfl : m2 = k := by omega
          have hB2 := HB.out.trans (HBI.out.mono HB.out.size)
          have HB2 := Lib.hid hB2
          have HGI := Lib.hid (HG.out.below HBI.out)
          clear hB2
          generalize grpTo n ri m2 = out at *
          by_cases hz : nI = 0
          · have HE := Lib.hid (HN.out (by rw [HNI.out]; exact hz))
            have d1 : decide (0 < (nI : Int)) = false := decide_eq_false (by omega)
            have d2 : decide (0 < nI) = false := decide_eq_false (by omega)
            clear hz HY HN
            go_wp2
            go_roundw
            case rel => exact ⟨g + 1, hlt, by go_num, by rw [HE.out]; exact HGI.out, HB2.out⟩
            case measure => have := HRI.out; simp [intOf]; omega
          · have HE := Lib.hid (HY.out (by rw [HNI.out]; exact hz))
            have d1 : decide (0 < (nI : Int)) = true := decide_eq_true (by omega)
            have d2 : decide (0 < nI) = true := decide_eq_true (by omega)
            have HLG2 := Lib.hid (show (gA n g).length ≤ 1000000 by have := HLG.out; omega)
            clear hz HY HN
            go_wp2_with (at_builtin; go_loud (refine wpList_grow rfl (.tmp 36) (.tmp 38) 63 29 rfl Tryz.underlying63 (.slice none 0 0) 1 24 Tryz.infoRw rfl (by decide) (by decide) (w.heap.size + 1) (gA n g).length (.slice aR (gA n g).length cR) _ _ rfl HG.out HS.out HBI.out [.slice aI nI cI] (Newd.one HO.out.ofr) rfl (by simp [Value.oneCell']) rfl HLG2.out ?_); intro v5 w5 o5 g5 l5; have HG5 := Lib.hid (Grw.next HE.out o5); have HB5 := Lib.hid (HB2.out.grown g5 HB2.out.size (fun q hq => (by rw [HSZ.out]; exact (HG.out.own q hq).1))); clear o5 g5 l5)
            go_roundw
            case rel => exact ⟨g + 1, hlt, by go_num, HG5.out, HB5.out⟩
            case measure => have := HRI.out; simp [intOf]; omega
    · obtain rfl : g = 9 := by omega
      have HGB := Lib.hid (HB.out)
      rw [show ((9 + 1 : Nat) : Int) = 10 from rfl]
      go_wp2
      clear p1
      have HG1 := Lib.hid (show Grw wo (w.heap.size + 1) 29 1 (.slice aR (gA n 9).length cR) (gA n 9 ++ gS n 0).length ((gA n 9 ++ gS n 0).map inD) by simpa [gS] using HG.out)
      have HLG := Lib.hid (gA_len n 9)
      generalize gA n 9 = A at *
      go_loopw [3, 8, 9, 43] (fun s3 _ _ i wx => ∃ k : Nat, k ≤ m2 ∧ i = .int .i64 k ∧ Hid (Grw wx (w.heap.size + 1) 29 1 s3 (A ++ gS n k).length ((A ++ gS n k).map inD)) ∧ Hid (Below w1.heap.size w1 wx)) (fun _ _ _ i _ => m2 - (intOf i).toNat)
      case atStart => exact ⟨0, Nat.zero_le _, rfl, HG1.out, HGB.out⟩
      case round =>
        clear HG HG1 HB HGB hsz HS
        obtain ⟨k, hk, rfl, HG, HB⟩ := hrel
        obtain ⟨-, aX, cX, rfl⟩ := HG.out.form
        by_cases hlk : k < m2
        · have hltI : (k : Int) < (m2 : Int) := by omega
          obtain ⟨b, off, rfl, hbs, hcs⟩ := HC.out (by omega)
          have BW := HBX.out.trans (HB.out.mono HBX.out.size)
          have e0 := (BW.cell (p := ⟨b, off + k * 4 + 0, none⟩) hbs).trans (hcs k hlk 0 _ rfl)
          have e1 := (BW.cell (p := ⟨b, off + k * 4 + 1, none⟩) hbs).trans (hcs k hlk 1 _ rfl)
          have e2 := (BW.cell (p := ⟨b, off + k * 4 + 2, none⟩) hbs).trans (hcs k hlk 2 _ rfl)
          have e3 := (BW.cell (p := ⟨b, off + k * 4 + 3, none⟩) hbs).trans (hcs k hlk 3 _ rfl)
          simp only [Nat.add_zero] at e0
          have HGY := Lib.hid (@gS_yes n k)
          have HGN := Lib.hid (@gS_no n k)
          have HLO := Lib.hid (show (A ++ gS n k).length ≤ 1000000 by rw [List.length_append]; have h1 := gS_len n k; have h2 := HLG.out; omega)
          unfold fbA at HGY HGN
          clear BW hcs
          generalize n.fs[k]?.getD nilB = f at *
          obtain ⟨bf, cf, blf, -⟩ := box_facts wr #[.int .i64 f.a, .int .i64 f.b, .int .i64 f.l, .int .i64 f.r] 148
          have z3 := cf 3 _ rfl
          have HBF := Lib.hid (HB.out.trans (bf.mono HB.out.size))
          have HG2 := Lib.hid (HG.out.below bf)
          clear bf cf
          by_cases hr : f.r = 0
          · have HE2 := Lib.hid (show A ++ gS n (k + 1) = (A ++ gS n k) ++ [[(k : Int)]] by rw [HGY.out hr, List.append_assoc])
            generalize f.r = rr at *
            subst hr
            generalize A ++ gS n k = out at *
            have hs4 : (wr.alloc (.cells #[.int .i64 f.a, .int .i64 f.b, .int .i64 f.l, .int .i64 0] 148)).heap.size = wr.heap.size + 1 := by simp
            have hs5 : ((wr.alloc (.cells #[.int .i64 f.a, .int .i64 f.b, .int .i64 f.l, .int .i64 0] 148)).alloc (.cells #[.int .i64 k] 3)).heap.size = wr.heap.size + 1 + 1 := by simp
            have HS4 := Lib.hid (show w.heap.size + 1 ≤ (wr.alloc (.cells #[.int .i64 f.a, .int .i64 f.b, .int .i64 f.l, .int .i64 0] 148)).heap.size by rw [← HSZ.out]; exact HBF.out.size)
            have HO1 := Lib.hid (show Ofr ((wr.alloc (.cells #[.int .i64 f.a, .int .i64 f.b, .int .i64 f.l, .int .i64 0] 148)).alloc (.cells #[.int .i64 k] 3)) (wr.alloc (.cells #[.int .i64 f.a, .int .i64 f.b, .int .i64 f.l, .int .i64 0] 148)).heap.size (inD [(k : Int)]) (.slice (some ⟨wr.heap.size + 1, 0, none⟩) 1 1) by rw [← hs4]; exact (own_one _ (k : Int) 3).ofr)
            have HB1 := Lib.hid ((Below.refl (wr.alloc (.cells #[.int .i64 f.a, .int .i64 f.b, .int .i64 f.l, .int .i64 0] 148)).heap.size (wr.alloc (.cells #[.int .i64 f.a, .int .i64 f.b, .int .i64 f.l, .int .i64 0] 148))).alloc (Nat.le_refl _) (.cells #[.int .i64 k] 3))
            have HB2 := Lib.hid (HBF.out.alloc HBF.out.size (.cells #[.int .i64 k] 3))
            have HS5 := Lib.hid hs5
            clear hs4
            clear HGY HGN hs5
            go_wp2_with (at_builtin; go_loud (refine wpList_grow rfl (.tmp 51) (.tmp 54) 63 29 rfl Tryz.underlying63 (.slice none 0 0) 1 24 Tryz.infoRw rfl (by decide) (by decide) (w.heap.size + 1) out.length (.slice aX out.length cX) _ _ rfl HG2.out HS4.out HB1.out [.slice (some ⟨wr.heap.size + 1, 0, none⟩) 1 1] (Newd.one HO1.out) rfl (by simp [Value.oneCell']) (by rw [HS5.out]; rfl) HLO.out ?_); intro v5 w5 o5 g5 l5; have HG5 := Lib.hid (Grw.next HE2.out o5); have HB5 := Lib.hid (HB2.out.grown g5 HB2.out.size (fun q hq => (by rw [HSZ.out]; exact (HG2.out.own q hq).1))); clear o5 g5 l5)
            go_roundw
            case rel => exact ⟨k + 1, hlk, by go_num, HG5.out, HB5.out⟩
            case measure => simp [intOf]; omega
          · have HE2 := Lib.hid (HGN.out hr)
            have d1 : (f.r == 0) = false := by simp [hr]
            have d2 : decide (f.r = 0) = false := by simp [hr]
            clear hr HGY HGN
            go_wp2
            go_roundw
            case rel => exact ⟨k + 1, hlk, by go_num, by rw [HE2.out]; exact HG2.out, HBF.out⟩
            case measure => simp [intOf]; omega
        · obtain rfl : m2 = k := by omega
          have HE := Lib.hid (HGR.out)
          generalize A ++ gS n m2 = out at *
          go_wp2
          go_ret
          exact ⟨_, rfl, by rw [HE.out]; exact HG.out.ofr.mono (Nat.le_succ _), HBX.out.trans (HB.out.mono HBX.out.size)⟩
end Go.Proofs.YtmkkdenhjfjmgaaGreat
namespace Go.Proofs.YtmkkdenhjfjmgaaGreat
open Go.RowKit Go.Sort
set_option maxRecDepth 100000

/-- No fiber of a risk. -/
theorem grpTo_nil {n : Net} {ri : Int} {k : Nat} (h : ∀ i, i < k → ¬ (fbA n i).r = ri) : (grpTo n ri k).length = 0 := by
  induction k with
  | zero => rfl
  | succ k ih => rw [grpTo_no (h k (Nat.lt_succ_self _))]; exact ih fun i hi => h i (by omega)
theorem grpTo_mem {n : Net} {ri : Int} {k i : Nat} (hi : i < k) (h : (fbA n i).r = ri) : ¬ (grpTo n ri k).length = 0 := by
  induction k with
  | zero => omega
  | succ k ih =>
    by_cases e : i = k
    · subst e; rw [grpTo_yes h, List.length_append]; simp
    · by_cases e2 : (fbA n k).r = ri
      · rw [grpTo_yes e2, List.length_append]; simp
      · rw [grpTo_no e2]; exact ih (by omega)
theorem gA_found {n : Net} {g k : Nat} (hk : k < n.fs.length) (h : (fbA n k).r = ((g + 1 : Nat) : Int)) : gA n (g + 1) = gA n g ++ [grpF n k] := by
  rw [gA_yes (grpTo_mem hk h)]
  unfold grpF grp
  rw [if_neg (by rw [h]; omega), h]
theorem upto_not {k : Nat} {P : Nat → Prop} (h : ∀ i, i < k → P i) (hk : P k) : ∀ i, i < k + 1 → P i := fun i hi => by
  rcases Nat.lt_succ_iff_lt_or_eq.1 hi with e | rfl
  · exact h i e
  · exact hk

set_option maxHeartbeats 3200000 in
theorem l2Groups_any (u1 u2 : Value) (n : Net) (w : World) (h : NetR w (.agg #[u1, u2]) n) (hl : n.fs.length ≤ 100000) :
    Calls Tryz.prog 96 #[.agg #[u1, u2]] w fun e w' => ∃ v', e = .returned v' ∧ Ofr w' w.heap.size (ssD (grps n)) v' ∧ Below w.heap.size w w' := by
  have HN := Lib.hid (fun i hi w' (hb : Below w.heap.size w w') => l2Group_any u1 u2 n i w' (h.behind hb) hi hl)
  obtain ⟨x1, x2, e, r1, r2, hsm⟩ := h
  simp only [Value.agg.injEq, Array.mk.injEq, List.cons.injEq, and_true] at e
  obtain ⟨rfl, rfl⟩ := e
  obtain ⟨a1, m1, c1, rfl⟩ := Rdt.slice' r1
  obtain ⟨a2, m2, c2, rfl, HN2, hc2, hm2, ha2⟩ := flt_opn (m := 4) (enc := fibE) (fun _ => rfl) (by omega) nilB r2
  have hm10 : m2 ≤ 100000 := by have := HN2.out; omega
  have HC := Lib.hid ha2
  obtain ⟨bx, bc, blt, -⟩ := box_facts w #[.slice a1 m1 c1, .slice a2 m2 c2] 35
  have q0 := bc 0 _ rfl
  have q1 := bc 1 _ rfl
  have HBX := Lib.hid bx
  clear bc bx ha2 r1 r2 hl hsm hc2 hm2
  have hs1 : (w.alloc (.cells #[.slice a1 m1 c1, .slice a2 m2 c2] 35)).heap.size = w.heap.size + 1 := by simp
  have HSZ := Lib.hid hs1
  have HG0 := Lib.hid (show Grw ((w.alloc (.cells #[.slice a1 m1 c1, .slice a2 m2 c2] 35)).alloc (.cells #[] 29)) (w.heap.size + 1) 29 1 (.slice (some ⟨w.heap.size + 1, 0, none⟩) 0 0) 0 [] by rw [← hs1]; exact Grw.start 29 (Nat.le_refl _))
  have HB0 := Lib.hid ((Below.refl (w.alloc (.cells #[.slice a1 m1 c1, .slice a2 m2 c2] 35)).heap.size (w.alloc (.cells #[.slice a1 m1 c1, .slice a2 m2 c2] 35))).alloc (Nat.le_refl _) (.cells #[] 29))
  have HGR := Lib.hid (show grps n = gA n 9 ++ gS n m2 by unfold grps; rw [HN2.out])
  have HAY := Lib.hid (fun g k hk h => @gA_found n g k hk h)
  have HAN := Lib.hid (fun g h => @gA_no n g (grpTo_nil h))
  have HGF := Lib.hid (fun k hk w' hb => HN.out k hk w' hb)
  rw [HN2.out] at HAY HAN HGF
  clear hs1 HN
  go_enter Tryz.func96, Tryz.ntmps96
  go_wp2
  generalize w.alloc (.cells #[.slice a1 m1 c1, .slice a2 m2 c2] 35) = w1 at *
  generalize w1.alloc (.cells #[] 29) = w2 at *
  go_loopw [3, 4] (fun s3 s4 wr => ∃ g : Nat, g ≤ 9 ∧ s4 = .int .i64 (g + 1 : Nat) ∧ Hid (Grw wr (w.heap.size + 1) 29 1 s3 (gA n g).length ((gA n g).map inD)) ∧ Hid (Below w1.heap.size w1 wr)) (fun _ i _ => 20 - (intOf i).toNat)
  case atStart => exact ⟨0, Nat.zero_le _, rfl, HG0.out, HB0.out⟩
  case round =>
    obtain ⟨g, hg, rfl, HG, HB⟩ := hrel
    obtain ⟨wo, hwo⟩ : ∃ wo, wo = wr := ⟨_, rfl⟩
    subst hwo
    obtain ⟨-, aR, cR, rfl⟩ := HG.out.form
    by_cases hlt : g < 9
    · have hgI : ((g + 1 : Nat) : Int) ≤ 9 := by omega
      have HLG := Lib.hid (gA_len n g)
      have HLG2 := Lib.hid (show (gA n g).length ≤ 1000000 by have := HLG.out; omega)
      have HY := Lib.hid (HAY.out g)
      have HN := Lib.hid (HAN.out g)
      obtain ⟨ri, hri⟩ : ∃ ri : Int, ((g + 1 : Nat) : Int) = ri := ⟨_, rfl⟩
      have HRI := Lib.hid hri
      rw [hri] at HY HN hgI
      have hri1 : IntKind.i64.wrap (ri + 1) = ((g + 1 + 1 : Nat) : Int) := by rw [IntWalk.i64_in _ (by omega)]; omega
      rw [hri]
      clear hri
      go_wp2
      go_loopw [3, 5] (fun s3 i wx => ∃ k : Nat, k ≤ m2 ∧ i = .int .i64 k ∧ s3 = .slice aR (gA n g).length cR ∧ Hid (∀ i, i < k → ¬ (fbA n i).r = ri) ∧ Hid (Below wo.heap.size wo wx)) (fun _ i _ => m2 - (intOf i).toNat)
      case atStart => exact ⟨0, Nat.zero_le _, rfl, rfl, (fun i hi => absurd hi (Nat.not_lt_zero i)), Below.refl _ _⟩
      case round =>
        obtain ⟨k, hk, rfl, rfl, HK, HBI⟩ := hrel
        have hB2 := HB.out.trans (HBI.out.mono HB.out.size)
        have HB2 := Lib.hid hB2
        have p1 := (hB2.cell (p := ⟨w.heap.size, 1, none⟩) (by rw [HSZ.out]; exact Nat.lt_succ_self _)).trans q1
        by_cases hlk : k < m2
        · have hltI : (k : Int) < (m2 : Int) := by omega
          obtain ⟨b, off, rfl, hbs, hcs⟩ := HC.out (by omega)
          have BW := HBX.out.trans (hB2.mono HBX.out.size)
          have HBW := Lib.hid BW
          have e3 := (BW.cell (p := ⟨b, off + k * 4 + 3, none⟩) hbs).trans (hcs k hlk 3 _ rfl)
          have p0 := (hB2.cell (p := ⟨w.heap.size, 0, none⟩) (by rw [HSZ.out]; exact Nat.lt_succ_self _)).trans q0
          have HUN := Lib.hid (fun h => upto_not (P := fun i => ¬ (fbA n i).r = ri) HK.out (k := k) h)
          have HFD := Lib.hid (HY.out k hlk)
          unfold fbA at HUN HFD
          clear BW hcs hB2
          generalize hrk : (n.fs[k]?.getD nilB).r = rk at *
          by_cases hr : rk = ri
          · have d1 : (rk == ri) = true := by simp [hr]
            have d2 : decide (rk = ri) = true := by simp [hr]
            have HE := Lib.hid (HFD.out hr)
            have HGI := Lib.hid (HG.out.below HBI.out)
            have HL2 := Lib.hid (HGF.out k hlk wr HBW.out)
            have HS2 := Lib.hid (show w.heap.size + 1 ≤ wr.heap.size by rw [← HSZ.out]; exact HB2.out.size)
            clear HUN HN HFD HY hr
            generalize grpF n k = gr at *
            go_wp2_with fail
            refine HL2.out.mono ?_
            rintro e w4 ⟨v4, rfl, o4, b4⟩
            obtain ⟨aI, cI, nI, -, rfl, -, -, -⟩ := o4.rd.opn
            have HO4 := Lib.hid o4.ofr
            have HB4 := Lib.hid b4
            have HB5 := Lib.hid (HB2.out.trans (b4.mono HB2.out.size))
            clear b4 o4 HL2
            go_wp2_with (at_builtin; go_loud (refine wpList_grow rfl (.tmp 27) (.tmp 31) 63 29 rfl Tryz.underlying63 (.slice none 0 0) 1 24 Tryz.infoRw rfl (by decide) (by decide) (w.heap.size + 1) (gA n g).length (.slice aR (gA n g).length cR) _ _ rfl HGI.out HS2.out HB4.out [.slice aI nI cI] (Newd.one HO4.out) rfl (by simp [Value.oneCell']) rfl HLG2.out ?_); intro v5 w5 o5 g5 l5; have HG5 := Lib.hid (Grw.next HE.out o5); have HB5 := Lib.hid (HB5.out.grown g5 HB5.out.size (fun q hq => (by rw [HSZ.out]; exact (HGI.out.own q hq).1))); clear o5 g5 l5)
            go_roundw
            case rel => exact ⟨g + 1, hlt, by go_num, HG5.out, HB5.out⟩
            case measure => have := HRI.out; simp [intOf]; omega
          · have d1 : (rk == ri) = false := by simp [hr]
            have d2 : decide (rk = ri) = false := by simp [hr]
            have HE := Lib.hid (HUN.out hr)
            clear HFD hr
            go_wp2
            go_roundw
            case rel => exact ⟨k + 1, hlk, by go_num, rfl, HE.out, HBI.out⟩
            case measure => simp [intOf]; omega
        · obtain rfl : m2 = k := by omega
          have HE := Lib.hid (HN.out HK.out)
          have HGI := Lib.hid (HG.out.below HBI.out)
          clear HY HN hB2
          go_wp2
          go_roundw
          case rel => exact ⟨g + 1, hlt, by go_num, by rw [HE.out]; exact HGI.out, HB2.out⟩
          case measure => have := HRI.out; simp [intOf]; omega
    · obtain rfl : g = 9 := by omega
      have HGB := Lib.hid (HB.out)
      rw [show ((9 + 1 : Nat) : Int) = 10 from rfl]
      go_wp2
      have HG1 := Lib.hid (show Grw wo (w.heap.size + 1) 29 1 (.slice aR (gA n 9).length cR) (gA n 9 ++ gS n 0).length ((gA n 9 ++ gS n 0).map inD) by simpa [gS] using HG.out)
      have HLG := Lib.hid (gA_len n 9)
      generalize gA n 9 = A at *
      go_loopw [3, 6] (fun s3 i wx => ∃ k : Nat, k ≤ m2 ∧ i = .int .i64 k ∧ Hid (Grw wx (w.heap.size + 1) 29 1 s3 (A ++ gS n k).length ((A ++ gS n k).map inD)) ∧ Hid (Below w1.heap.size w1 wx)) (fun _ i _ => m2 - (intOf i).toNat)
      case atStart => exact ⟨0, Nat.zero_le _, rfl, HG1.out, HGB.out⟩
      case round =>
        clear HG HG1 HB HGB
        obtain ⟨k, hk, rfl, HG, HB⟩ := hrel
        obtain ⟨-, aX, cX, rfl⟩ := HG.out.form
        have p1 := (HB.out.cell (p := ⟨w.heap.size, 1, none⟩) (by rw [HSZ.out]; exact Nat.lt_succ_self _)).trans q1
        by_cases hlk : k < m2
        · have hltI : (k : Int) < (m2 : Int) := by omega
          obtain ⟨b, off, rfl, hbs, hcs⟩ := HC.out (by omega)
          have BW := HBX.out.trans (HB.out.mono HBX.out.size)
          have e3 := (BW.cell (p := ⟨b, off + k * 4 + 3, none⟩) hbs).trans (hcs k hlk 3 _ rfl)
          have HGY := Lib.hid (@gS_yes n k)
          have HGN := Lib.hid (@gS_no n k)
          have HLO := Lib.hid (show (A ++ gS n k).length ≤ 1000000 by rw [List.length_append]; have h1 := gS_len n k; have h2 := HLG.out; omega)
          unfold fbA at HGY HGN
          clear BW hcs
          generalize (n.fs[k]?.getD nilB).r = rr at *
          by_cases hr : rr = 0
          · have HE2 := Lib.hid (show A ++ gS n (k + 1) = (A ++ gS n k) ++ [[(k : Int)]] by rw [HGY.out hr, List.append_assoc])
            subst hr
            generalize A ++ gS n k = out at *
            have HS4 := Lib.hid (show w.heap.size + 1 ≤ wr.heap.size by rw [← HSZ.out]; exact HB.out.size)
            have HO1 := Lib.hid ((own_one wr (k : Int) 3).ofr)
            have HB1 := Lib.hid ((Below.refl wr.heap.size wr).alloc (Nat.le_refl _) (.cells #[.int .i64 k] 3))
            have HB2 := Lib.hid (HB.out.alloc HB.out.size (.cells #[.int .i64 k] 3))
            have HS5 := Lib.hid (show (wr.alloc (.cells #[.int .i64 k] 3)).heap.size = wr.heap.size + 1 by simp)
            clear HGY HGN
            go_wp2_with (at_builtin; go_loud (refine wpList_grow rfl (.tmp 47) (.tmp 50) 63 29 rfl Tryz.underlying63 (.slice none 0 0) 1 24 Tryz.infoRw rfl (by decide) (by decide) (w.heap.size + 1) out.length (.slice aX out.length cX) _ _ rfl HG.out HS4.out HB1.out [.slice (some ⟨wr.heap.size, 0, none⟩) 1 1] (Newd.one HO1.out) rfl (by simp [Value.oneCell']) (by rw [HS5.out]; rfl) HLO.out ?_); intro v5 w5 o5 g5 l5; have HG5 := Lib.hid (Grw.next HE2.out o5); have HB5 := Lib.hid (HB2.out.grown g5 HB2.out.size (fun q hq => (by rw [HSZ.out]; exact (HG.out.own q hq).1))); clear o5 g5 l5)
            go_roundw
            case rel => exact ⟨k + 1, hlk, by go_num, HG5.out, HB5.out⟩
            case measure => simp [intOf]; omega
          · have HE2 := Lib.hid (HGN.out hr)
            have d1 : (rr == 0) = false := by simp [hr]
            have d2 : decide (rr = 0) = false := by simp [hr]
            clear hr HGY HGN
            go_wp2
            go_roundw
            case rel => exact ⟨k + 1, hlk, by go_num, by rw [HE2.out]; exact HG.out, HB.out⟩
            case measure => simp [intOf]; omega
        · obtain rfl : m2 = k := by omega
          have HE := Lib.hid (HGR.out)
          generalize A ++ gS n m2 = out at *
          go_wp2
          go_ret
          exact ⟨_, rfl, by rw [HE.out]; exact HG.out.ofr.mono (Nat.le_succ _), HBX.out.trans (HB.out.mono HBX.out.size)⟩
end Go.Proofs.YtmkkdenhjfjmgaaGreat
namespace Go.Proofs.YtmkkdenhjfjmgaaGreat
open Go.RowKit Go.Sort
set_option maxRecDepth 100000

def s1At (xs : List Int) (i : Nat) : Bool := inB (xs[i]?.getD 0) 1 999 && !(decide (0 < i) && decide (xs[i]?.getD 0 ≤ xs[i - 1]?.getD 0))
def ris1 (xs : List Int) : Bool := (List.range xs.length).all (s1At xs)
theorem ris1_at {xs : List Int} {i : Nat} (hi : i < xs.length) (h : s1At xs i = false) : ris1 xs = false := rng_no hi h
theorem ris1_all {xs : List Int} (h : ∀ i, i < xs.length → s1At xs i = true) : ris1 xs = true := rng_yes h
/-- The two tests agree if all numbers are those of lights. -/
theorem ris1_set {p : Pln} {d : List Int} (hp : plnOk p = true) (h : d.any (noL p) = false) : setOk d 1000 = ris1 d := by
  unfold setOk ris1
  rw [Bool.eq_iff_iff, List.all_eq_true, List.all_eq_true]
  have hd : ∀ i ∈ List.range d.length, seAt d 1000 i = s1At d i := fun i hi => by
    have hl := List.mem_range.1 hi
    unfold seAt s1At
    have hx : 0 ≤ lix p (d[i]?.getD 0) := by
      rw [List.any_eq_false] at h
      have := h (d[i]) (List.getElem_mem hl)
      unfold noL at this
      rw [List.getElem?_eq_getElem hl]
      simp at this
      exact this
    obtain ⟨k, hk, -, e⟩ := lix_some hx
    have hr := plnOk_idrng hp hk
    rw [e] at hr
    rw [inB_mk (by omega) (by omega), inB_mk hr.1 hr.2]
  exact ⟨fun q i hi => by rw [← hd i hi]; exact q i hi, fun q i hi => by rw [hd i hi]; exact q i hi⟩
theorem dwOk_spec {p : Pln} {d : List Int} : dwOk p d = (plnOk p && (ris1 d && !(d.any (noL p)))) := by
  unfold dwOk
  cases hp : plnOk p
  · rfl
  · cases h : d.any (noL p)
    · rw [ris1_set hp h]
    · simp
set_option maxHeartbeats 1600000 in
theorem l1Rising1_any (v : Value) (xs : List Int) (w : World) (h : Rd w v xs) :
    Calls Tryz.prog 104 #[v, .int .i64 1, .int .i64 999] w fun e w' => e = .returned (.bool (ris1 xs)) ∧ Below w.heap.size w w' := by
  obtain ⟨a, ca, n, HN, rfl, _, hn, hca⟩ := h.opn
  have HA := Lib.hid hca
  have HX := Lib.hid (fun i hi h => @ris1_at xs i hi h)
  have HY := Lib.hid (@ris1_all xs)
  rw [HN.out] at HX HY
  clear hca h
  generalize ris1 xs = q at *
  have HIN := Lib.hid (fun (x : Int) (w : World) => l1In_any x 1 999 w)
  go_enter Tryz.func104, Tryz.ntmps104
  go_wp2
  go_loopw [7] (fun i wr => ∃ k : Nat, k ≤ n ∧ i = .int .i64 k ∧ Hid (∀ i, i < k → s1At xs i = true) ∧ Hid (Below w.heap.size w wr)) (fun i _ => n - (intOf i).toNat)
  case atStart => exact ⟨0, Nat.zero_le _, rfl, fun i hi => by omega, Below.refl _ _⟩
  case round =>
    obtain ⟨k, hk, rfl, HK, HB⟩ := hrel
    by_cases hlt : k < n
    · have hltI : (k : Int) < (n : Int) := by omega
      obtain ⟨b, off, rfl, hbs, hcs⟩ := HA.out (by omega)
      have c0 := (HB.out.cell (p := ⟨b, off + k, none⟩) hbs).trans (hcs k hlt)
      have HV := Lib.hid (show s1At xs k = (inB (xs[k]?.getD 0) 1 999 && !(decide (0 < k) && decide (xs[k]?.getD 0 ≤ xs[k - 1]?.getD 0))) from rfl)
      have HNO := Lib.hid (HX.out k hlt)
      have HST := Lib.hid (fun h => upto_succ HK.out (k := k) h)
      generalize xs[k]?.getD 0 = x at *
      have HI2 := Lib.hid (HIN.out x)
      cases hin : inB x 1 999
      · have HF := Lib.hid (HNO.out (by rw [HV.out, hin]; rfl))
        clear hcs HV HST HNO
        rw [hin] at HI2
        go_wp2
        have j0 := rg c0
        clear c0
        refine wp_region_quiet_below (by kernel_rfl) (by kernel_rfl) ?_
        repeat (go_big_quiet_step (first | (go_at_call 86; exact rg_same (HI2.out _))))
        refine wpQuiet_nil ?_
        rintro _ ⟨⟨dq, osq⟩, rfl⟩
        have HBQ := Lib.hid (HB.out.trans ((below_regrown wr dq osq).mono HB.out.size))
        go_wp2
        go_ret
        exact ⟨by rw [HF.out]; rfl, HBQ.out⟩
      rw [hin] at HV
      by_cases hk0 : k = 0
      · have hk0b : decide (0 < k) = false := decide_eq_false (by omega)
        have hk0c : decide (0 < (k : Int)) = false := decide_eq_false (by omega)
        have HS := Lib.hid (HST.out (by rw [HV.out, hk0b]; rfl))
        clear hcs HV HST HNO hk0
        rw [hin] at HI2
        go_wp2
        have j0 := rg c0
        clear c0
        refine wp_region_quiet_below (by kernel_rfl) (by kernel_rfl) ?_
        repeat (go_big_quiet_step (first | (go_at_call 86; exact rg_same (HI2.out _))))
        refine wpQuiet_nil ?_
        rintro _ ⟨⟨dq, osq⟩, rfl⟩
        have HBQ := Lib.hid (HB.out.trans ((below_regrown wr dq osq).mono HB.out.size))
        go_wp2
        go_roundw
        case rel => exact ⟨k + 1, hlt, by go_num, HS.out, HBQ.out⟩
        case measure => simp [intOf]; omega
      obtain ⟨k', hk'⟩ : ∃ k', k = k' + 1 := ⟨k - 1, by omega⟩
      have hkk : k - 1 = k' := by omega
      have hk0b : decide (0 < k) = true := decide_eq_true (by omega)
      have hk0c : decide (0 < (k : Int)) = true := decide_eq_true (by omega)
      have hkp : (0 : Int) < (k : Int) := by omega
      have f1w : IntKind.i64.wrap ((k : Int) - 1) = (k' : Int) := by rw [IntWalk.i64_in _ (by omega)]; omega
      have f2w : (k' : Int) < (n : Int) := by omega
      have f3w : k' < n := by omega
      have c1 := (HB.out.cell (p := ⟨b, off + k', none⟩) hbs).trans (hcs k' f3w)
      have hv := HV.out
      rw [hkk, hk0b] at hv
      generalize xs[k']?.getD 0 = y at *
      have HV2 := Lib.hid hv
      clear hcs HV hk0 hk' hkk hv
      cases hge : decide (x ≤ y)
      · have HS := Lib.hid (HST.out (by rw [HV2.out, hge]; rfl))
        clear HV2 HST HNO
        rw [hin] at HI2
        go_wp2
        have j0 := rg c0
        have j1 := rg c1
        clear c0
        refine wp_region_quiet_below (by kernel_rfl) (by kernel_rfl) ?_
        repeat (go_big_quiet_step (first | (go_at_call 86; exact rg_same (HI2.out _))))
        refine wpQuiet_nil ?_
        rintro _ ⟨⟨dq, osq⟩, rfl⟩
        have HBQ := Lib.hid (HB.out.trans ((below_regrown wr dq osq).mono HB.out.size))
        go_wp2
        go_roundw
        case rel => exact ⟨k + 1, hlt, by go_num, HS.out, HBQ.out⟩
        case measure => simp [intOf]; omega
      · have HF := Lib.hid (HNO.out (by rw [HV2.out, hge]; rfl))
        clear HV2 HST HNO
        rw [hin] at HI2
        go_wp2
        have j0 := rg c0
        have j1 := rg c1
        clear c0
        refine wp_region_quiet_below (by kernel_rfl) (by kernel_rfl) ?_
        repeat (go_big_quiet_step (first | (go_at_call 86; exact rg_same (HI2.out _))))
        refine wpQuiet_nil ?_
        rintro _ ⟨⟨dq, osq⟩, rfl⟩
        have HBQ := Lib.hid (HB.out.trans ((below_regrown wr dq osq).mono HB.out.size))
        go_wp2
        go_ret
        exact ⟨by rw [HF.out]; rfl, HBQ.out⟩
    · obtain rfl : n = k := by omega
      have HE := Lib.hid (HY.out HK.out)
      go_wp2
      go_ret
      exact ⟨by rw [HE.out]; rfl, HB.out⟩
end Go.Proofs.YtmkkdenhjfjmgaaGreat
namespace Go.Proofs.YtmkkdenhjfjmgaaGreat
open Go.RowKit Go.Sort
set_option maxRecDepth 100000

/-- The closure that asks whether a light collides with the captured one. -/
theorem planBad_any (y : Lgt) (u : Value) (z : Lgt) (b0 : Nat) (v : Value) (w : World) (hu : Rd w u z.fb) (hv : Rd w v y.fb)
    (hz : blkOk z.fi z.ct = true) (hy : blkOk y.fi y.ct = true) (hl : z.fb.length ≤ 1100000)
    (c0 : w.cell? ⟨b0, 0, none⟩ = some (.int .i64 y.id)) (c1 : w.cell? ⟨b0, 1, none⟩ = some (.int .i64 y.st)) (c2 : w.cell? ⟨b0, 2, none⟩ = some v) (c3 : w.cell? ⟨b0, 3, none⟩ = some (.int .i64 y.fi)) (c4 : w.cell? ⟨b0, 4, none⟩ = some (.int .i64 y.ct)) :
    Calls Tryz.prog 135 #[.agg #[.int .i64 z.id, .int .i64 z.st, u, .int .i64 z.fi, .int .i64 z.ct], ptr b0] w fun e w' => e = .returned (.bool (collB z y)) ∧ Below w.heap.size w w' := by
  have HC := Lib.hid (fun w' (hb : Below w.heap.size w w') => collide_any u v z y w' (hu.belowAll hb) (hv.belowAll hb) hz hy hl)
  obtain ⟨a1, k1, m1, -, rfl, -, -, -⟩ := hu.opn
  obtain ⟨a2, k2, m2, -, rfl, -, -, -⟩ := hv.opn
  obtain ⟨bx, bc, blt, -⟩ := box_facts w #[.int .i64 z.id, .int .i64 z.st, .slice a1 m1 k1, .int .i64 z.fi, .int .i64 z.ct] 94
  have q0 := bc 0 _ rfl
  have q1 := bc 1 _ rfl
  have q2 := bc 2 _ rfl
  have q3 := bc 3 _ rfl
  have q4 := bc 4 _ rfl
  have hlt := World.block_lt_of_cell? _ _ c0
  have d0 := (bx.cell (p := ⟨b0, 0, none⟩) hlt).trans c0
  have d1 := (bx.cell (p := ⟨b0, 1, none⟩) hlt).trans c1
  have d2 := (bx.cell (p := ⟨b0, 2, none⟩) hlt).trans c2
  have d3 := (bx.cell (p := ⟨b0, 3, none⟩) hlt).trans c3
  have d4 := (bx.cell (p := ⟨b0, 4, none⟩) hlt).trans c4
  have HBX := Lib.hid bx
  clear c0 c1 c2 c3 c4 bc bx hu hv
  go_enter Tryz.func135, Tryz.ntmps135
  go_wp2_with fail
  refine (HC.out _ HBX.out).mono ?_
  rintro e w3 ⟨rfl, b3⟩
  have HB3 := Lib.hid (HBX.out.trans (b3.mono HBX.out.size))
  clear b3
  go_wp2
  go_ret
  exact ⟨rfl, HB3.out⟩
theorem plnOk_net {p : Pln} (h : netOk p.n = false) : plnOk p = false := by unfold plnOk; rw [h]; rfl
theorem plnOk_len {p : Pln} (h : ¬ p.ls.length ≤ 12) : plnOk p = false := by unfold plnOk; rw [decide_eq_false h]; simp
theorem plnOk_at {p : Pln} {i : Nat} (hi : i < p.ls.length) (h : ltOk p i = false) : plnOk p = false := by unfold plnOk; rw [rng_no hi h]; simp
theorem plnOk_all {p : Pln} (h1 : netOk p.n = true) (h2 : p.ls.length ≤ 12) (h3 : ∀ i, i < p.ls.length → ltOk p i = true) : plnOk p = true := by unfold plnOk; rw [rng_yes h3, h1, decide_eq_true h2]; rfl
theorem ltOk_blk {p : Pln} {i : Nat} (h : ltOk p i = true) : blkOk (lgA p i).fi (lgA p i).ct = true := by
  unfold ltOk lgtOk at h
  simp only [Bool.and_eq_true] at h
  exact h.1.2
set_option maxHeartbeats 3200000 in
theorem IsValidPlan_any (v : Value) (p : Pln) (w : World) (h : PlnR w v p) (hfb : ∀ i : Nat, (lgA p i).fb.length ≤ 1100000) :
    Calls Tryz.prog 88 #[v] w fun e w' => e = .returned (.bool (plnOk p)) ∧ Below w.heap.size w w' := by
  obtain ⟨u1, u2, u3, rfl, r1, r2, r3, hsm⟩ := h
  have hnet : NetR w (.agg #[u1, u2]) p.n := ⟨u1, u2, rfl, r1, r2, hsm⟩
  obtain ⟨⟨a1, m1, c1, rfl⟩, a2, m2, c2, rfl⟩ := slice_of_net hnet
  obtain ⟨a3, m3, c3, rfl, HN3, hc3, hm3, ha3⟩ := lgt_opn r3
  have HNV := Lib.hid (fun w' (hb : Below w.heap.size w w') => IsValidNetwork_any _ p.n w' (hnet.behind hb))
  have HNE := Lib.hid hnet
  have HA := Lib.hid ha3
  have HR3 := Lib.hid r3
  have HFB := Lib.hid hfb
  have HX1 := Lib.hid (@plnOk_net p)
  have HX2 := Lib.hid (@plnOk_len p)
  have HX3 := Lib.hid (fun i hi h => @plnOk_at p i hi h)
  have HX4 := Lib.hid (@plnOk_all p)
  rw [HN3.out] at HX2 HX3 HX4
  obtain ⟨bx, bc, blt, -⟩ := box_facts w #[.slice a1 m1 c1, .slice a2 m2 c2, .slice a3 m3 c3] 38
  have q0 := bc 0 _ rfl
  have q1 := bc 1 _ rfl
  have q2 := bc 2 _ rfl
  have HBX := Lib.hid bx
  clear bx bc ha3 r1 r2 r3 hsm hnet hfb
  generalize plnOk p = q at *
  go_enter Tryz.func88, Tryz.ntmps88
  go_wp2_with fail
  generalize w.alloc (.cells #[.slice a1 m1 c1, .slice a2 m2 c2, .slice a3 m3 c3] 38) = w1 at *
  have HNV1 := Lib.hid (HNV.out w1 HBX.out)
  cases hok : netOk p.n
  · have HF := Lib.hid (HX1.out hok)
    rw [hok] at HNV1
    refine HNV1.out.mono ?_
    rintro e w2 ⟨rfl, b2⟩
    have HB2 := Lib.hid (HBX.out.trans (b2.mono HBX.out.size))
    clear b2 hok
    go_wp2
    go_ret
    exact ⟨by rw [HF.out]; rfl, HB2.out⟩
  rw [hok] at HNV1
  refine HNV1.out.mono ?_
  rintro e w2 ⟨rfl, b2⟩
  have p2 := (b2.cell blt).trans q2
  have HB2 := Lib.hid b2
  clear b2
  by_cases h12 : m3 ≤ 12
  case neg =>
    have HF := Lib.hid (HX2.out h12)
    have hd : decide (12 < (m3 : Int)) = true := decide_eq_true (by omega)
    have hd2 : decide (12 < m3) = true := decide_eq_true (by omega)
    clear h12
    go_wp2
    go_ret
    exact ⟨by rw [HF.out]; rfl, HBX.out.trans (HB2.out.mono HBX.out.size)⟩
  have hd : decide (12 < (m3 : Int)) = false := decide_eq_false (by omega)
  have hd2 : decide (12 < m3) = false := decide_eq_false (by omega)
  go_wp2
  clear hd hd2
  go_loopw [3, 4, 18] (fun _ _ i wr => ∃ k : Nat, k ≤ m3 ∧ i = .int .i64 k ∧ Hid (∀ i, i < k → ltOk p i = true) ∧ Hid (Below w1.heap.size w1 wr)) (fun _ _ i _ => m3 - (intOf i).toNat)
  case atStart => exact ⟨0, Nat.zero_le _, rfl, fun i hi => by omega, HB2.out⟩
  case round =>
    obtain ⟨k, hk, rfl, HK, HB⟩ := hrel
    by_cases hlt : k < m3
    · have hltI : (k : Int) < (m3 : Int) := by omega
      obtain ⟨b, off, rfl, hbs, hcs⟩ := HA.out (by omega)
      have HCS := Lib.hid hcs
      obtain ⟨u, e0, e1, e2, e3, e4, hru⟩ := hcs k hlt
      have BW := HBX.out.trans (HB.out.mono HBX.out.size)
      have HBW := Lib.hid BW
      have x0 := (BW.cell (p := ⟨b, off + k * 5, none⟩) hbs).trans e0
      have x1 := (BW.cell (p := ⟨b, off + k * 5 + 1, none⟩) hbs).trans e1
      have x2 := (BW.cell (p := ⟨b, off + k * 5 + 2, none⟩) hbs).trans e2
      have x3 := (BW.cell (p := ⟨b, off + k * 5 + 3, none⟩) hbs).trans e3
      have x4 := (BW.cell (p := ⟨b, off + k * 5 + 4, none⟩) hbs).trans e4
      have p0 := (HB.out.cell (p := ⟨w.heap.size, 0, none⟩) blt).trans q0
      have p1 := (HB.out.cell (p := ⟨w.heap.size, 1, none⟩) blt).trans q1
      have p2 := (HB.out.cell (p := ⟨w.heap.size, 2, none⟩) blt).trans q2
      have HRU := Lib.hid hru
      obtain ⟨au, cu, nu, -, rfl, -, -, -⟩ := hru.opn
      have HV := Lib.hid (show ltOk p k = (lgtOk p.n (p.ls[k]?.getD nilL) && (!(decide (0 < k) && decide ((p.ls[k]?.getD nilL).id ≤ (p.ls[k - 1]?.getD nilL).id)) && !((p.ls.take k).any fun y => collB y (p.ls[k]?.getD nilL)))) from rfl)
      have HNO := Lib.hid (HX3.out k hlt)
      have HST := Lib.hid (fun h => upto_succ HK.out (k := k) h)
      have HFK := Lib.hid (show (p.ls[k]?.getD nilL).fb.length ≤ 1100000 from HFB.out k)
      clear hcs e0 e1 e2 e3 e4 BW hru
      generalize p.ls[k]?.getD nilL = l at *
      obtain ⟨by', bd, bmt, -⟩ := box_facts wr #[.int .i64 l.id, .int .i64 l.st, .slice au nu cu, .int .i64 l.fi, .int .i64 l.ct] 94
      have HBY := Lib.hid by'
      have y0 := (by'.cell (p := ⟨w.heap.size, 0, none⟩) (World.block_lt_of_cell? _ _ p0)).trans p0
      have y1 := (by'.cell (p := ⟨w.heap.size, 1, none⟩) (World.block_lt_of_cell? _ _ p1)).trans p1
      have y2 := (by'.cell (p := ⟨w.heap.size, 2, none⟩) (World.block_lt_of_cell? _ _ p2)).trans p2
      have z0 := bd 0 _ rfl
      have z1 := bd 1 _ rfl
      have z2 := bd 2 _ rfl
      have z3 := bd 3 _ rfl
      have z4 := bd 4 _ rfl
      have HBZ := Lib.hid (HBW.out.trans (by'.mono HBW.out.size))
      have HIL := Lib.hid (fun wx (hb : Below w.heap.size w wx) => isLight_any (.slice a1 m1 c1) (.slice a2 m2 c2) (.slice au nu cu) p.n l wx (HNE.out.behind hb) (HRU.out.belowAll hb) HFK.out)
      clear bd by'
      cases hlo : lgtOk p.n l
      · have HF := Lib.hid (HNO.out (by rw [HV.out, hlo]; rfl))
        rw [hlo] at HIL
        go_wp2
        generalize wr.alloc (.cells #[.int .i64 l.id, .int .i64 l.st, .slice au nu cu, .int .i64 l.fi, .int .i64 l.ct] 94) = w4 at *
        have j0 := rg y0
        have j1 := rg y1
        have j2 := rg y2
        have k0 := rg z0
        have k1 := rg z1
        have k2 := rg z2
        have k3 := rg z3
        have k4 := rg z4
        have HIL2 := Lib.hid (fun d os => HIL.out (grow (redrawn w4 d) os) (HBZ.out.trans ((below_regrown w4 d os).mono HBZ.out.size)))
        clear x0 x1 x2 x3 x4 p0 p1 p2 y0 y1 y2 z0 z1 z2 z3 z4
        refine wp_region_quiet_below (by kernel_rfl) (by kernel_rfl) ?_
        repeat (go_big_quiet_step (first | (go_at_call 133; exact Calls.regrown_of (HIL2.out _ _))))
        refine wpQuiet_nil ?_
        rintro _ ⟨⟨dq, osq⟩, rfl⟩
        go_wp2
        go_ret
        exact ⟨by rw [HF.out]; rfl, HBZ.out.trans ((below_regrown _ dq osq).mono HBZ.out.size)⟩
      have hbl : blkOk l.fi l.ct = true := by unfold lgtOk at hlo; simp only [Bool.and_eq_true] at hlo; exact hlo.2
      rw [hlo] at HIL HV
      have HFN := Lib.hid (show IsFn 135 from isFn_of rfl rfl rfl)
      have HCF0 := Lib.hid (fun (wx : World) (hx : Below w.heap.size w wx) (c0 : wx.cell? ⟨wr.heap.size, 0, none⟩ = some (.int .i64 l.id)) (c1 : wx.cell? ⟨wr.heap.size, 1, none⟩ = some (.int .i64 l.st)) (c2 : wx.cell? ⟨wr.heap.size, 2, none⟩ = some (.slice au nu cu)) (c3' : wx.cell? ⟨wr.heap.size, 3, none⟩ = some (.int .i64 l.fi)) (c4 : wx.cell? ⟨wr.heap.size, 4, none⟩ = some (.int .i64 l.ct)) =>
        containsFuncLgt_any (.slice (some ⟨b, off, none⟩) k c3) (p.ls.take k) 135 wr.heap.size (fun y => collB y l) wx (rws_take (fun _ => rfl) (by omega) nilL (HR3.out.behind hx) hk) HFN.out
          (fun i w' hi hb z u hz hru => by
            have hik : i < k := by rw [List.length_take] at hi; omega
            have hze : z = lgA p i := by rw [hz, List.getElem?_take, if_pos hik]
            subst hze
            have hl := World.block_lt_of_cell? _ _ c0
            exact planBad_any l u _ wr.heap.size (.slice au nu cu) w' hru (HRU.out.belowAll (hx.trans (hb.mono hx.size))) (ltOk_blk (HK.out i hik)) hbl (HFB.out i) ((hb.cell (p := ⟨wr.heap.size, 0, none⟩) hl).trans c0) ((hb.cell (p := ⟨wr.heap.size, 1, none⟩) hl).trans c1) ((hb.cell (p := ⟨wr.heap.size, 2, none⟩) hl).trans c2) ((hb.cell (p := ⟨wr.heap.size, 3, none⟩) hl).trans c3') ((hb.cell (p := ⟨wr.heap.size, 4, none⟩) hl).trans c4)))
      generalize (p.ls.take k).any (fun y => collB y l) = any at *
      have i1 : (0 : Int) ≤ (k : Int) := by omega
      have i2 : (k : Int) ≤ (c3 : Int) := by omega
      have i3 : k ≤ c3 := by omega
      have i4 : (k : Int) ≤ (m3 : Int) := by omega
      clear hbl hlo
      by_cases hk0 : k = 0
      · have hk0b : decide (0 < k) = false := decide_eq_false (by omega)
        have hk0c : decide (0 < (k : Int)) = false := decide_eq_false (by omega)
        have hv := HV.out
        rw [hk0b] at hv
        have HV2 := Lib.hid hv
        clear hk0 hv HV
        cases any
        · have HS := Lib.hid (HST.out (by rw [HV2.out]; rfl))
          clear HV2 HST HNO
          go_wp2
          generalize wr.alloc (.cells #[.int .i64 l.id, .int .i64 l.st, .slice au nu cu, .int .i64 l.fi, .int .i64 l.ct] 94) = w4 at *
          have j0 := rg y0
          have j1 := rg y1
          have j2 := rg y2
          have k0 := rg z0
          have k1 := rg z1
          have k2 := rg z2
          have k3 := rg z3
          have k4 := rg z4
          have HIL2 := Lib.hid (fun d os => HIL.out (grow (redrawn w4 d) os) (HBZ.out.trans ((below_regrown w4 d os).mono HBZ.out.size)))
          have HCF := Lib.hid (fun d os => HCF0.out (grow (redrawn w4 d) os) (HBZ.out.trans ((below_regrown w4 d os).mono HBZ.out.size)) (k0 d os) (k1 d os) (k2 d os) (k3 d os) (k4 d os))
          clear x0 x1 x2 x3 x4 p0 p1 p2 y0 y1 y2 z0 z1 z2 z3 z4 HCF0 HIL
          refine wp_region_quiet_below (by kernel_rfl) (by kernel_rfl) ?_
          repeat (go_big_quiet_step (first | (go_at_call 133; exact Calls.regrown_of (HIL2.out _ _)) | (go_at_call 134; exact Calls.regrown_of (HCF.out _ _))))
          refine wpQuiet_nil ?_
          rintro _ ⟨⟨dq, osq⟩, rfl⟩
          go_wp2
          go_roundw
          case rel => exact ⟨k + 1, hlt, by go_num, HS.out, (HB.out.trans (HBY.out.mono HB.out.size)).trans ((below_regrown _ dq osq).mono (HB.out.trans (HBY.out.mono HB.out.size)).size)⟩
          case measure => simp [intOf]; omega
        · have HF := Lib.hid (HNO.out (by rw [HV2.out]; rfl))
          clear HV2 HST HNO
          go_wp2
          generalize wr.alloc (.cells #[.int .i64 l.id, .int .i64 l.st, .slice au nu cu, .int .i64 l.fi, .int .i64 l.ct] 94) = w4 at *
          have j0 := rg y0
          have j1 := rg y1
          have j2 := rg y2
          have k0 := rg z0
          have k1 := rg z1
          have k2 := rg z2
          have k3 := rg z3
          have k4 := rg z4
          have HIL2 := Lib.hid (fun d os => HIL.out (grow (redrawn w4 d) os) (HBZ.out.trans ((below_regrown w4 d os).mono HBZ.out.size)))
          have HCF := Lib.hid (fun d os => HCF0.out (grow (redrawn w4 d) os) (HBZ.out.trans ((below_regrown w4 d os).mono HBZ.out.size)) (k0 d os) (k1 d os) (k2 d os) (k3 d os) (k4 d os))
          clear x0 x1 x2 x3 x4 p0 p1 p2 y0 y1 y2 z0 z1 z2 z3 z4 HCF0 HIL
          refine wp_region_quiet_below (by kernel_rfl) (by kernel_rfl) ?_
          repeat (go_big_quiet_step (first | (go_at_call 133; exact Calls.regrown_of (HIL2.out _ _)) | (go_at_call 134; exact Calls.regrown_of (HCF.out _ _))))
          refine wpQuiet_nil ?_
          rintro _ ⟨⟨dq, osq⟩, rfl⟩
          go_wp2
          go_ret
          exact ⟨by rw [HF.out]; rfl, HBZ.out.trans ((below_regrown _ dq osq).mono HBZ.out.size)⟩
      · obtain ⟨k', hk'⟩ : ∃ k', k = k' + 1 := ⟨k - 1, by omega⟩
        have hkk : k - 1 = k' := by omega
        have hk0b : decide (0 < k) = true := decide_eq_true (by omega)
        have hk0c : decide (0 < (k : Int)) = true := decide_eq_true (by omega)
        have hkp : (0 : Int) < (k : Int) := by omega
        have f1w : IntKind.i64.wrap ((k : Int) - 1) = (k' : Int) := by rw [IntWalk.i64_in _ (by omega)]; omega
        have f2w : (k' : Int) < (m3 : Int) := by omega
        have f3w : k' < m3 := by omega
        obtain ⟨u', t0, -, -, -, -, -⟩ := HCS.out k' f3w
        have t0 := (HBZ.out.cell (p := ⟨b, off + k' * 5, none⟩) hbs).trans t0
        have hv := HV.out
        rw [hkk, hk0b] at hv
        generalize (p.ls[k']?.getD nilL).id = pid at *
        have HV2 := Lib.hid hv
        clear hk0 hv HV hk' hkk
        cases hge : decide (l.id ≤ pid)
        case true =>
          have HF := Lib.hid (HNO.out (by rw [HV2.out, hge]; rfl))
          clear HV2 HST HNO
          go_wp2
          generalize wr.alloc (.cells #[.int .i64 l.id, .int .i64 l.st, .slice au nu cu, .int .i64 l.fi, .int .i64 l.ct] 94) = w4 at *
          have j0 := rg y0
          have j1 := rg y1
          have j2 := rg y2
          have k0 := rg z0
          have k1 := rg z1
          have k2 := rg z2
          have k3 := rg z3
          have k4 := rg z4
          have jt := rg t0
          have HIL2 := Lib.hid (fun d os => HIL.out (grow (redrawn w4 d) os) (HBZ.out.trans ((below_regrown w4 d os).mono HBZ.out.size)))
          have HCF := Lib.hid (fun d os => HCF0.out (grow (redrawn w4 d) os) (HBZ.out.trans ((below_regrown w4 d os).mono HBZ.out.size)) (k0 d os) (k1 d os) (k2 d os) (k3 d os) (k4 d os))
          clear x0 x1 x2 x3 x4 p0 p1 p2 y0 y1 y2 z0 z1 z2 z3 z4 HCF0 HIL
          refine wp_region_quiet_below (by kernel_rfl) (by kernel_rfl) ?_
          repeat (go_big_quiet_step (first | (go_at_call 133; exact Calls.regrown_of (HIL2.out _ _)) | (go_at_call 134; exact Calls.regrown_of (HCF.out _ _))))
          refine wpQuiet_nil ?_
          rintro _ ⟨⟨dq, osq⟩, rfl⟩
          go_wp2
          go_ret
          exact ⟨by rw [HF.out]; rfl, HBZ.out.trans ((below_regrown _ dq osq).mono HBZ.out.size)⟩
        rw [hge] at HV2
        cases any
        · have HS := Lib.hid (HST.out (by rw [HV2.out]; rfl))
          clear HV2 HST HNO
          go_wp2
          generalize wr.alloc (.cells #[.int .i64 l.id, .int .i64 l.st, .slice au nu cu, .int .i64 l.fi, .int .i64 l.ct] 94) = w4 at *
          have j0 := rg y0
          have j1 := rg y1
          have j2 := rg y2
          have k0 := rg z0
          have k1 := rg z1
          have k2 := rg z2
          have k3 := rg z3
          have k4 := rg z4
          have jt := rg t0
          have HIL2 := Lib.hid (fun d os => HIL.out (grow (redrawn w4 d) os) (HBZ.out.trans ((below_regrown w4 d os).mono HBZ.out.size)))
          have HCF := Lib.hid (fun d os => HCF0.out (grow (redrawn w4 d) os) (HBZ.out.trans ((below_regrown w4 d os).mono HBZ.out.size)) (k0 d os) (k1 d os) (k2 d os) (k3 d os) (k4 d os))
          clear x0 x1 x2 x3 x4 p0 p1 p2 y0 y1 y2 z0 z1 z2 z3 z4 HCF0 HIL
          refine wp_region_quiet_below (by kernel_rfl) (by kernel_rfl) ?_
          repeat (go_big_quiet_step (first | (go_at_call 133; exact Calls.regrown_of (HIL2.out _ _)) | (go_at_call 134; exact Calls.regrown_of (HCF.out _ _))))
          refine wpQuiet_nil ?_
          rintro _ ⟨⟨dq, osq⟩, rfl⟩
          go_wp2
          go_roundw
          case rel => exact ⟨k + 1, hlt, by go_num, HS.out, (HB.out.trans (HBY.out.mono HB.out.size)).trans ((below_regrown _ dq osq).mono (HB.out.trans (HBY.out.mono HB.out.size)).size)⟩
          case measure => simp [intOf]; omega
        · have HF := Lib.hid (HNO.out (by rw [HV2.out]; rfl))
          clear HV2 HST HNO
          go_wp2
          generalize wr.alloc (.cells #[.int .i64 l.id, .int .i64 l.st, .slice au nu cu, .int .i64 l.fi, .int .i64 l.ct] 94) = w4 at *
          have j0 := rg y0
          have j1 := rg y1
          have j2 := rg y2
          have k0 := rg z0
          have k1 := rg z1
          have k2 := rg z2
          have k3 := rg z3
          have k4 := rg z4
          have jt := rg t0
          have HIL2 := Lib.hid (fun d os => HIL.out (grow (redrawn w4 d) os) (HBZ.out.trans ((below_regrown w4 d os).mono HBZ.out.size)))
          have HCF := Lib.hid (fun d os => HCF0.out (grow (redrawn w4 d) os) (HBZ.out.trans ((below_regrown w4 d os).mono HBZ.out.size)) (k0 d os) (k1 d os) (k2 d os) (k3 d os) (k4 d os))
          clear x0 x1 x2 x3 x4 p0 p1 p2 y0 y1 y2 z0 z1 z2 z3 z4 HCF0 HIL
          refine wp_region_quiet_below (by kernel_rfl) (by kernel_rfl) ?_
          repeat (go_big_quiet_step (first | (go_at_call 133; exact Calls.regrown_of (HIL2.out _ _)) | (go_at_call 134; exact Calls.regrown_of (HCF.out _ _))))
          refine wpQuiet_nil ?_
          rintro _ ⟨⟨dq, osq⟩, rfl⟩
          go_wp2
          go_ret
          exact ⟨by rw [HF.out]; rfl, HBZ.out.trans ((below_regrown _ dq osq).mono HBZ.out.size)⟩
    · obtain rfl : m3 = k := by omega
      have HE := Lib.hid (HX4.out hok h12 HK.out)
      go_wp2
      go_ret
      exact ⟨by rw [HE.out]; rfl, HBX.out.trans (HB.out.mono HBX.out.size)⟩
end Go.Proofs.YtmkkdenhjfjmgaaGreat
