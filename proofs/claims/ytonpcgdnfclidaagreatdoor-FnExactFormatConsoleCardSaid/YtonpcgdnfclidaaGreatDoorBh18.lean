/- Joined: XTxtW XTxnW XTxlW XFcoW. -/
import Derived.Test.YtonpcgdnfclidaaGreatDoorBh17
import Derived.Test.YtonpcgdnfclidaaGreatDoorBh03
import Derived.Test.YtonpcgdnfclidaaGreatDoorBh12
namespace Go.Proofs.YtonpcgdnfclidaaGreatDoor
open Go.RowKit Go.Sort
set_option maxRecDepth 100000

set_option maxHeartbeats 6400000 in
theorem routeText_any (u1 u2 v3 : Value) (n : Net) (r : Rou) (nd : List Int) (w : World) (h : NetR w (.agg #[u1, u2]) n) (hok : netOk n = true) (hr : Rd w v3 r.fb) (hl : r.fb.length ≤ 1100000) (hnd : rouN n r = some nd) :
    Calls Tryz.prog 76 #[.agg #[u1, u2], .agg #[.int .i64 r.st, v3]] w fun e w' => e = .returned (.string (mk (rouL n r nd r.fb.length))) ∧ Below w.heap.size w w' := by
  have hvs := fun w' (hb : Below w.heap.size w w') => visited_any u1 u2 v3 n r w' (h.behind hb) (hr.belowAll hb) hl
  rw [hnd] at hvs
  unfold VisP at hvs
  have HVS := Lib.hid hvs
  clear hvs
  obtain ⟨g1, g2, g3, g4, g5, g6⟩ := rou_facts hok hnd
  have h14 := (netOk_yes hok).2.2.1
  have h2 := (netOk_yes hok).1
  have HSL := Lib.hid (stpL_len hok r.fb nd (fun k hk => by have := g6 k hk; omega))
  have HSM := Lib.hid (fun i : Nat => nm_len hok (i : Int))
  obtain ⟨x1, x2, e, r1, r2, hsm⟩ := h
  simp only [Value.agg.injEq, Array.mk.injEq, List.cons.injEq, and_true] at e
  obtain ⟨rfl, rfl⟩ := e
  obtain ⟨a1, m1, c1, rfl, HN1, hc1, hm1, ha1⟩ := flt_opn (m := 1) (enc := strE) (fun _ => rfl) (by omega) nilS r1
  obtain ⟨a2, m2, c2, rfl⟩ := Rdt.slice (show Rdt w (.rows _ _) u2 from r2)
  obtain ⟨a3, c3, m3, HN3, rfl, hc3, hm3, ha3⟩ := hr.opn
  obtain ⟨bN, oN, rfl, hbN, hcN⟩ := ha1 (by have := HN1.out; omega)
  have HRL := Lib.hid (show ∀ k, rouL n r nd k = nmL n r.st ++ stpL n r.fb nd k from fun _ => rfl)
  obtain ⟨s0, hs0⟩ := Int.eq_ofNat_of_zero_le g2
  have hs0I : (s0 : Int) < (m1 : Int) := by have := HN1.out; omega
  have hs0N : s0 < m1 := by omega
  have HG4 := Lib.hid (show nd[0]?.getD 0 = (s0 : Int) by rw [g4]; exact hs0)
  have HS0 := Lib.hid (show nmL n r.st = (n.ns[s0]?.getD nilS).data.toList by unfold nmL nmA; rw [hs0]; rfl)
  have H5 := Lib.hid (show ∀ k, k + 1 < r.fb.length + 1 → ∃ y : Nat, nd[k + 1]?.getD 0 = (y : Int) ∧ y < m1 from fun k hk => by
    have h1 := g5 (k + 1) (by rw [g1]; omega)
    obtain ⟨y, hy⟩ := Int.eq_ofNat_of_zero_le h1.1
    exact ⟨y, hy, by have := HN1.out; omega⟩)
  have H6 := Lib.hid (show ∀ k, k < r.fb.length → ∃ x : Nat, r.fb[k]?.getD 0 = (x : Int) ∧ x < 14 from fun k hk => by
    have h1 := g6 k hk
    obtain ⟨x, hx⟩ := Int.eq_ofNat_of_zero_le h1.1
    exact ⟨x, hx, by omega⟩)
  have HG1 := Lib.hid g1
  have HST := Lib.hid (show ∀ k, stpL n r.fb nd (k + 1) = stpL n r.fb nd k ++ ([46] ++ digs (r.fb[k]?.getD 0).toNat ++ [46] ++ nmL n (nd[k + 1]?.getD 0)) from fun _ => rfl)
  have HNM := Lib.hid (show ∀ y : Nat, nmL n (y : Int) = (n.ns[y]?.getD nilS).data.toList from fun _ => rfl)
  have HSZ := Lib.hid (show ∀ y : Nat, (n.ns[y]?.getD nilS).size ≤ 8 from fun y => HSM.out y)
  rw [HN3.out] at HSL H5 H6 HG1
  have h10 : m3 ≤ 1100000 := by have := HN3.out; omega
  have HCN := Lib.hid hcN
  have HA3 := Lib.hid ha3
  obtain ⟨bx, bc, blt, -⟩ := box_facts w #[.slice (some ⟨bN, oN, none⟩) m1 c1, .slice a2 m2 c2] 38
  obtain ⟨by', bd, bmt, -⟩ := box_facts (w.alloc (.cells #[.slice (some ⟨bN, oN, none⟩) m1 c1, .slice a2 m2 c2] 38)) #[.int .i64 r.st, .slice a3 m3 c3] 94
  have q0 := (by'.cell (p := ⟨w.heap.size, 0, none⟩) blt).trans (bc 0 _ rfl)
  have q1 := (by'.cell (p := ⟨w.heap.size, 1, none⟩) blt).trans (bc 1 _ rfl)
  have q2 := bd 0 _ rfl
  have q3 := bd 1 _ rfl
  have hs1 : (w.alloc (.cells #[.slice (some ⟨bN, oN, none⟩) m1 c1, .slice a2 m2 c2] 38)).heap.size = w.heap.size + 1 := by simp
  rw [hs1] at q2 q3 bmt
  have HBX := Lib.hid (bx.trans (by'.mono bx.size))
  have blt2 := Nat.lt_of_lt_of_le blt by'.size
  rw [show rouL n r nd r.fb.length = rouL n r nd m3 by rw [HN3.out]]
  have HST0 := Lib.hid hs0
  clear hs0
  clear bc bd bx by' hs1 ha1 ha3 hcN r1 r2 blt hr g1 g2 g3 g4 g5 g6 hnd hsm h14 h2 hl
  go_enter Tryz.func76, Tryz.ntmps76
  go_wp2_with fail
  generalize (w.alloc (.cells #[.slice (some ⟨bN, oN, none⟩) m1 c1, .slice a2 m2 c2] 38)).alloc (.cells #[.int .i64 r.st, .slice a3 m3 c3] 94) = w2 at *
  refine (HVS.out w2 HBX.out).mono ?_
  rintro e w3 ⟨v, rfl, ho, -, b3⟩
  have HO := Lib.hid (show Own w3 w2.heap.size v nd from ho rfl)
  obtain ⟨aR, cR, nR, HNR, rfl, hcR, hnR, haR⟩ := HO.out.rd.opn
  have hnR1 : nR = m3 + 1 := by have := HNR.out; have := HG1.out; omega
  subst hnR1
  obtain ⟨bR, oR, rfl, hbR, hcsR⟩ := haR (by omega)
  have hbN2 : bN < w3.heap.size := Nat.lt_of_lt_of_le hbN (Nat.le_trans HBX.out.size b3.size)
  have y0 := (b3.cell (p := ⟨w.heap.size, 0, none⟩) blt2).trans q0
  have y3 := (b3.cell (p := ⟨w.heap.size + 1, 1, none⟩) bmt).trans q3
  have blt3 := Nat.lt_of_lt_of_le blt2 b3.size
  have bmt3 := Nat.lt_of_lt_of_le bmt b3.size
  have HB3 := Lib.hid (HBX.out.trans (b3.mono HBX.out.size))
  have HCR := Lib.hid hcsR
  have HC3 := Lib.hid (show ∀ i, i < m1 → w3.cell? ⟨bN, oN + i, none⟩ = some (.string (n.ns[i]?.getD nilS)) from fun i hi => by
    have := HCN.out i hi 0 (.string (n.ns[i]?.getD nilS)) rfl
    rw [Nat.mul_one, Nat.add_zero] at this
    exact (HB3.out.cell (p := ⟨bN, oN + i, none⟩) hbN).trans this)
  have e0 := HC3.out s0 hs0N
  have i0 := hcsR 0 (by omega)
  rw [HG4.out, Nat.add_zero] at i0
  have hR1 : (0 : Int) < ((m3 + 1 : Nat) : Int) := by omega
  clear b3 q0 q1 q2 q3 haR hcsR
  go_wp2
  have j0 := rg y0
  have j1 := rg i0
  have j2 := rg e0
  refine wp_region_quiet_below (by kernel_rfl) (by kernel_rfl) ?_
  repeat (go_big_quiet_step (first | (fail)))
  refine wpQuiet_nil ?_
  rintro _ ⟨⟨dq, osq⟩, rfl⟩
  have b4 := below_regrown w3 dq osq
  have y3 := (b4.cell (p := ⟨w.heap.size + 1, 1, none⟩) bmt3).trans y3
  clear j0 j1 j2
  generalize grow (redrawn w3 dq) osq = w4 at *
  have HB4 := Lib.hid b4
  clear b4
  go_wp2
  go_loopw [7, 8, 9, 26] (fun s7 _ _ i wr => ∃ (k : Nat) (X : ByteArray), k ≤ m3 ∧ i = .int .i64 k ∧ s7 = .string X ∧ Hid (X.data.toList = rouL n r nd k) ∧ Hid (Below w3.heap.size w3 wr)) (fun _ _ _ i _ => m3 - (intOf i).toNat)
  case atStart => exact ⟨0, _, Nat.zero_le _, rfl, rfl, by show Hid (_ = _); unfold Hid; rw [HRL.out, HS0.out]; simp [stpL], HB4.out⟩
  case round =>
    obtain ⟨k, X, hk, rfl, rfl, HX, HB⟩ := hrel
    by_cases hlt : k < m3
    · have hltI : (k : Int) < (m3 : Int) := by omega
      obtain ⟨y, hy, hyN⟩ := H5.out k (by omega)
      obtain ⟨x, hx, hx14⟩ := H6.out k hlt
      have hyI : (y : Int) < (m1 : Int) := by omega
      obtain ⟨bF, oF, rfl, hbF, hcF⟩ := HA3.out (by omega)
      have f0 := (HB.out.cell (p := ⟨bF, oF + k, none⟩) (Nat.lt_of_lt_of_le hbF HB3.out.size)).trans ((HB3.out.cell (p := ⟨bF, oF + k, none⟩) hbF).trans (hcF k hlt))
      have f1 := (HB.out.cell (p := ⟨bR, oR + (k + 1), none⟩) hbR).trans (HCR.out (k + 1) (by omega))
      have f2 := (HB.out.cell (p := ⟨bN, oN + y, none⟩) hbN2).trans (HC3.out y hyN)
      have t0 := (HB.out.cell (p := ⟨w.heap.size, 0, none⟩) blt3).trans y0
      rw [hx] at f0
      rw [hy] at f1
      have hst := HST.out k
      rw [hx, hy, Int.toNat_natCast, HNM.out] at hst
      have hsz := HSZ.out y
      have hsl := HSL.out k (by omega)
      have hs0s := HSZ.out s0
      have hxs : X.size ≤ 8 + 12 * k := by
        rw [size_data, HX.out, HRL.out, List.length_append, HS0.out, ← size_data]; omega
      have hdl := digs_len 1 x (by omega)
      have HI := Lib.hid (fun w => itoS x (by omega) w)
      have hrl := HRL.out (k + 1)
      rw [hst] at hrl
      have hrl0 := HRL.out k
      generalize n.ns[y]?.getD nilS = s at *
      generalize digs x = ds at *
      have HX2 := Lib.hid (show (X ++ (mk [46] ++ mk ds ++ mk [46] ++ s)).data.toList = rouL n r nd (k + 1) from by
        rw [hrl]
        simp only [data_append, data_mk, HX.out, hrl0, List.append_assoc])
      have z1 : ¬ 9223372036854775807 < 1 + ds.length := by omega
      have z2 : ¬ 9223372036854775807 < 1 + ds.length + 1 := by omega
      have z3 : ¬ 9223372036854775807 < 1 + ds.length + 1 + s.size := by omega
      have z4 : ¬ 9223372036854775807 < X.size + (1 + ds.length + 1 + s.size) := by omega
      have k1 : IntKind.i64.wrap ((k : Int) + 1) = ((k + 1 : Nat) : Int) := by rw [IntWalk.i64_in _ (by omega)]; omega
      have k2 : ((k + 1 : Nat) : Int) < ((m3 + 1 : Nat) : Int) := by omega
      clear hst hsl hs0s hxs hdl hrl hrl0 hcF hx hy hsz
      go_wp2
      have j0 := rg f0
      have j1 := rg f1
      have j2 := rg f2
      have j3 := rg t0
      clear f0 f1 f2 t0
      refine wp_region_quiet_below (by kernel_rfl) (by kernel_rfl) ?_
      repeat (go_big_quiet_step (first | (go_at_call 75; exact Calls.regrown_of (HI.out _))))
      refine wpQuiet_nil ?_
      rintro _ ⟨⟨dq, osq⟩, rfl⟩
      have b5 := below_regrown wr dq osq
      have HB5 := Lib.hid (HB.out.trans (b5.mono HB.out.size))
      generalize grow (redrawn wr dq) osq = w5 at *
      clear j0 j1 j2 j3 z1 z2 z3 z4 k1 k2 b5
      go_wp2
      go_roundw
      case rel => exact ⟨k + 1, _, hlt, by go_num, rfl, HX2.out, HB5.out⟩
      case measure => simp [intOf]; omega
    · obtain rfl : m3 = k := by omega
      go_wp2
      go_ret
      exact ⟨by rw [show X = mk (rouL n r nd m3) from ba_ext (by rw [data_mk]; exact HX.out)]; rfl, HB3.out.trans (HB.out.mono HB3.out.size)⟩
end Go.Proofs.YtonpcgdnfclidaaGreatDoor
namespace Go.Proofs.YtonpcgdnfclidaaGreatDoor
open Go.RowKit Go.Sort
set_option maxRecDepth 100000

set_option maxHeartbeats 6400000 in
theorem FormatNetwork_any (u1 u2 : Value) (n : Net) (w : World) (h : NetR w (.agg #[u1, u2]) n) (hok : netOk n = true) (ht : TabOk w) :
    Calls Tryz.prog 74 #[.agg #[u1, u2]] w fun e w' => e = .returned (.tuple #[.string (mk (netL n n.fs.length)), .bool true]) ∧ Below w.heap.size w w' := by
  have HTW := Lib.hid (fun w' (hb : Below w.heap.size w w') => ht.below hb)
  have hvn := fun w' (hb : Below w.heap.size w w') => IsValidNetwork_any _ n w' (h.behind hb)
  rw [hok] at hvn
  have HVN := Lib.hid hvn
  clear hvn ht
  obtain ⟨hn2, hn8, hn14, -, -⟩ := netOk_yes hok
  have HFB := Lib.hid (fun k (hk : k < n.fs.length) => fb_nat hok hk)
  have HSM := Lib.hid (fun i : Nat => nm_len hok (i : Int))
  have HLN := Lib.hid (netL_len hok)
  have HND := Lib.hid (ndsL_len hok)
  have HJN := Lib.hid (nds_join (n := n) (fun e => by rw [e] at hn2; simp at hn2))
  obtain ⟨x1, x2, e, r1, r2, hsm⟩ := h
  simp only [Value.agg.injEq, Array.mk.injEq, List.cons.injEq, and_true] at e
  obtain ⟨rfl, rfl⟩ := e
  obtain ⟨a1, m1, c1, rfl, HN1, hc1, hm1, ha1⟩ := flt_opn (m := 1) (enc := strE) (fun _ => rfl) (by omega) nilS r1
  obtain ⟨a2, m2, c2, rfl, HN2, hc2, hm2, ha2⟩ := flt_opn (m := 4) (enc := fibE) (fun _ => rfl) (by omega) nilB r2
  obtain ⟨bN, oN, rfl, hbN, hcN⟩ := ha1 (by have := HN1.out; omega)
  have hm14 : m2 ≤ 14 := by have := HN2.out; omega
  have hm8 : m1 ≤ 8 := by have := HN1.out; omega
  have HA2 := Lib.hid ha2
  have HCN := Lib.hid (show ∀ i, i < m1 → w.cell? ⟨bN, oN + i, none⟩ = some (.string (n.ns[i]?.getD nilS)) from fun i hi => by
    have := hcN i hi 0 (.string (n.ns[i]?.getD nilS)) rfl
    rwa [Nat.mul_one, Nat.add_zero] at this)
  have HNM := Lib.hid (show ∀ y : Nat, nmL n (y : Int) = (n.ns[y]?.getD nilS).data.toList from fun _ => rfl)
  have HSZ := Lib.hid (show ∀ y : Nat, (n.ns[y]?.getD nilS).size ≤ 8 from fun y => HSM.out y)
  have HST := Lib.hid (fun k (hk : k < n.fs.length) => netL_step hk)
  have HFL := Lib.hid (show ∀ a b l r : Nat, fibL n ⟨a, b, l, r⟩ = [102, 105, 98, 101, 114, 32] ++ (n.ns[a]?.getD nilS).data.toList ++ [32] ++ (n.ns[b]?.getD nilS).data.toList ++ [32] ++ digs l ++ (if 0 < r then [32, 114, 105, 115, 107, 32] ++ digs r else []) ++ [10] from fun a b l r => fibL_nat n a b l r)
  have HNS := Lib.hid (fun k (hk : k < n.ns.length) => ndsL_step hk)
  have HN0 := Lib.hid (show netL n 0 = [110, 111, 100, 101, 115] ++ ndsL n m1 ++ [10] by rw [← HN1.out]; unfold netL fbsL; simp)
  have HD0 := Lib.hid (show ndsL n 0 = [] from rfl)
  obtain ⟨bx, bc, blt, -⟩ := box_facts w #[.slice (some ⟨bN, oN, none⟩) m1 c1, .slice a2 m2 c2] 38
  have q0 := bc 0 _ rfl
  have q1 := bc 1 _ rfl
  have HBX := Lib.hid bx
  have HJ := Lib.hid (fun w' (hb : Below w.heap.size w w') => by
    have := Tryz.strings_Join bN oN c1 n.ns ⟨#[32]⟩ w' (fun j x hx => by
      have hj : j < n.ns.length := (List.getElem?_eq_some_iff.1 hx).1
      have := (hb.cell (p := ⟨bN, oN + j, none⟩) hbN).trans (HCN.out j (by rw [← HN1.out]; exact hj))
      rwa [hx] at this) (Nat.lt_of_lt_of_le hbN hb.size) (by omega) (by rw [HN1.out]; exact hc1) (by
      show (Go.Lib.join (n.ns.map (·.data.toList)) [32]).length ≤ _
      have h1 := congrArg List.length HJN.out
      have h2 := HND.out n.ns.length
      rw [List.length_cons] at h1
      omega)
    rw [HN1.out] at this
    exact this)
  have HJL := Lib.hid (show (Go.Lib.join (n.ns.map (·.data.toList)) [32]).length ≤ 80 by
      have h1 := congrArg List.length HJN.out
      have h2 := HND.out n.ns.length
      rw [List.length_cons] at h1
      omega)
  rw [HN1.out] at HNS
  rw [HN2.out] at HFB HST
  rw [show netL n n.fs.length = netL n m2 by rw [HN2.out]]
  rw [HN1.out] at HJN
  have HJN2 := Lib.hid (show ∀ J, Go.Lib.join (n.ns.map (·.data.toList)) [32] = J → 32 :: J = ndsL n m1 from fun J e => by rw [← e]; exact HJN.out)
  have HJ2 : Hid (∀ w', Below w.heap.size w w' → Calls Tryz.prog 104 #[.slice (some ⟨bN, oN, none⟩) m1 c1, .string ⟨#[32]⟩] w' fun e w'' => e = .returned (.string (mk (Go.Lib.join (n.ns.map (·.data.toList)) [32]))) ∧ Below w'.heap.size w' w'') := Lib.hid (fun w' hb => HJ.out w' hb)
  generalize hJ : Go.Lib.join (n.ns.map (·.data.toList)) [32] = J at *
  have HX0 := Lib.hid (show (mk [110, 111, 100, 101, 115, 32] ++ mk J ++ mk [10]).data.toList = netL n 0 from by
    rw [HN0.out, ← HJN2.out J rfl]
    simp [data_append, data_mk])
  clear hJ HJN HJ HJN2
  have hJ80 := HJL.out
  have z1 : ¬ 9223372036854775807 < 6 + J.length := by omega
  have z2 : ¬ 9223372036854775807 < 6 + J.length + 1 := by omega
  clear bc bx ha1 ha2 hcN r1 r2 hsm hn2 hn8 hn14 hok
  go_enter Tryz.func74, Tryz.ntmps74
  go_wp2_with fail
  generalize w.alloc (.cells #[.slice (some ⟨bN, oN, none⟩) m1 c1, .slice a2 m2 c2] 38) = w1 at *
  refine (HVN.out _ HBX.out).mono ?_
  rintro e w2 ⟨rfl, b2⟩
  have t0 := (b2.cell (p := ⟨w.heap.size, 0, none⟩) blt).trans q0
  have t1 := (b2.cell (p := ⟨w.heap.size, 1, none⟩) blt).trans q1
  have HB2 := Lib.hid (HBX.out.trans (b2.mono HBX.out.size))
  have blt2 := Nat.lt_of_lt_of_le blt b2.size
  clear b2 q0 q1
  go_wp2_with fail
  refine (HJ2.out _ HB2.out).mono ?_
  rintro e w3 ⟨rfl, b3⟩
  have q0 := (b3.cell (p := ⟨w.heap.size, 0, none⟩) blt2).trans t0
  have q1 := (b3.cell (p := ⟨w.heap.size, 1, none⟩) blt2).trans t1
  have HB3 := Lib.hid (HB2.out.trans (b3.mono HB2.out.size))
  have blt3 := Nat.lt_of_lt_of_le blt2 b3.size
  clear b3 t0 t1
  go_wp2
  clear z1 z2
  go_loopw [4, 6, 18] (fun s4 _ i wr => ∃ (k : Nat) (X : ByteArray), k ≤ m2 ∧ i = .int .i64 k ∧ s4 = .string X ∧ Hid (X.data.toList = netL n k) ∧ Hid (Below w3.heap.size w3 wr)) (fun _ _ i _ => m2 - (intOf i).toNat)
  case atStart => exact ⟨0, _, Nat.zero_le _, rfl, rfl, HX0.out, Below.refl _ _⟩
  case round =>
    obtain ⟨k, X, hk, rfl, rfl, HX, HB⟩ := hrel
    have t0 := (HB.out.cell (p := ⟨w.heap.size, 0, none⟩) blt3).trans q0
    have hxs : X.size ≤ 1000 := by rw [size_data, HX.out]; exact HLN.out k
    by_cases hlt : k < m2
    · have hltI : (k : Int) < (m2 : Int) := by omega
      obtain ⟨a, b, l, r, hf, haN, hbN1, hl5, hr9⟩ := HFB.out k hlt
      rw [HN1.out] at haN hbN1
      have haI : (a : Int) < (m1 : Int) := by omega
      have hbI : (b : Int) < (m1 : Int) := by omega
      obtain ⟨bF, oF, rfl, hbF, hcF⟩ := HA2.out (by omega)
      have hck := hcF k hlt
      unfold fbA at hf
      rw [hf] at hck
      have HW := Lib.hid (HB3.out.trans (HB.out.mono HB3.out.size))
      have f0 := (HW.out.cell (p := ⟨bF, oF + k * 4 + 0, none⟩) hbF).trans (hck 0 (.int .i64 (a : Int)) rfl)
      have f1 := (HW.out.cell (p := ⟨bF, oF + k * 4 + 1, none⟩) hbF).trans (hck 1 (.int .i64 (b : Int)) rfl)
      have f2 := (HW.out.cell (p := ⟨bF, oF + k * 4 + 2, none⟩) hbF).trans (hck 2 (.int .i64 (l : Int)) rfl)
      have f3 := (HW.out.cell (p := ⟨bF, oF + k * 4 + 3, none⟩) hbF).trans (hck 3 (.int .i64 (r : Int)) rfl)
      simp only [Nat.add_zero] at f0
      have e0 := (HW.out.cell (p := ⟨bN, oN + a, none⟩) hbN).trans (HCN.out a haN)
      have e1 := (HW.out.cell (p := ⟨bN, oN + b, none⟩) hbN).trans (HCN.out b hbN1)
      obtain ⟨bx, bc, bl4, -⟩ := box_facts wr #[.int .i64 (a : Int), .int .i64 (b : Int), .int .i64 (l : Int), .int .i64 (r : Int)] 110
      have s0 := bc 0 _ rfl
      have s1 := bc 1 _ rfl
      have s2 := bc 2 _ rfl
      have s3 := bc 3 _ rfl
      have g0 := (bx.cell (p := ⟨w.heap.size, 0, none⟩) (World.block_lt_of_cell? _ _ t0)).trans t0
      have g1 := (bx.cell (p := ⟨bN, oN + a, none⟩) (World.block_lt_of_cell? _ _ e0)).trans e0
      have g2 := (bx.cell (p := ⟨bN, oN + b, none⟩) (World.block_lt_of_cell? _ _ e1)).trans e1
      have HB5 := Lib.hid (HB.out.trans (bx.mono HB.out.size))
      have hst := HST.out k hlt
      unfold fbA at hst
      rw [hf, HFL.out] at hst
      have hsa := HSZ.out a
      have hsb := HSZ.out b
      have hd5 := digs_len 3 l (by omega)
      have hdr := digs_len 0 r (by omega)
      have HI := Lib.hid (fun w' (hb : Below w.heap.size w w') => itoB l (by omega) w' (HTW.out w' hb))
      have HR := Lib.hid (fun w => itoS r (by omega) w)
      have HW5 := Lib.hid (HW.out.trans (bx.mono HW.out.size))
      have hrb : decide ((0 : Int) < (r : Int)) = decide (0 < r) := by
        by_cases h0 : 0 < r
        · rw [decide_eq_true h0]; exact decide_eq_true (by omega)
        · rw [decide_eq_false h0]; exact decide_eq_false (by omega)
      have HRB := Lib.hid hrb
      clear bx bc hck hcF hf hrb
      generalize n.ns[a]?.getD nilS = sa at *
      generalize n.ns[b]?.getD nilS = sb at *
      generalize digs l = dl at *
      generalize digs r = dr at *
      have z0 : ¬ 9223372036854775807 < 6 + sa.size := by omega
      have z1 : ¬ 9223372036854775807 < 6 + sa.size + 1 := by omega
      have z2 : ¬ 9223372036854775807 < 6 + sa.size + 1 + sb.size := by omega
      have z3 : ¬ 9223372036854775807 < 6 + sa.size + 1 + sb.size + 1 := by omega
      have z4 : ¬ 9223372036854775807 < 6 + sa.size + 1 + sb.size + 1 + dl.length := by omega
      have z5 : ¬ 9223372036854775807 < X.size + (6 + sa.size + 1 + sb.size + 1 + dl.length) := by omega
      clear e0 e1
      by_cases hr0 : 0 < r
      · have hrI : (0 : Int) < (r : Int) := by omega
        have hrd : decide (0 < r) = true := decide_eq_true hr0
        have HX2 := Lib.hid (show (X ++ (mk [102, 105, 98, 101, 114, 32] ++ sa ++ mk [32] ++ sb ++ mk [32] ++ mk dl) ++ (mk [32, 114, 105, 115, 107, 32] ++ mk dr) ++ mk [10]).data.toList = netL n (k + 1) from by
          rw [hst, if_pos hr0]
          simp [data_append, HX.out])
        have y0 : ¬ 9223372036854775807 < 6 + dr.length := by omega
        have y1 : ¬ 9223372036854775807 < X.size + (6 + sa.size + 1 + sb.size + 1 + dl.length) + (6 + dr.length) := by omega
        have y2 : ¬ 9223372036854775807 < X.size + (6 + sa.size + 1 + sb.size + 1 + dl.length) + (6 + dr.length) + 1 := by omega
        clear hst hsa hsb hd5 hdr hxs HRB
        go_wp2
        clear f0 f1 f2 f3
        generalize wr.alloc (.cells #[.int .i64 (a : Int), .int .i64 (b : Int), .int .i64 (l : Int), .int .i64 (r : Int)] 110) = w5 at *
        have j0 := rg s0
        have j1 := rg s1
        have j2 := rg s2
        have j3 := rg s3
        have j4 := rg g0
        have j5 := rg g1
        have j6 := rg g2
        clear s0 s1 s2 s3 g0 g1 g2 t0
        refine wp_region_quiet_below (by kernel_rfl) (by kernel_rfl) ?_
        repeat (go_big_quiet_step (first | (go_at_call 75; exact Calls.regrown_of (HI.out _ (HW5.out.trans ((below_regrown _ _ _).mono HW5.out.size))))))
        refine wpQuiet_nil ?_
        rintro _ ⟨⟨dq, osq⟩, rfl⟩
        have b6 := below_regrown w5 dq osq
        have s3 := j3 dq osq
        have HB6 := Lib.hid (HB5.out.trans (b6.mono HB5.out.size))
        generalize grow (redrawn w5 dq) osq = w6 at *
        clear j0 j1 j2 j3 j4 j5 j6 b6 z0 z1 z2 z3 z4 z5
        go_wp2_with fail
        refine (HR.out _).mono ?_
        rintro e w7 ⟨rfl, b7⟩
        have HB7 := Lib.hid (HB6.out.trans (b7.mono HB6.out.size))
        clear b7 s3
        go_wp2
        go_roundw
        case rel => exact ⟨k + 1, _, hlt, by go_num, rfl, HX2.out, HB7.out⟩
        case measure => simp [intOf]; omega
      · have hrI : ¬ (0 : Int) < (r : Int) := by omega
        have hrd : decide (0 < r) = false := decide_eq_false hr0
        have HX2 := Lib.hid (show (X ++ (mk [102, 105, 98, 101, 114, 32] ++ sa ++ mk [32] ++ sb ++ mk [32] ++ mk dl) ++ mk [10]).data.toList = netL n (k + 1) from by
          rw [hst, if_neg hr0]
          simp [data_append, HX.out])
        have y0 : ¬ 9223372036854775807 < X.size + (6 + sa.size + 1 + sb.size + 1 + dl.length) + 1 := by omega
        clear hst hsa hsb hd5 hdr hxs HRB
        go_wp2
        clear f0 f1 f2 f3
        generalize wr.alloc (.cells #[.int .i64 (a : Int), .int .i64 (b : Int), .int .i64 (l : Int), .int .i64 (r : Int)] 110) = w5 at *
        have j0 := rg s0
        have j1 := rg s1
        have j2 := rg s2
        have j3 := rg s3
        have j4 := rg g0
        have j5 := rg g1
        have j6 := rg g2
        clear s0 s1 s2 s3 g0 g1 g2 t0
        refine wp_region_quiet_below (by kernel_rfl) (by kernel_rfl) ?_
        repeat (go_big_quiet_step (first | (go_at_call 75; exact Calls.regrown_of (HI.out _ (HW5.out.trans ((below_regrown _ _ _).mono HW5.out.size))))))
        refine wpQuiet_nil ?_
        rintro _ ⟨⟨dq, osq⟩, rfl⟩
        have b6 := below_regrown w5 dq osq
        have s3 := j3 dq osq
        have HB6 := Lib.hid (HB5.out.trans (b6.mono HB5.out.size))
        generalize grow (redrawn w5 dq) osq = w6 at *
        clear j0 j1 j2 j3 j4 j5 j6 b6 z0 z1 z2 z3 z4 z5
        go_wp2
        go_roundw
        case rel => exact ⟨k + 1, _, hlt, by go_num, rfl, HX2.out, HB6.out⟩
        case measure => simp [intOf]; omega
    · obtain rfl : m2 = k := by omega
      go_wp2
      go_ret2
      exact ⟨by rw [show X = mk (netL n m2) from ba_ext (by rw [data_mk]; exact HX.out)]; rfl, HB3.out.trans (HB.out.mono HB3.out.size)⟩
end Go.Proofs.YtonpcgdnfclidaaGreatDoor
namespace Go.Proofs.YtonpcgdnfclidaaGreatDoor
open Go.RowKit Go.Sort
set_option maxRecDepth 100000

set_option maxHeartbeats 6400000 in
theorem FormatPlan_any (v : Value) (p : Pln) (w : World) (h : PlnR w v p) (hok : plnOk p = true) (hfb : ∀ i : Nat, (lgA p i).fb.length ≤ 1100000) (ht : TabOk w) :
    Calls Tryz.prog 51 #[v] w fun e w' => e = .returned (.tuple #[.string (mk (plnL p p.ls.length)), .bool true]) ∧ Below w.heap.size w w' := by
  obtain ⟨hno, h12, hlo⟩ := plnOk_ls hok
  have HTW := Lib.hid (fun w' (hb : Below w.heap.size w w') => ht.below hb)
  have hvp := fun w' (hb : Below w.heap.size w w') => IsValidPlan_any _ p w' (h.behind hb) hfb
  rw [hok] at hvp
  have HVP := Lib.hid hvp
  clear hvp
  obtain ⟨u1, u2, u3, rfl, r1, r2, r3, hsm⟩ := h
  have hnet : NetR w (.agg #[u1, u2]) p.n := ⟨u1, u2, rfl, r1, r2, hsm⟩
  obtain ⟨⟨a1, m1, c1, rfl⟩, a2, m2, c2, rfl⟩ := slice_of_net hnet
  obtain ⟨a3, m3, c3, rfl, HN3, hc3, hm3, ha3⟩ := lgt_opn r3
  have HNT := Lib.hid (fun w' (hb : Below w.heap.size w w') => FormatNetwork_any _ _ p.n w' (hnet.behind hb) hno (HTW.out w' hb))
  have HRT := Lib.hid (fun (x : Lgt) nd v w' (hb : Below w.heap.size w w') (hr : Rd w' v x.fb) (hl : x.fb.length ≤ 1100000) (hnd : rouN p.n ⟨x.st, x.fb⟩ = some nd) => routeText_any _ _ v p.n ⟨x.st, x.fb⟩ nd w' (hnet.behind hb) hno hr hl hnd)
  have HNA := Lib.hid (fun k (hk : k < p.ls.length) => lgt_nat (hlo k hk))
  have HRL := Lib.hid (fun (x : Lgt) nd (hl : x.fb.length ≤ 1100000) (hnd : rouN p.n ⟨x.st, x.fb⟩ = some nd) => rouL_len hno hnd hl)
  have HLG := Lib.hid (fun (i f c : Nat) st fb nd (hnd : rouN p.n ⟨st, fb⟩ = some nd) => lgtL_nat (n := p.n) (i := i) (f := f) (c := c) (st := st) (fb := fb) hnd)
  have HA := Lib.hid ha3
  have HFB := Lib.hid hfb
  have HLN := Lib.hid (plnL_len hok hfb)
  have HLL := Lib.hid (fun k (hk : k < p.ls.length) => lnL_len hno (hlo k hk) (hfb k))
  have HST := Lib.hid (fun k (hk : k < p.ls.length) => plnL_step hk)
  have HP0 := Lib.hid (show plnL p 0 = netL p.n p.n.fs.length by unfold plnL lnsL; simp)
  have hm12 : m3 ≤ 12 := by have := HN3.out; omega
  obtain ⟨bx, bc, blt, -⟩ := box_facts w #[.slice a1 m1 c1, .slice a2 m2 c2, .slice a3 m3 c3] 41
  have q0 := bc 0 _ rfl
  have q1 := bc 1 _ rfl
  have q2 := bc 2 _ rfl
  have HBX := Lib.hid bx
  rw [show plnL p p.ls.length = plnL p m3 by rw [HN3.out]]
  rw [HN3.out] at HNA HLN HLL HST
  clear bc bx ha3 r1 r2 r3 hsm hnet hfb hlo hno h12 hok ht
  go_enter Tryz.func51, Tryz.ntmps51
  go_wp2_with fail
  generalize w.alloc (.cells #[.slice a1 m1 c1, .slice a2 m2 c2, .slice a3 m3 c3] 41) = w1 at *
  refine (HVP.out _ HBX.out).mono ?_
  rintro e w2 ⟨rfl, b2⟩
  have t0 := (b2.cell (p := ⟨w.heap.size, 0, none⟩) blt).trans q0
  have t1 := (b2.cell (p := ⟨w.heap.size, 1, none⟩) blt).trans q1
  have t2 := (b2.cell (p := ⟨w.heap.size, 2, none⟩) blt).trans q2
  have HB2 := Lib.hid (HBX.out.trans (b2.mono HBX.out.size))
  have blt2 := Nat.lt_of_lt_of_le blt b2.size
  clear b2 q0 q1 q2
  go_wp2_with fail
  refine (HNT.out _ HB2.out).mono ?_
  rintro e w3 ⟨rfl, b3⟩
  have q0 := (b3.cell (p := ⟨w.heap.size, 0, none⟩) blt2).trans t0
  have q1 := (b3.cell (p := ⟨w.heap.size, 1, none⟩) blt2).trans t1
  have q2 := (b3.cell (p := ⟨w.heap.size, 2, none⟩) blt2).trans t2
  have HB3 := Lib.hid (HB2.out.trans (b3.mono HB2.out.size))
  have blt3 := Nat.lt_of_lt_of_le blt2 b3.size
  clear b3 t0 t1 t2
  go_wp2
  go_loopw [4, 7, 20] (fun s4 _ i wr => ∃ (k : Nat) (X : ByteArray), k ≤ m3 ∧ i = .int .i64 k ∧ s4 = .string X ∧ Hid (X.data.toList = plnL p k) ∧ Hid (Below w3.heap.size w3 wr)) (fun _ _ i _ => m3 - (intOf i).toNat)
  case atStart => exact ⟨0, _, Nat.zero_le _, rfl, rfl, by show Hid (_ = _); unfold Hid; rw [HP0.out, data_mk], Below.refl _ _⟩
  case round =>
    obtain ⟨k, X, hk, rfl, rfl, HX, HB⟩ := hrel
    have t0 := (HB.out.cell (p := ⟨w.heap.size, 0, none⟩) blt3).trans q0
    have t1 := (HB.out.cell (p := ⟨w.heap.size, 1, none⟩) blt3).trans q1
    have t2 := (HB.out.cell (p := ⟨w.heap.size, 2, none⟩) blt3).trans q2
    have hxs : X.size ≤ 1000 + 13300000 * k := by rw [size_data, HX.out]; exact HLN.out k hk
    by_cases hlt : k < m3
    · have hltI : (k : Int) < (m3 : Int) := by omega
      obtain ⟨b, off, rfl, hbs, hcs⟩ := HA.out (by omega)
      obtain ⟨u, e0, e1, e2, e3, e4, hru⟩ := hcs k hlt
      have HW := Lib.hid (HB3.out.trans (HB.out.mono HB3.out.size))
      have f0 := (HW.out.cell (p := ⟨b, off + k * 5, none⟩) hbs).trans e0
      have f1 := (HW.out.cell (p := ⟨b, off + k * 5 + 1, none⟩) hbs).trans e1
      have f2 := (HW.out.cell (p := ⟨b, off + k * 5 + 2, none⟩) hbs).trans e2
      have f3 := (HW.out.cell (p := ⟨b, off + k * 5 + 3, none⟩) hbs).trans e3
      have f4 := (HW.out.cell (p := ⟨b, off + k * 5 + 4, none⟩) hbs).trans e4
      have hst := HST.out k hlt
      have hll := HLL.out k hlt
      obtain ⟨aU, cU, nU, -, rfl, -, -, -⟩ := hru.opn
      have HRU := Lib.hid hru
      obtain ⟨i, f, c, hi, hf, hc, i9, f9, c9, nd, hnd⟩ := HNA.out k hlt
      have hfl := HFB.out k
      generalize hx : lgA p k = x at *
      unfold lgA at hx
      rw [hx] at f0 f1 f3 f4 HRU
      obtain ⟨id, st, fb, fi, ct⟩ := x
      dsimp only at hi hf hc hnd hfl f0 f1 f3 f4 HRU
      subst hi hf hc
      have HR := Lib.hid (fun w' (hb : Below w.heap.size w w') => HRT.out ⟨i, st, fb, f, c⟩ nd (.slice aU nU cU) w' hb (HRU.out.belowAll hb) hfl hnd)
      have hrl : (rouL p.n ⟨st, fb⟩ nd fb.length).length ≤ 13200008 := HRL.out ⟨i, st, fb, f, c⟩ nd hfl hnd
      have HN := Lib.hid (fun w' (hb : Below w.heap.size w w') => itoB i (by omega) w' (HTW.out w' hb))
      have HK := Lib.hid (fun w => blockText_any f c f9 c9 w)
      have hd1 := digs_len 2 i (by omega)
      have hd2 := digs_len 1 f (by omega)
      have hd3 := digs_len 1 c (by omega)
      have hbl : (digs f ++ [43] ++ digs c).length ≤ 5 := by simp only [List.length_append, List.length_cons, List.length_nil]; omega
      have hlg := HLG.out i f c st fb nd hnd
      have hst2 : plnL p (k + 1) = plnL p k ++ ([108, 105, 103, 104, 116, 32] ++ (digs i ++ [32] ++ rouL p.n ⟨st, fb⟩ nd fb.length ++ [32] ++ (digs f ++ [43] ++ digs c)) ++ [10]) := by rw [hst]; unfold lnL; rw [hlg]
      obtain ⟨bx, bc, bl4, -⟩ := box_facts wr #[.int .i64 (i : Int), .int .i64 st, .slice aU nU cU, .int .i64 (f : Int), .int .i64 (c : Int)] 98
      have s0 := bc 0 _ rfl
      have s1 := bc 1 _ rfl
      have s2 := bc 2 _ rfl
      have s3 := bc 3 _ rfl
      have s4 := bc 4 _ rfl
      have g0 := (bx.cell (p := ⟨w.heap.size, 0, none⟩) (World.block_lt_of_cell? _ _ t0)).trans t0
      have g1 := (bx.cell (p := ⟨w.heap.size, 1, none⟩) (World.block_lt_of_cell? _ _ t1)).trans t1
      have HB5 := Lib.hid (HB.out.trans (bx.mono HB.out.size))
      have HW5 := Lib.hid (HW.out.trans (bx.mono HW.out.size))
      generalize rouL p.n ⟨st, fb⟩ nd fb.length = RL at *
      generalize digs f ++ [43] ++ digs c = BL at *
      generalize digs i = di at *
      have HX2 := Lib.hid (show (X ++ (mk [108, 105, 103, 104, 116, 32] ++ mk di ++ mk [32] ++ mk RL ++ mk [32] ++ mk BL ++ mk [10])).data.toList = plnL p (k + 1) from by
        rw [hst2]
        simp [data_append, HX.out])
      have z0 : ¬ 9223372036854775807 < 6 + di.length := by omega
      have z1 : ¬ 9223372036854775807 < 6 + di.length + 1 := by omega
      have z2 : ¬ 9223372036854775807 < 6 + di.length + 1 + RL.length := by omega
      have z3 : ¬ 9223372036854775807 < 6 + di.length + 1 + RL.length + 1 := by omega
      have z4 : ¬ 9223372036854775807 < 6 + di.length + 1 + RL.length + 1 + BL.length := by omega
      have z5 : ¬ 9223372036854775807 < 6 + di.length + 1 + RL.length + 1 + BL.length + 1 := by omega
      have z6 : ¬ 9223372036854775807 < X.size + (6 + di.length + 1 + RL.length + 1 + BL.length + 1) := by omega
      clear hst hst2 hlg hx hll hxs hd1 hd2 hd3 hbl hrl hfl hnd hru hcs e0 e1 e2 e3 e4 bx bc t0 t1 t2
      go_wp2
      clear f0 f1 f2 f3 f4
      generalize wr.alloc (.cells #[.int .i64 (i : Int), .int .i64 st, .slice aU nU cU, .int .i64 (f : Int), .int .i64 (c : Int)] 98) = w5 at *
      have j0 := rg g0
      have j1 := rg g1
      have k0 := rg s0
      have k1 := rg s1
      have k2 := rg s2
      have k3 := rg s3
      have k4 := rg s4
      clear g0 g1 s0 s1 s2 s3 s4
      refine wp_region_quiet_below (by kernel_rfl) (by kernel_rfl) ?_
      repeat (go_big_quiet_step (first | (go_at_call 75; exact Calls.regrown_of (HN.out _ (HW5.out.trans ((below_regrown _ _ _).mono HW5.out.size)))) | (go_at_call 77; exact Calls.regrown_of (HK.out _)) | (go_at_call 76; exact Calls.regrown_of (HR.out _ (HW5.out.trans ((below_regrown _ _ _).mono HW5.out.size))))))
      refine wpQuiet_nil ?_
      rintro _ ⟨⟨dq, osq⟩, rfl⟩
      have b6 := below_regrown w5 dq osq
      have HB6 := Lib.hid (HB5.out.trans (b6.mono HB5.out.size))
      generalize grow (redrawn w5 dq) osq = w6 at *
      clear j0 j1 k0 k1 k2 k3 k4 b6 z0 z1 z2 z3 z4 z5 z6
      go_wp2
      go_roundw
      case rel => exact ⟨k + 1, _, hlt, by go_num, rfl, HX2.out, HB6.out⟩
      case measure => simp [intOf]; omega
    · obtain rfl : m3 = k := by omega
      go_wp2
      go_ret2
      exact ⟨by rw [show X = mk (plnL p m3) from ba_ext (by rw [data_mk]; exact HX.out)]; rfl, HB3.out.trans (HB.out.mono HB3.out.size)⟩
end Go.Proofs.YtonpcgdnfclidaaGreatDoor
namespace Go.Proofs.YtonpcgdnfclidaaGreatDoor
open Go.RowKit Go.Sort
set_option maxRecDepth 100000

/-- The text of a console. -/
def fcoS (c : Con) : ByteArray := if conOk c then mk (plnL c.p c.p.ls.length) else mk []
theorem fcoS_no {c : Con} (h : conOk c = false) : fcoS c = mk [] := by unfold fcoS; rw [h]; rfl
theorem fcoS_yes {c : Con} (h : conOk c = true) : fcoS c = mk (plnL c.p c.p.ls.length) := by unfold fcoS; rw [h]; rfl
theorem conOk_pln {c : Con} (h : conOk c = true) : plnOk c.p = true := by
  unfold conOk at h
  simp only [Bool.and_eq_true] at h
  exact h.1
set_option maxHeartbeats 1600000 in
theorem implFco_any (v : Value) (c : Con) (w : World) (h : ConR w v c) (hfb : ∀ i : Nat, (lgA c.p i).fb.length ≤ 1100000) (hs : c.d.size + c.e.size ≤ 1048576) (ht : TabOk w) (hm : MaxOk w) :
    Calls Tryz.prog 24 #[v] w fun e w' => e = .returned (.tuple #[.string (fcoS c), .bool (conOk c)]) ∧ Below w.heap.size w w' := by
  obtain ⟨a1, n1, c1, a2, n2, c2, a3, n3, c3, a4, n4, c4, rfl, hp, hf⟩ := h.form
  have HV := Lib.hid (fun w' (hb : Below w.heap.size w w') => implCon_any _ c w' (h.behind hb) hfb hs (ht.below hb) (hm.below hb))
  have HT := Lib.hid (fun w' (hb : Below w.heap.size w w') (hok : plnOk c.p = true) => FormatPlan_any _ c.p w' (hp.behind hb) hok hfb (ht.below hb))
  have HPO := Lib.hid (@conOk_pln c)
  have HFN := Lib.hid (@fcoS_no c)
  have HFY := Lib.hid (@fcoS_yes c)
  obtain ⟨p, fm, d, e, n⟩ := c
  dsimp only at HV HT HPO HFN HFY
  obtain ⟨bx, bc, blt, -⟩ := box_facts w #[.slice a1 n1 c1, .slice a2 n2 c2, .slice a3 n3 c3, .slice a4 n4 c4, .string d, .string e, .int .i64 n] 45
  have q0 := bc 0 _ rfl
  have q1 := bc 1 _ rfl
  have q2 := bc 2 _ rfl
  have HB := Lib.hid bx
  clear h bx bc hp hf hfb hs ht hm
  generalize fcoS ⟨p, fm, d, e, n⟩ = S at *
  generalize conOk ⟨p, fm, d, e, n⟩ = x at *
  generalize plnL p p.ls.length = L at *
  go_enter Tryz.func24, Tryz.ntmps24
  go_wp2_with fail
  generalize w.alloc (.cells #[.slice a1 n1 c1, .slice a2 n2 c2, .slice a3 n3 c3, .slice a4 n4 c4, .string d, .string e, .int .i64 n] 45) = w1 at *
  refine (HV.out _ HB.out).mono ?_
  rintro e1 w2 ⟨rfl, b2⟩
  have p0 := (b2.cell (p := ⟨w.heap.size, 0, none⟩) blt).trans q0
  have p1 := (b2.cell (p := ⟨w.heap.size, 1, none⟩) blt).trans q1
  have p2 := (b2.cell (p := ⟨w.heap.size, 2, none⟩) blt).trans q2
  have HB2 := Lib.hid (HB.out.trans (b2.mono HB.out.size))
  clear b2 q0 q1 q2
  cases x
  · have HS := Lib.hid (HFN.out rfl)
    go_wp2
    go_ret2
    exact ⟨by rw [HS.out]; rfl, HB2.out⟩
  have HS := Lib.hid (HFY.out rfl)
  go_wp2_with fail
  refine (HT.out _ HB2.out (HPO.out (by trivial))).mono ?_
  rintro e1 w3 ⟨rfl, b3⟩
  have HB3 := Lib.hid (HB2.out.trans (b3.mono HB2.out.size))
  clear b3 p0 p1 p2
  go_wp2
  go_ret2
  exact ⟨by rw [HS.out]; rfl, HB3.out⟩
set_option maxHeartbeats 1600000 in
theorem specFco_any (v : Value) (c : Con) (w : World) (h : ConR w v c) (hfb : ∀ i : Nat, (lgA c.p i).fb.length ≤ 1100000) (hs : c.d.size + c.e.size ≤ 1048576) :
    Calls Tryz.prog 23 #[v] w fun e w' => e = .returned (.tuple #[.string (fcoS c), .bool (conOk c)]) ∧ Below w.heap.size w w' := by
  obtain ⟨a1, n1, c1, a2, n2, c2, a3, n3, c3, a4, n4, c4, rfl, hp, hf⟩ := h.form
  have HV := Lib.hid (fun w' (hb : Below w.heap.size w w') => l28Good_any _ c w' (h.behind hb) hfb hs)
  have HT := Lib.hid (fun w' (hb : Below w.heap.size w w') (hok : plnOk c.p = true) => l3Plan_any _ c.p w' (hp.behind hb) hok hfb)
  have HPO := Lib.hid (@conOk_pln c)
  have HFN := Lib.hid (@fcoS_no c)
  have HFY := Lib.hid (@fcoS_yes c)
  obtain ⟨p, fm, d, e, n⟩ := c
  dsimp only at HV HT HPO HFN HFY
  obtain ⟨bx, bc, blt, -⟩ := box_facts w #[.slice a1 n1 c1, .slice a2 n2 c2, .slice a3 n3 c3, .slice a4 n4 c4, .string d, .string e, .int .i64 n] 45
  have q0 := bc 0 _ rfl
  have q1 := bc 1 _ rfl
  have q2 := bc 2 _ rfl
  have HB := Lib.hid bx
  clear h bx bc hp hf hfb hs
  generalize fcoS ⟨p, fm, d, e, n⟩ = S at *
  generalize conOk ⟨p, fm, d, e, n⟩ = x at *
  generalize plnL p p.ls.length = L at *
  go_enter Tryz.func23, Tryz.ntmps23
  go_wp2_with fail
  generalize w.alloc (.cells #[.slice a1 n1 c1, .slice a2 n2 c2, .slice a3 n3 c3, .slice a4 n4 c4, .string d, .string e, .int .i64 n] 45) = w1 at *
  refine (HV.out _ HB.out).mono ?_
  rintro e1 w2 ⟨rfl, b2⟩
  have p0 := (b2.cell (p := ⟨w.heap.size, 0, none⟩) blt).trans q0
  have p1 := (b2.cell (p := ⟨w.heap.size, 1, none⟩) blt).trans q1
  have p2 := (b2.cell (p := ⟨w.heap.size, 2, none⟩) blt).trans q2
  have HB2 := Lib.hid (HB.out.trans (b2.mono HB.out.size))
  clear b2 q0 q1 q2
  cases x
  · have HS := Lib.hid (HFN.out rfl)
    go_wp2
    go_ret2
    exact ⟨by rw [HS.out]; rfl, HB2.out⟩
  have HS := Lib.hid (HFY.out rfl)
  go_wp2_with fail
  refine (HT.out _ HB2.out (HPO.out (by trivial))).mono ?_
  rintro e1 w3 ⟨rfl, b3⟩
  have HB3 := Lib.hid (HB2.out.trans (b3.mono HB2.out.size))
  clear b3 p0 p1 p2
  go_wp2
  go_ret2
  exact ⟨by rw [HS.out]; rfl, HB3.out⟩
end Go.Proofs.YtonpcgdnfclidaaGreatDoor
