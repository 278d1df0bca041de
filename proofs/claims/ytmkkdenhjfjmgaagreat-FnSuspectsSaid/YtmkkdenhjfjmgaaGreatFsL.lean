/- FnSuspects: the walk of the law. -/
import Derived.Test.YtmkkdenhjfjmgaaGreatBf21
import Derived.Test.YtmkkdenhjfjmgaaGreatBf22
import Derived.Test.YtmkkdenhjfjmgaaGreatBf11
namespace Go.Proofs.YtmkkdenhjfjmgaaGreat
open Go.RowKit Go.Sort
set_option maxRecDepth 100000

theorem slcI_mid (b off m c i : Nat) (hi : i < m) (hm : m ≤ c) (hc : c ≤ 9223372036854775807) (w : World) :
    (Instr.sliceAt 29 (.slice (some ⟨b, off, none⟩) m c) (some (.int .i64 (i : Int))) (some (.int .i64 ((i : Int) + 1))) none).run Tryz.prog w = .ok (.slice (some ⟨b, off + i, none⟩) 1 (c - i)) w := by
  have h1 : (0 : Int) ≤ (i : Int) := by omega
  have h2 : (i : Int) ≤ (i : Int) + 1 := by omega
  have h3 : (0 : Int) ≤ (i : Int) + 1 := by omega
  have h4 : (i : Int) + 1 ≤ (c : Int) := by omega
  have h5 : ¬ c = i := by omega
  have h6 : ((i : Int) + 1).toNat = i + 1 := by omega
  have h7 : i + 1 - i = 1 := by omega
  go_simp
/-- A plan in a law's variable. -/
structure Mm (w W : World) (bP : Nat) (u1 u2 u3 : Value) (p : Pln) : Prop where
  bel : Below w.heap.size w W
  box : W.heap[bP]? = some (.cells #[u1, u2, u3] 38 (0, 0))
  pr : PlnR W (.agg #[u1, u2, u3]) p
  fb : ∀ i : Nat, (lgA p i).fb.length ≤ 1100000
theorem Mm.below {w W W' : World} {bP : Nat} {u1 u2 u3 : Value} {p : Pln} (h : Mm w W bP u1 u2 u3 p) (hb : Below W.heap.size W W') : Mm w W' bP u1 u2 u3 p :=
  ⟨h.bel.trans (hb.mono h.bel.size), kept_o' h.box hb, h.pr.behind hb, h.fb⟩
theorem Mm.mk' {w w1 : World} {u1 u2 u3 : Value} {n : Net} {ps : List (Lgt × Value)} {b : Nat} (hd : PlD w1 b u1 u2 u3 n ps) (hb : Below w.heap.size w w1) : Mm w (w1.alloc (.cells #[u1, u2, u3] 38)) w1.heap.size u1 u2 u3 ⟨n, ps.map Prod.fst⟩ :=
  ⟨hb.alloc hb.size _, heap_alloc_new _ _, (hd.below ((Below.refl _ _).alloc (Nat.le_refl _) _)).rd, fun i => Nat.le_trans (hd.fbs i) (by omega)⟩
theorem drewN_bel {w : World} {m : Nat} : Below w.heap.size w (w.drewN m) := ⟨rfl, rfl, rfl, Nat.le_refl _, fun _ _ => rfl⟩
def LawP (w : World) (e : Ending) (w' : World) : Prop := e = .returned (.bool true) ∧ Below w.heap.size w w'
set_option maxHeartbeats 6400000 in
theorem FnSuspects_walk (a0 : Option Addr) (len0 cap0 : Nat) (z0 : List Int) (w : World) (hr : RawB w a0 len0 cap0 z0) :
    Calls Tryz.prog 7 #[.slice a0 len0 cap0] w fun e w' => e = .returned (.bool true) ∧ Below w.heap.size w w' := by
  show Calls Tryz.prog 7 #[.slice a0 len0 cap0] w (LawP w)
  by_cases hbig : (65536 : Int) < (len0 : Int)
  · have hd : decide ((65536 : Int) < (len0 : Int)) = true := by simpa using hbig
    go_enter Tryz.func7, Tryz.ntmps7
    go_wp2_with fail
    refine (vBig_any _ _ _ _).mono ?_
    rintro e w' ⟨rfl, rfl⟩
    go_wp2
    go_ret
    exact ⟨rfl, Below.refl _ _⟩
  have hd : decide ((65536 : Int) < (len0 : Int)) = false := by simpa using hbig
  have hrd := hr.rd (by omega)
  have HRL := Lib.hid (fun (w' : World) (hb : Below w.heap.size w w') => RdB.behind hrd hb)
  obtain ⟨NP, hNP⟩ : ∃ NP, NP = LawP w := ⟨_, rfl⟩
  rw [← hNP]
  have HRD := Lib.hid hrd
  clear hr hrd
  go_enter Tryz.func7, Tryz.ntmps7
  go_wp2_with fail
  refine (vBig_any _ _ _ _).mono ?_
  rintro e w' ⟨rfl, rfl⟩
  go_wp2_with fail
  refine (drawSG_any a0 len0 cap0 w HRD.out).mono ?_
  rintro e w1 ⟨u1, u2, u3, v, n, ps, xs, rfl, hdd, ho, hxl, hb1⟩
  obtain ⟨⟨a1, c1, rfl⟩, ⟨a2, c2, rfl⟩⟩ := hdd.n.slices
  obtain ⟨a3, c3, rfl⟩ := row_form0 hdd.l.row
  obtain ⟨av, cv, nv, -, rfl, -, -, -⟩ := ho.rd.opn
  have M2 := Lib.hid (Mm.mk' hdd hb1)
  have R2 := Lib.hid (ho.rd.belowAll ((Below.refl w1.heap.size w1).alloc (Nat.le_refl _) (.cells #[.slice a1 n.ns.length c1, .slice a2 n.fs.length c2, .slice a3 ps.length c3] 38)))
  clear hdd ho hb1
  go_upto_region 4 with fail
  generalize w1.alloc (.cells #[.slice a1 n.ns.length c1, .slice a2 n.fs.length c2, .slice a3 ps.length c3] 38) = w2 at *
  generalize w1.heap.size = bP at *
  generalize hp : (⟨n, ps.map Prod.fst⟩ : Pln) = p at *
  clear hp
  have ay0 := blkc M2.out.box (show _ = some (Value.slice a1 n.ns.length c1) from rfl) (j := 0)
  have ay1 := blkc M2.out.box (show _ = some (Value.slice a2 n.fs.length c2) from rfl) (j := 1)
  have ay2 := blkc M2.out.box (show _ = some (Value.slice a3 ps.length c3) from rfl) (j := 2)
  go_wp2_with fail
  refine (implSus_any _ _ p xs w2 M2.out.pr R2.out M2.out.fb).mono ?_
  rintro e w3 ⟨v3, rfl, o3, b3⟩
  have M3 := Lib.hid (M2.out.below b3)
  have R3 := Lib.hid (R2.out.belowAll b3)
  have L3 := Lib.hid o3.own.rd
  clear M2 R2 b3 o3 ay0 ay1 ay2
  have ay0 := blkc M3.out.box (show _ = some (Value.slice a1 n.ns.length c1) from rfl) (j := 0)
  have ay1 := blkc M3.out.box (show _ = some (Value.slice a2 n.fs.length c2) from rfl) (j := 1)
  have ay2 := blkc M3.out.box (show _ = some (Value.slice a3 ps.length c3) from rfl) (j := 2)
  obtain ⟨al, cl, nl, HNL, hvl, hcl, hnl, hal⟩ := L3.out.opn
  subst hvl
  have hll : nl ≤ 1000 := by have := HNL.out; have := sgR_len p xs; omega
  clear hal
  go_wp2_with fail
  refine (specSus_any _ _ p xs w3 M3.out.pr R3.out M3.out.fb).mono ?_
  rintro e w4 ⟨v4, rfl, o4, b4⟩
  have M4 := Lib.hid (M3.out.below b4)
  have R4 := Lib.hid (R3.out.belowAll b4)
  have L4 := Lib.hid (L3.out.belowAll b4)
  have Q4 := Lib.hid o4.own.rd
  clear M3 R3 L3 b4 o4 ay0 ay1 ay2
  obtain ⟨aq, cq, nq, -, rfl, -, -, -⟩ := Q4.out.opn
  generalize dwOk p xs = ok at *
  have hne : (ok != ok) = false := by simp
  go_wp2_with fail
  refine (vInts_any _ _ (sgR p xs) (sgR p xs) w4 L4.out Q4.out).mono ?_
  rintro e w5 ⟨he, m5, rfl⟩
  rw [eqL_refl] at he
  subst he
  have M5 := Lib.hid (M4.out.below (drewN_bel (m := m5)))
  have R5 := Lib.hid (R4.out.belowAll (drewN_bel (m := m5)))
  have L5 := Lib.hid (L4.out.belowAll (drewN_bel (m := m5)))
  clear M4 R4 L4 Q4
  generalize w4.drewN m5 = w6 at *
  have HG := Lib.hid (fun i hi => @sgR_get p xs i hi)
  generalize hL : sgR p xs = L at *
  clear hL
  go_upto_region 9 with fail
  go_loopw [9] (fun s9 wr => ∃ i : Nat, i ≤ nl ∧ s9 = .int .i64 i ∧ Hid (Mm w wr bP (.slice a1 n.ns.length c1) (.slice a2 n.fs.length c2) (.slice a3 ps.length c3) p) ∧ Hid (Rd wr (.slice al nl cl) L) ∧ Hid (Rd wr (.slice av nv cv) xs)) (fun s9 _ => nl - (intOf s9).toNat)
  case atStart => exact ⟨0, Nat.zero_le _, rfl, M5.out, L5.out, R5.out⟩
  case round =>
    clear M5 L5 R5
    obtain ⟨i, hi, rfl, M5, L5, R5⟩ := hrel
    by_cases hlt : i < nl
    · have hltI : (i : Int) < (nl : Int) := by omega
      have hwi : IntKind.i64.wrap ((i : Int) + 1) = (i : Int) + 1 := IntWalk.i64_in _ (by omega)
      have hiL : i < L.length := by rw [HNL.out]; exact hlt
      have HGI := Lib.hid (HG.out i hiL)
      obtain ⟨bl, ol, cl', e', hcl', hcm, hbl, hcc⟩ := (L5.out).resolve_left (fun h => by rw [h.2] at hiL; simp at hiL)
      rw [HNL.out] at e' hcl' hcc
      simp only [Value.slice.injEq, true_and] at e'
      obtain ⟨rfl, rfl⟩ := e'
      unfold maxLen at hcm
      have hSL := Lib.hid (slcI_mid bl ol nl cl i hlt hcl' (by omega))
      have hci := hcc i hlt
      have RS := Lib.hid (show ∀ W, Below wr.heap.size wr W → Rd W (.slice (some ⟨bl, ol + i, none⟩) 1 (cl - i)) [L[i]?.getD 0] from fun W hb => by
        refine .inr ⟨bl, ol + i, cl - i, rfl, by simp; omega, by unfold maxLen; omega, Nat.lt_of_lt_of_le hbl hb.size, fun j hj => ?_⟩
        obtain rfl : j = 0 := by simpa using hj
        rw [Nat.add_zero, hb.cell hbl]
        exact hci)
      clear hcc hci
      generalize L[i]?.getD 0 = gg at *
      have MD := Lib.hid (M5.out.below (Below.refl _ _).drew)
      go_wp2_with fail
      refine wp_region_L [0, 1, 2, 3, 4, 5, 6, 7, 8, 9, 10, 11] (S := fun W => W.cell? ⟨bP, 0, none⟩ = some (.slice a1 n.ns.length c1) ∧ W.cell? ⟨bP, 1, none⟩ = some (.slice a2 n.fs.length c2) ∧ W.cell? ⟨bP, 2, none⟩ = some (.slice a3 ps.length c3)) (by kernel_rfl) (⟨blkc MD.out.box rfl, blkc MD.out.box rfl, blkc MD.out.box rfl⟩) (fun hH => ?_)
      refine hlTake 0 (v := ?v1) rfl (by kernel_rfl) (by kernel_rfl) (by kernel_rfl) (by kernel_rfl) (fun _ _ _ h => h) (by rfl) ?hy1 hH ?rest1
      case hy1 => ((intro w hSw); (try dsimp only at hSw); go_simp); try with_reducible rfl
      try simp only [Act.put, List.setIfInBounds_toArray, List.set_cons_zero, List.set_cons_succ]
      refine hlTake 1 (v := ?v2) rfl (by kernel_rfl) (by kernel_rfl) (by kernel_rfl) (by kernel_rfl) (fun _ _ _ h => h) (by rfl) ?hy2 hH ?rest2
      case hy2 => ((intro w hSw); (try dsimp only at hSw); go_simp); try with_reducible rfl
      try simp only [Act.put, List.setIfInBounds_toArray, List.set_cons_zero, List.set_cons_succ]
      refine hlTake 2 (v := ?v3) rfl (by kernel_rfl) (by kernel_rfl) (by kernel_rfl) (by kernel_rfl) (fun _ _ _ h => h) (by rfl) ?hy3 hH ?rest3
      case hy3 => ((intro w hSw); (try dsimp only at hSw); go_simp); try with_reducible rfl
      try simp only [Act.put, List.setIfInBounds_toArray, List.set_cons_zero, List.set_cons_succ]
      refine hlTake 3 (v := ?v4) rfl (by kernel_rfl) (by kernel_rfl) (by kernel_rfl) (by kernel_rfl) (fun _ _ _ h => h) (by rfl) ?hy4 hH ?rest4
      case hy4 => ((intro w hSw); (try dsimp only at hSw); go_simp); try with_reducible rfl
      try simp only [Act.put, List.setIfInBounds_toArray, List.set_cons_zero, List.set_cons_succ]
      refine hlTake 4 (v := ?v5) rfl (by kernel_rfl) (by kernel_rfl) (by kernel_rfl) (by kernel_rfl) (fun _ _ _ h => h) (by rfl) ?hy5 hH ?rest5
      case hy5 => ((intro w hSw); (try dsimp only at hSw); go_simp); try with_reducible rfl
      try simp only [Act.put, List.setIfInBounds_toArray, List.set_cons_zero, List.set_cons_succ]
      refine hlTake 5 (v := .slice (some ⟨bl, ol + i, none⟩) 1 (cl - i)) rfl (by kernel_rfl) (by kernel_rfl) (by kernel_rfl) (by kernel_rfl) (fun _ _ _ h => h) (by rfl) ?hy6 hH ?rest6
      case hy6 => exact fun w' _ => yields_slc rfl (hSL.out w')
      try simp only [Act.put, List.setIfInBounds_toArray, List.set_cons_zero, List.set_cons_succ]
      refine hlReady (rs := [6]) (by kernel_rfl) (by simp) ?_
      refine AllReadyL.cons rfl (fun KK hKK => ?_) AllReadyL.nil
      -- order 6
      go_simp
      go_at_call 24
      refine (implHit_any _ _ p [gg] _ MD.out.pr (RS.out _ (Below.refl _ _).drew) MD.out.fb).mono ?_
      rintro e w7 ⟨v7, rfl, o7, b7⟩
      have B7 := Lib.hid (((Below.refl wr.heap.size wr).drew).trans (b7.mono (Nat.le_refl _)))
      have M7 := Lib.hid (MD.out.below b7)
      have O7 := Lib.hid o7.own.rd
      obtain ⟨ah, ch, nh, HNH, rfl, -, -, hah⟩ := O7.out.opn
      have HAH := Lib.hid hah
      clear hah o7 b7
      have hok := HGI.out.1
      rw [hok]
      refine hKK.out _ _ (⟨blkc M7.out.box rfl, blkc M7.out.box rfl, blkc M7.out.box rfl⟩) (fun hH => ?_)
      clear hKK KK
      try simp only [Act.put, List.setIfInBounds_toArray, List.set_cons_zero, List.set_cons_succ]
      refine hlTake 7 (v := ?v7) rfl (by kernel_rfl) (by kernel_rfl) (by kernel_rfl) (by kernel_rfl) (fun _ _ _ h => h) (by rfl) ?hy7 hH ?rest7
      case hy7 => ((intro w hSw); (try dsimp only at hSw); go_simp); try with_reducible rfl
      try simp only [Act.put, List.setIfInBounds_toArray, List.set_cons_zero, List.set_cons_succ]
      refine hlTake 8 (v := ?v8) rfl (by kernel_rfl) (by kernel_rfl) (by kernel_rfl) (by kernel_rfl) (fun _ _ _ h => h) (by rfl) ?hy8 hH ?rest8
      case hy8 => ((intro w hSw); (try dsimp only at hSw); go_simp); try with_reducible rfl
      try simp only [Act.put, List.setIfInBounds_toArray, List.set_cons_zero, List.set_cons_succ]
      refine hlTake 9 (v := ?v9) rfl (by kernel_rfl) (by kernel_rfl) (by kernel_rfl) (by kernel_rfl) (fun _ _ _ h => h) (by rfl) ?hy9 hH ?rest9
      case hy9 => ((intro w hSw); (try dsimp only at hSw); go_simp); try with_reducible rfl
      try simp only [Act.put, List.setIfInBounds_toArray, List.set_cons_zero, List.set_cons_succ]
      refine hlTake 10 (v := ?v10) rfl (by kernel_rfl) (by kernel_rfl) (by kernel_rfl) (by kernel_rfl) (fun _ _ _ h => h) (by rfl) ?hy10 hH ?rest10
      case hy10 => ((intro w hSw); (try dsimp only at hSw); go_simp); try with_reducible rfl
      try simp only [Act.put, List.setIfInBounds_toArray, List.set_cons_zero, List.set_cons_succ]
      refine hlStep 11 rfl (by kernel_rfl) (by kernel_rfl) (fun KK hKK => ?_)
      go_simp
      refine hKK.out _ _ ?_
      clear hKK KK
      try simp only [Act.put, List.setIfInBounds_toArray, List.set_cons_zero, List.set_cons_succ]
      refine hlDone (by kernel_rfl) ?_ _
      rotate_left 1
      have L7 := Lib.hid (L5.out.belowAll B7.out)
      have R7 := Lib.hid (R5.out.belowAll B7.out)
      have hhe : htR p [gg] = hts p [gg] := htR_yes HGI.out.1
      rw [hhe] at O7 HNH HAH
      have hnh := HGI.out.2.1
      rw [HNH.out] at hnh
      have hnhI : ¬ (nh : Int) = 0 := by omega
      have hnb : ((nh : Int) == 0) = false := by rw [beq_eq_false_iff_ne]; exact hnhI
      have hnd : decide ((nh : Int) = 0) = false := decide_eq_false hnhI
      have hnh30 : nh ≤ 1000 := by have := HNH.out; have := hitTo_len p [gg] p.ls.length; have := htR_len (p := p) (gs := [gg]); rw [hhe] at this; omega
      have HALL := Lib.hid HGI.out.2.2
      clear M5 L5 R5 MD RS hSL hok hhe B7 hH HGI
      generalize hts p [gg] = hh at *
      go_upto_region 15 with fail
      obtain ⟨wo, hwo⟩ : ∃ wo, wo = w7 := ⟨_, rfl⟩
      go_loop [12] (fun s12 => ∃ k : Nat, k ≤ nh ∧ s12 = .int .i64 k) (fun s12 => nh - (intOf s12).toNat)
      case atStart => exact ⟨0, Nat.zero_le _, rfl⟩
      case round =>
        obtain ⟨k, hk, rfl⟩ := hrel
        by_cases hlk : k < nh
        · have hlkI : (k : Int) < (nh : Int) := by omega
          have hwk : IntKind.i64.wrap ((k : Int) + 1) = (k : Int) + 1 := IntWalk.i64_in _ (by omega)
          obtain ⟨bh, oh, rfl, hbh, hch⟩ := HAH.out (by omega)
          have hck := hch k hlk
          have hmem : xs.contains (hh[k]?.getD 0) = true := HALL.out _ (by rw [List.getElem?_eq_getElem (by rw [HNH.out]; exact hlk)]; exact List.getElem_mem _)
          have HM := Lib.hid hmem
          clear hch hmem
          generalize hh[k]?.getD 0 = y at *
          go_wp2_with fail
          refine (vHas_any _ xs y _ R7.out).mono ?_
          rintro e w8 ⟨rfl, rfl⟩
          rw [HM.out]
          go_wp2_with fail
          go_round
          case rel =>
            exact ⟨k + 1, by omega, by go_num⟩
          case measure => simp [intOf]; omega
        · obtain rfl : k = nh := by omega
          go_wp2_with fail
          go_roundw
          case rel => exact ⟨i + 1, by omega, by go_num, M7.out, L7.out, R7.out⟩
          case measure => simp [intOf]; omega
    · obtain rfl : i = nl := by omega
      have hbw := M5.out.bel
      have HRD2 := Lib.hid (HRL.out wr hbw)
      have HBW := Lib.hid hbw
      clear M5 L5 R5 HG HRL HRD hbw
      go_wp2_with fail
      refine (drawDL_any a0 len0 cap0 wr HRD2.out).mono ?_
      rintro e x1 ⟨q1, q2, q3, va, vb, qn, qs, xa, xb, rfl, hdd, ⟨hoa, hxa⟩, ⟨hob, hxb⟩, hb1⟩
      obtain ⟨⟨d1, e1, rfl⟩, ⟨d2, e2, rfl⟩⟩ := hdd.n.slices
      obtain ⟨d3, e3, rfl⟩ := row_form0 hdd.l.row
      obtain ⟨aa, ca, na, -, rfl, -, -, -⟩ := hoa.rd.opn
      obtain ⟨ab, cb, nb, -, rfl, -, -, -⟩ := hob.rd.opn
      have N2 := Lib.hid (Mm.mk' hdd hb1)
      have hal := (Below.refl x1.heap.size x1).alloc (Nat.le_refl _) (.cells #[.slice d1 qn.ns.length e1, .slice d2 qn.fs.length e2, .slice d3 qs.length e3] 38)
      have A2 := Lib.hid (hoa.rd.belowAll hal)
      have B2 := Lib.hid (hob.rd.belowAll hal)
      clear hdd hoa hob hb1 hal
      go_upto_region 20 with fail
      generalize x1.alloc (.cells #[.slice d1 qn.ns.length e1, .slice d2 qn.fs.length e2, .slice d3 qs.length e3] 38) = x2 at *
      generalize x1.heap.size = bQ at *
      generalize hq : (⟨qn, qs.map Prod.fst⟩ : Pln) = q at *
      clear hq
      have g0 := blkc N2.out.box (show _ = some (Value.slice d1 qn.ns.length e1) from rfl) (j := 0)
      have g1 := blkc N2.out.box (show _ = some (Value.slice d2 qn.fs.length e2) from rfl) (j := 1)
      have g2 := blkc N2.out.box (show _ = some (Value.slice d3 qs.length e3) from rfl) (j := 2)
      go_wp2_with fail
      refine (implDsl_any _ _ _ q xa xb x2 N2.out.pr A2.out B2.out N2.out.fb).mono ?_
      rintro e x3 ⟨rfl, b3⟩
      have N3 := Lib.hid (N2.out.below b3)
      have A3 := Lib.hid (A2.out.belowAll b3)
      have B3 := Lib.hid (B2.out.belowAll b3)
      clear N2 A2 B2 b3 g0 g1 g2
      have g0 := blkc N3.out.box (show _ = some (Value.slice d1 qn.ns.length e1) from rfl) (j := 0)
      have g1 := blkc N3.out.box (show _ = some (Value.slice d2 qn.fs.length e2) from rfl) (j := 1)
      have g2 := blkc N3.out.box (show _ = some (Value.slice d3 qs.length e3) from rfl) (j := 2)
      go_wp2_with fail
      refine (specDsl_any _ _ _ q xa xb x3 N3.out.pr A3.out B3.out N3.out.fb).mono ?_
      rintro e x4 ⟨rfl, b4⟩
      have N4 := Lib.hid (N3.out.below b4)
      have A4 := Lib.hid (A3.out.belowAll b4)
      have B4 := Lib.hid (B3.out.belowAll b4)
      clear N3 A3 B3 b4 g0 g1 g2
      have HZ := Lib.hid (fun h h0 => @dsR_zero q xa xb h h0)
      have HT := Lib.hid (fun h h0 => @dsR_tell q xa xb h h0)
      have HP := Lib.hid (fun h => @dsOk_parts q xa xb h)
      generalize dsR q xa xb = id at *
      generalize hdk : dsOk q xa xb = dk at *
      have hid1 : (id != id) = false := by simp
      have hid2 : (dk != dk) = false := by simp
      have hid3 : (id == id) = true := by simp
      have hid4 : (dk == dk) = true := by simp
      have hbz := HBW.out.trans (N4.out.bel.mono HBW.out.size)
      have HBZ := Lib.hid hbz
      clear hbz
      cases dk
      · go_wp2_with fail
        subst hNP
        exact ⟨rfl, HBZ.out⟩
      · obtain ⟨hga, hgb⟩ := HP.out (by first | rfl | trivial)
        have HGA := Lib.hid (htR_yes hga)
        have HGB := Lib.hid (htR_yes hgb)
        have g0 := blkc N4.out.box (show _ = some (Value.slice d1 qn.ns.length e1) from rfl) (j := 0)
        have g1 := blkc N4.out.box (show _ = some (Value.slice d2 qn.fs.length e2) from rfl) (j := 1)
        have g2 := blkc N4.out.box (show _ = some (Value.slice d3 qs.length e3) from rfl) (j := 2)
        go_wp2_with fail
        refine (implHit_any _ _ q xa x4 N4.out.pr A4.out N4.out.fb).mono ?_
        rintro e x5 ⟨v5, rfl, o5, b5⟩
        rw [hga]
        rw [HGA.out] at o5
        have N5 := Lib.hid (N4.out.below b5)
        have B5 := Lib.hid (B4.out.belowAll b5)
        have O5 := Lib.hid o5.own.rd
        obtain ⟨a5, c5, n5, -, rfl, -, -, -⟩ := O5.out.opn
        clear N4 A4 B4 b5 o5 g0 g1 g2
        have g0 := blkc N5.out.box (show _ = some (Value.slice d1 qn.ns.length e1) from rfl) (j := 0)
        have g1 := blkc N5.out.box (show _ = some (Value.slice d2 qn.fs.length e2) from rfl) (j := 1)
        have g2 := blkc N5.out.box (show _ = some (Value.slice d3 qs.length e3) from rfl) (j := 2)
        go_wp2_with fail
        refine (implHit_any _ _ q xb x5 N5.out.pr B5.out N5.out.fb).mono ?_
        rintro e x6 ⟨v6, rfl, o6, b6⟩
        rw [hgb]
        rw [HGB.out] at o6
        have N6 := Lib.hid (N5.out.below b6)
        have O6 := Lib.hid (O5.out.belowAll b6)
        have Q6 := Lib.hid o6.own.rd
        obtain ⟨a6, c6, n6, -, rfl, -, -, -⟩ := Q6.out.opn
        have hbz := Lib.hid (HBW.out.trans (N6.out.bel.mono HBW.out.size))
        clear N5 B5 b6 o6 O5 g0 g1 g2 HBZ
        by_cases h0 : id = 0
        · have HEQ := Lib.hid (HZ.out (by first | rfl | trivial) h0)
          subst h0
          go_wp2_with fail
          rw [HEQ.out] at O6
          refine (vInts_any _ _ (hts q xb) (hts q xb) x6 O6.out Q6.out).mono ?_
          rintro e x7 ⟨he, m7, rfl⟩
          rw [eqL_refl] at he
          subst he
          go_wp2_with fail
          subst hNP
          exact ⟨rfl, hbz.out.trans ((drewN_bel (m := m7)).mono hbz.out.size)⟩
        · have HTE := Lib.hid (HT.out (by first | rfl | trivial) h0)
          have hva := vHas_any _ (hts q xa) id _ O6.out
          have hvb := vHas_any _ (hts q xb) id _ Q6.out
          have hte := HTE.out
          clear HTE HT HZ HGA HGB O6 Q6
          generalize (hts q xa).contains id = b1 at *
          generalize (hts q xb).contains id = b2 at *
          have HVA := Lib.hid hva
          have HVB := Lib.hid hvb
          clear hva hvb
          go_wp2_with fail
          refine HVA.out.mono ?_
          rintro e w8 ⟨rfl, rfl⟩
          go_wp2_with fail
          refine HVB.out.mono ?_
          rintro e w8 ⟨rfl, rfl⟩
          cases b1 <;> cases b2 <;> simp at hte
          all_goals
            go_wp2_with fail
            subst hNP
            exact ⟨rfl, hbz.out⟩
end Go.Proofs.YtmkkdenhjfjmgaaGreat
