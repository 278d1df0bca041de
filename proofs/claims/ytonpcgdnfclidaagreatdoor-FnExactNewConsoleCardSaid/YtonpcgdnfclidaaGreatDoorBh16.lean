/- Joined: XNcoM XNcoK. -/
import Derived.Test.YtonpcgdnfclidaaGreatDoorBh11
import Derived.Test.YtonpcgdnfclidaaGreatDoorBh14
import Derived.Test.YtonpcgdnfclidaaGreatDoorBh04
import Derived.Lib.QuietBelow
import Derived.Test.YtonpcgdnfclidaaGreatDoorBh13
namespace Go.Proofs.YtonpcgdnfclidaaGreatDoor
open Go.RowKit Go.Sort
set_option maxRecDepth 100000

set_option maxHeartbeats 3200000 in
theorem heldStringS_N (v : Value) (n q : Nat) (w : World) (h : Rdt w (flt 1 strE ((List.range n).map fun i : Nat => mkTx (q + i))) v) (hb : n ≤ 1048576) (hq : 0 < q) (hq2 : q ≤ 1099511627776) :
    Calls Tryz.prog 98 #[v, .int .i64 (q : Int)] w fun e w' => e = .returned (.int .i64 ((q + n : Nat) : Int)) ∧ Below w.heap.size w w' := by
  obtain ⟨a, n2, cap, rfl, HN, _, hnl, ha⟩ := flt_opn (m := 1) (enc := strE) (fun _ => rfl) (by omega) nilS h
  obtain rfl : n = n2 := by have := HN.out; simpa using this
  have HG := Lib.hid (fun k hk => rangeMap_get (fun i : Nat => mkTx (q + i)) nilS n k hk)
  have HA := Lib.hid ha
  clear ha h HN
  go_enter Tryz.func98, Tryz.ntmps98
  go_wp2
  go_loopw [1, 5] (fun x i wr => ∃ k : Nat, k ≤ n ∧ i = .int .i64 k ∧ x = .int .i64 ((q + k : Nat) : Int) ∧ Hid (Below w.heap.size w wr)) (fun _ i _ => n - (intOf i).toNat)
  case atStart => exact ⟨0, by omega, rfl, int_eq (by simp), Below.refl _ _⟩
  case round =>
    obtain ⟨k, hk, rfl, rfl, HB⟩ := hrel
    by_cases hlt : k < n
    · have hltI : (k : Int) < (n : Int) := by omega
      obtain ⟨b, off, rfl, hbs, hcs⟩ := HA.out (by omega)
      have hc := hcs k hlt 0 (.string (mkTx (q + k))) (by rw [HG.out k hlt]; rfl)
      have e0 := (HB.out.cell (p := ⟨b, off + k * 1 + 0, none⟩) hbs).trans hc
      simp only [Nat.add_zero, Nat.mul_one] at e0
      obtain ⟨p, hp⟩ : ∃ p : Nat, p = q + k := ⟨_, rfl⟩
      rw [← hp] at e0 ⊢
      have HMT := Lib.hid (fun w => markText_any p (by omega) (by omega) w)
      have hp2 : (p : Int) ≤ 1125899940397056 := by omega
      have HP := Lib.hid hp
      generalize mkTx p = tx at *
      have hne : (tx.toList != tx.toList) = false := by simp
      have hnf : (tx.toList == tx.toList) = true := by simp
      clear hp hc hcs
      go_wp2
      have j0 := rg e0
      clear e0
      refine wp_region_quiet_below (by kernel_rfl) (by kernel_rfl) ?_
      repeat (go_big_quiet_step (first | (go_at_call 68; exact Calls.regrown_of (HMT.out _))))
      refine wpQuiet_nil ?_
      rintro _ ⟨⟨dq, osq⟩, rfl⟩
      have HB5 := Lib.hid (HB.out.trans ((below_regrown wr dq osq).mono HB.out.size))
      generalize grow (redrawn wr dq) osq = w5 at *
      clear j0 hne hnf
      go_wp2
      go_roundw
      case rel => exact ⟨k + 1, hlt, by go_num, int_eq (by rw [HP.out]; omega), HB5.out⟩
      case measure => simp [intOf]; omega
    · obtain rfl : k = n := by omega
      go_wp2
      go_ret
      exact ⟨rfl, HB.out⟩
theorem heldFiberS_N (v : Value) (n q : Nat) (w : World) (h : Rdt w (flt 4 fibE ((List.range n).map fun i : Nat => mkFib ((q : Int) + 4 * (i : Int)))) v) (hb : n ≤ 1048576) (hq2 : q ≤ 1099511627776) :
    Calls Tryz.prog 99 #[v, .int .i64 (q : Int)] w fun e w' => e = .returned (.int .i64 ((q + 4 * n : Nat) : Int)) ∧ Below w.heap.size w w' := by
  refine (heldFiberS_yes v n q w h (by omega) (by omega) (by omega)).mono ?_
  rintro e w' ⟨rfl, hb⟩
  exact ⟨ret_int (by omega), hb⟩
theorem heldLightS_0 (a : Option Addr) (c : Nat) (q : Int) (w : World) : Calls Tryz.prog 71 #[.slice a 0 c, .int .i64 q] w fun e w' => e = .returned (.int .i64 q) ∧ w = w' := by
  go_enter Tryz.func71, Tryz.ntmps71
  go_wp2
  go_loopw [1, 5] (fun x i wr => x = .int .i64 q ∧ i = .int .i64 0 ∧ wr = w) (fun _ _ _ => 0)
  case atStart => exact ⟨rfl, rfl, rfl⟩
  case round =>
    obtain ⟨rfl, rfl, rfl⟩ := hrel
    go_wp2
    go_ret
    exact ⟨rfl, rfl⟩
set_option maxHeartbeats 1600000 in
theorem heldNetwork_N (v : Value) (n : Net) (fp : List Nat) (q : Nat) (w : World) (h : NetO w (mkNet n q) v fp) (h1 : n.ns.length ≤ 1048576) (h2 : n.fs.length ≤ 1048576) (hq : 0 < q) (hq2 : q ≤ 549755813888) :
    Calls Tryz.prog 70 #[v, .int .i64 (q : Int)] w fun e w' => e = .returned (.int .i64 ((q + mkN n : Nat) : Int)) ∧ Below w.heap.size w w' := by
  obtain ⟨u1, u2, f1, f2, rfl, r1, r2, -⟩ := h
  unfold mkNet at r1 r2
  dsimp only at r1 r2
  obtain ⟨a1, n1, c1, rfl⟩ := Rdt.slice (show Rdt w (.rows _ _) u1 from r1.rd)
  obtain ⟨a2, n2, c2, rfl⟩ := Rdt.slice (show Rdt w (.rows _ _) u2 from r2.rd)
  obtain ⟨bx, bc, blt, -⟩ := box_facts w #[.slice a1 n1 c1, .slice a2 n2 c2] 38
  have q1 := bc 1 (.slice a2 n2 c2) rfl
  have HC1 := Lib.hid (heldStringS_N _ n.ns.length q _ (r1.rd.behind bx) h1 hq (by omega))
  have HC2 := Lib.hid (fun w' (hb : Below w.heap.size w w') => heldFiberS_N _ n.fs.length (q + n.ns.length) w' (r2.rd.behind hb) h2 (by omega))
  have HB := Lib.hid bx
  have HK2 := Lib.hid (show q + mkN n = q + n.ns.length + 4 * n.fs.length from by unfold mkN; omega)
  generalize q + mkN n = R at *
  obtain ⟨Q, hQ⟩ : ∃ Q, Q = q + n.ns.length := ⟨_, rfl⟩
  rw [← hQ] at HC1 HC2 HK2
  have hq0 : ¬ (Q : Int) < 0 := by omega
  have hq1 : decide ((Q : Int) < 0) = false := decide_eq_false hq0
  have hr0 : ¬ (R : Int) < 0 := by omega
  have hr1 : decide ((R : Int) < 0) = false := decide_eq_false hr0
  clear bx bc hQ
  go_enter Tryz.func70, Tryz.ntmps70
  go_wp2_with fail
  generalize w.alloc (.cells #[.slice a1 n1 c1, .slice a2 n2 c2] 38) = w1 at *
  refine HC1.out.mono ?_
  rintro e w2 ⟨rfl, b2⟩
  have p1 := (b2.cell (p := ⟨w.heap.size, 1, none⟩) blt).trans q1
  have HB2 := Lib.hid (HB.out.trans (b2.mono HB.out.size))
  clear b2 q1
  go_wp2_with fail
  refine (HC2.out w2 HB2.out).mono ?_
  rintro e w3 ⟨rfl, b3⟩
  have HB3 := Lib.hid (HB2.out.trans (b3.mono HB2.out.size))
  rw [← HK2.out]
  clear b3 p1
  go_wp2
  go_ret
  exact ⟨rfl, HB3.out⟩
set_option maxHeartbeats 1600000 in
theorem heldPlan_N (v : Value) (n : Net) (fp : List Nat) (q : Nat) (w : World) (h : PlnO w (mkPln ⟨n, []⟩ q) v fp) (h1 : n.ns.length ≤ 1048576) (h2 : n.fs.length ≤ 1048576) (hq : 0 < q) (hq2 : q ≤ 549755813888) :
    Calls Tryz.prog 48 #[v, .int .i64 (q : Int)] w fun e w' => e = .returned (.int .i64 ((q + mkP ⟨n, []⟩ : Nat) : Int)) ∧ Below w.heap.size w w' := by
  obtain ⟨u1, u2, u3, f1, f2, f3, rfl, r1, r2, r3, -⟩ := h
  have hn : NetO w (mkNet n q) (.agg #[u1, u2]) (f1 ++ f2) := ⟨_, _, _, _, rfl, r1, r2, rfl⟩
  obtain ⟨a1, n1, c1, rfl⟩ := Rdt.slice (show Rdt w (.rows _ _) u1 from r1.rd)
  obtain ⟨a2, n2, c2, rfl⟩ := Rdt.slice (show Rdt w (.rows _ _) u2 from r2.rd)
  obtain ⟨a3, n3, c3, rfl, HN3, -, -, -⟩ := lgt_opn r3.rd
  obtain rfl : n3 = 0 := by have := HN3.out; unfold mkPln mkLs at this; simpa using this.symm
  obtain ⟨bx, bc, blt, -⟩ := box_facts w #[.slice a1 n1 c1, .slice a2 n2 c2, .slice a3 0 c3] 41
  have q1 := bc 2 (.slice a3 0 c3) rfl
  have HC1 := Lib.hid (heldNetwork_N _ n (f1 ++ f2) q _ (hn.behind bx) h1 h2 hq hq2)
  have HC2 := Lib.hid (fun w' (_hb : Below w.heap.size w w') => (heldLightS_0 a3 c3 ((q + mkN n : Nat) : Int) w').mono (fun e w'' ⟨he, hw⟩ => (⟨he, hw ▸ Below.refl _ _⟩ : e = Ending.returned (.int .i64 ((q + mkN n : Nat) : Int)) ∧ Below w'.heap.size w' w'')))
  have HB := Lib.hid bx
  have HK2 := Lib.hid (show q + mkP ⟨n, []⟩ = q + mkN n from by unfold mkP mkN totL; simp)
  generalize q + mkP ⟨n, []⟩ = R at *
  obtain ⟨Q, hQ⟩ : ∃ Q, Q = q + mkN n := ⟨_, rfl⟩
  rw [← hQ] at HC1 HC2 HK2
  have hq0 : ¬ (Q : Int) < 0 := by omega
  have hq1 : decide ((Q : Int) < 0) = false := decide_eq_false hq0
  have hr0 : ¬ (R : Int) < 0 := by omega
  have hr1 : decide ((R : Int) < 0) = false := decide_eq_false hr0
  clear bx bc hQ
  go_enter Tryz.func48, Tryz.ntmps48
  go_wp2_with fail
  generalize w.alloc (.cells #[.slice a1 n1 c1, .slice a2 n2 c2, .slice a3 0 c3] 41) = w1 at *
  refine HC1.out.mono ?_
  rintro e w2 ⟨rfl, b2⟩
  have p1 := (b2.cell (p := ⟨w.heap.size, 2, none⟩) blt).trans q1
  have HB2 := Lib.hid (HB.out.trans (b2.mono HB.out.size))
  clear b2 q1
  go_wp2_with fail
  refine (HC2.out w2 HB2.out).mono ?_
  rintro e w3 ⟨rfl, b3⟩
  have HB3 := Lib.hid (HB2.out.trans (b3.mono HB2.out.size))
  rw [← HK2.out]
  clear b3 p1
  go_wp2
  go_ret
  exact ⟨rfl, HB3.out⟩
def mkC (c : Con) : Nat := mkP c.p + 2 * c.fm.length
def mkCon (c : Con) (q : Nat) : Con := ⟨mkPln c.p q, (List.range c.fm.length).map (fun i : Nat => mkFmt (((q + mkP c.p : Nat) : Int) + 2 * (i : Int))), c.d, c.e, c.n⟩
set_option maxHeartbeats 1600000 in
theorem markConsole_any (v : Value) (c : Con) (fp : List Nat) (q : Nat) (w : World) (h : ConO w c v fp) (hn : fp.Nodup) (h1 : c.p.n.ns.length ≤ 1048576) (h2 : c.p.n.fs.length ≤ 1048576) (h3 : 4 * c.p.ls.length + totL c.p.ls ≤ 67108864) (h4 : c.fm.length ≤ 1048576) (hq : 0 < q) (hq2 : q ≤ 274877906944) :
    Calls Tryz.prog 21 #[v, .int .i64 (q : Int)] w fun e w' => e = .returned (.int .i64 ((q + mkC c : Nat) : Int)) ∧ ConO w' (mkCon c q) v fp ∧ Wr w w' fp := by
  obtain ⟨a1, n1, c1, a2, n2, c2, a3, n3, c3, a4, n4, c4, ev⟩ := h.form
  obtain ⟨u1, u2, u3, u4, f1, f2, e, hp, hf, rfl⟩ := h
  subst ev
  simp only [Value.agg.injEq, Array.mk.injEq, List.cons.injEq, and_true] at e
  obtain ⟨rfl, rfl, rfl, rfl, -⟩ := e
  obtain ⟨p, fm, d, e, n⟩ := c
  dsimp only at hp hf h1 h2 h3 h4 ⊢
  obtain ⟨hn1, hn2, hn3⟩ := List.nodup_append.1 hn
  obtain ⟨bx, bc, blt, -⟩ := box_facts w #[.slice a1 n1 c1, .slice a2 n2 c2, .slice a3 n3 c3, .slice a4 n4 c4, .string d, .string e, .int .i64 n] 45
  have q3 := bc 3 (.slice a4 n4 c4) rfl
  have hmp : mkP p = p.n.ns.length + 4 * p.n.fs.length + (4 * p.ls.length + totL p.ls) := rfl
  have HM1 := Lib.hid (markPlan_any _ p f1 q _ (hp.behind bx) hn1 h1 h2 h3 hq (by omega))
  have R4 := Lib.hid (hf.behind bx)
  have HBX := Lib.hid bx
  have HL := Lib.hid hp.lt
  have HD := Lib.hid hn3
  have HM2 := Lib.hid (fun w' (ho : Odt w' (flt 2 fmE fm) (.slice a4 n4 c4) f2) => markFormatS_N (.slice a4 n4 c4) fm f2 (q + mkP p) w' ho hn2 h4 (by omega) (by omega))
  have HE := Lib.hid (show q + mkC ⟨p, fm, d, e, n⟩ = q + mkP p + 2 * fm.length by unfold mkC; dsimp only; omega)
  have HMK := Lib.hid (show mkCon ⟨p, fm, d, e, n⟩ q = ⟨mkPln p q, (List.range fm.length).map (fun i : Nat => mkFmt (((q + mkP p : Nat) : Int) + 2 * (i : Int))), d, e, n⟩ from rfl)
  generalize q + mkC ⟨p, fm, d, e, n⟩ = R at *
  generalize mkCon ⟨p, fm, d, e, n⟩ q = C' at *
  generalize mkPln p q = P' at *
  generalize q + mkP p = Q at *
  generalize (List.range fm.length).map (fun i : Nat => mkFmt ((Q : Int) + 2 * (i : Int))) = F' at *
  clear bx bc hp hf hn hn3 hmp
  go_enter Tryz.func21, Tryz.ntmps21
  go_wp2_with fail
  generalize w.alloc (.cells #[.slice a1 n1 c1, .slice a2 n2 c2, .slice a3 n3 c3, .slice a4 n4 c4, .string d, .string e, .int .i64 n] 45) = w1 at *
  refine HM1.out.mono ?_
  rintro e1 w2 ⟨rfl, o1, wr1⟩
  have e3 : w2.cell? ⟨w.heap.size, 3, none⟩ = some (.slice a4 n4 c4) := by
    unfold World.cell? at q3 ⊢
    rw [wr1.block _ blt (fun hk => Nat.lt_irrefl _ (HL.out _ hk))]
    exact q3
  have HM3 := Lib.hid (HM2.out w2 (R4.out.apart wr1 (fun k hk hk2 => HD.out k hk2 k hk rfl)))
  have O1 := Lib.hid o1
  have W1 := Lib.hid wr1
  clear o1 wr1 q3 HM1
  go_wp2_with fail
  refine HM3.out.mono ?_
  rintro e1 w3 ⟨rfl, o2, wr2⟩
  have O1 := Lib.hid (O1.out.apart wr2 (fun k hk hk2 => HD.out k hk k hk2 rfl))
  have HW := Lib.hid (((Wr.of_below HBX.out : Wr w w1 (f1 ++ f2)).trans (W1.out.mono (fun k hk => List.mem_append_left _ hk))).trans (wr2.mono (fun k hk => List.mem_append_right _ hk)))
  have O2 := Lib.hid o2
  clear o2 wr2 e3
  go_wp2
  go_ret
  exact ⟨by rw [HE.out]; rfl, by rw [HMK.out]; exact ⟨_, _, _, _, f1, f2, rfl, O1.out, O2.out, rfl⟩, HW.out⟩
set_option maxHeartbeats 1600000 in
theorem heldConsole_N (v : Value) (n : Net) (fs : List Fmt) (d0 e0 : ByteArray) (m : Int) (fp : List Nat) (q : Nat) (w : World) (h : ConO w (mkCon ⟨⟨n, []⟩, fs, d0, e0, m⟩ q) v fp) (h1 : n.ns.length ≤ 1048576) (h2 : n.fs.length ≤ 1048576) (h4 : fs.length ≤ 1048576) (hq : 0 < q) (hq2 : q ≤ 274877906944) :
    Calls Tryz.prog 22 #[v, .int .i64 (q : Int)] w fun e w' => e = .returned (.int .i64 ((q + mkC ⟨⟨n, []⟩, fs, d0, e0, m⟩ : Nat) : Int)) ∧ Below w.heap.size w w' := by
  obtain ⟨a1, n1, c1, a2, n2, c2, a3, n3, c3, a4, n4, c4, ev⟩ := h.form
  obtain ⟨u1, u2, u3, u4, f1, f2, e2, hp, hf, -⟩ := h
  subst ev
  unfold mkCon at e2 hp hf
  dsimp only at e2 hp hf
  simp only [mkCon, Value.agg.injEq, Array.mk.injEq, List.cons.injEq, and_true] at e2
  obtain ⟨rfl, rfl, rfl, rfl⟩ := e2
  show Calls Tryz.prog 22 #[.agg #[.slice a1 n1 c1, .slice a2 n2 c2, .slice a3 n3 c3, .slice a4 n4 c4, .string d0, .string e0, .int .i64 m], .int .i64 (q : Int)] w _
  have hmp : mkP ⟨n, []⟩ = n.ns.length + 4 * n.fs.length := by unfold mkP mkN totL; simp
  obtain ⟨bx, bc, blt, -⟩ := box_facts w #[.slice a1 n1 c1, .slice a2 n2 c2, .slice a3 n3 c3, .slice a4 n4 c4, .string d0, .string e0, .int .i64 m] 45
  have q1 := bc 3 (.slice a4 n4 c4) rfl
  have HC1 := Lib.hid (heldPlan_N _ n f1 q _ (hp.behind bx) h1 h2 hq (by omega))
  have HC2 := Lib.hid (fun w' (hb : Below w.heap.size w w') => heldFormatS_N _ fs.length (q + mkP ⟨n, []⟩) w' (hf.rd.behind hb) h4 (by omega) (by omega))
  have HB := Lib.hid bx
  have HK2 := Lib.hid (show q + mkC ⟨⟨n, []⟩, fs, d0, e0, m⟩ = q + mkP ⟨n, []⟩ + 2 * fs.length from by unfold mkC; dsimp only; omega)
  generalize q + mkC ⟨⟨n, []⟩, fs, d0, e0, m⟩ = R at *
  obtain ⟨Q, hQ⟩ : ∃ Q, Q = q + mkP ⟨n, []⟩ := ⟨_, rfl⟩
  rw [← hQ] at HC1 HC2 HK2
  have hq0 : ¬ (Q : Int) < 0 := by omega
  have hq1 : decide ((Q : Int) < 0) = false := decide_eq_false hq0
  have hr0 : ¬ (R : Int) < 0 := by omega
  have hr1 : decide ((R : Int) < 0) = false := decide_eq_false hr0
  clear bx bc hQ
  go_enter Tryz.func22, Tryz.ntmps22
  go_wp2_with fail
  generalize w.alloc (.cells #[.slice a1 n1 c1, .slice a2 n2 c2, .slice a3 n3 c3, .slice a4 n4 c4, .string d0, .string e0, .int .i64 m] 45) = w1 at *
  refine HC1.out.mono ?_
  rintro e w2 ⟨rfl, b2⟩
  have p1 := (b2.cell (p := ⟨w.heap.size, 3, none⟩) blt).trans q1
  have HB2 := Lib.hid (HB.out.trans (b2.mono HB.out.size))
  clear b2 q1
  go_wp2_with fail
  refine (HC2.out w2 HB2.out).mono ?_
  rintro e w3 ⟨rfl, b3⟩
  have HB3 := Lib.hid (HB2.out.trans (b3.mono HB2.out.size))
  rw [← HK2.out]
  clear b3 p1
  go_wp2
  go_ret
  exact ⟨rfl, HB3.out⟩
theorem ncR_shape {n : Net} {fs : List Fmt} (h1 : n.ns.length ≤ 1048576) (h2 : n.fs.length ≤ 1048576) (h3 : NetSm n) (h4 : fs.length ≤ 1048576) : ∃ (n2 : Net) (fs2 : List Fmt) (d2 e2 : ByteArray) (m2 : Int), ncR n fs = ⟨⟨n2, []⟩, fs2, d2, e2, m2⟩ ∧ NetSm n2 ∧ n2.ns.length ≤ 1048576 ∧ n2.fs.length ≤ 1048576 ∧ fs2.length ≤ 1048576 ∧ mkC ⟨⟨n2, []⟩, fs2, d2, e2, m2⟩ ≤ 8388608 := by
  have hb : ∀ (n2 : Net) (fs2 : List Fmt) (d2 e2 : ByteArray) (m2 : Int), n2.ns.length ≤ 1048576 → n2.fs.length ≤ 1048576 → fs2.length ≤ 1048576 → mkC ⟨⟨n2, []⟩, fs2, d2, e2, m2⟩ ≤ 8388608 := fun n2 fs2 d2 e2 m2 a b c => by
    unfold mkC mkP mkN totL; simp; omega
  cases hok : ncOk n fs
  · exact ⟨⟨[], []⟩, [], _, _, _, ncR_no hok, (fun i => by show (nmA ⟨[], []⟩ i).size ≤ _; simp [nmA, nilS]; exact Nat.zero_le _), by simp, by simp, by simp, hb _ _ _ _ _ (by simp) (by simp) (by simp)⟩
  · exact ⟨n, fs, _, _, _, ncR_yes hok, h3, h1, h2, h4, hb _ _ _ _ _ h1 h2 h4⟩
end Go.Proofs.YtonpcgdnfclidaaGreatDoor
namespace Go.Proofs.YtonpcgdnfclidaaGreatDoor
open Go.RowKit Go.WideShapes
set_option maxRecDepth 100000
section
variable {H : Type} {enc : TypeId × Value → H} {W : World} {r : Reach} {b0 : Nat} {v : Value} {d : DataW H} {ps : List MemPlace}
theorem open_network (hval : Value.okWide Tryz.prog W r b0 25 v) (h : DataW.Trod enc Tryz.prog W 0 (fun _ => true) true 25 v d ps) : ∃ n : Net, NetW W v n := by
  obtain ⟨⟨ns, fs⟩, us, rfl, h1, h2⟩ := opens_agg Tryz.underlying25 hval opens_net h
  match us, h1 with
  | [u1, u2], _ =>
    obtain ⟨x1, e1, r1⟩ := h2 0 _ rfl
    obtain ⟨x2, e2, r2⟩ := h2 1 _ rfl
    cases e1; cases e2
    exact ⟨⟨ns.map (·.1), fs⟩, u1, u2, rfl, r1, r2, sub_small ns⟩
end
end Go.Proofs.YtonpcgdnfclidaaGreatDoor
