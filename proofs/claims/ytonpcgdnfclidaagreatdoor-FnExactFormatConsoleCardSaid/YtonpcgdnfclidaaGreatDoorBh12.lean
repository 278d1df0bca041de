/- Joined: XLgt XVpl XGod XIvcW. -/
import Derived.Test.YtonpcgdnfclidaaGreatDoorBh11
import Derived.Test.YtonpcgdnfclidaaGreatDoorBh06
import Derived.Test.YtonpcgdnfclidaaGreatDoorBh07
namespace Go.Proofs.YtonpcgdnfclidaaGreatDoor
open Go.RowKit Go.Sort
set_option maxRecDepth 100000

theorem slice_of_net {w : World} {u1 u2 : Value} {n : Net} (h : NetR w (.agg #[u1, u2]) n) : (∃ a m c, u1 = .slice a m c) ∧ ∃ a m c, u2 = .slice a m c := by
  obtain ⟨x1, x2, e, r1, r2, _⟩ := h
  simp only [Value.agg.injEq, Array.mk.injEq, List.cons.injEq, and_true] at e
  obtain ⟨rfl, rfl⟩ := e
  exact ⟨Rdt.slice' r1, Rdt.slice' r2⟩
theorem isLight_any (u1 u2 v : Value) (n : Net) (x : Lgt) (w : World) (h : NetR w (.agg #[u1, u2]) n) (hr : Rd w v x.fb) (hl : x.fb.length ≤ 1100000) :
    Calls Tryz.prog 58 #[.agg #[u1, u2], .agg #[.int .i64 x.id, .int .i64 x.st, v, .int .i64 x.fi, .int .i64 x.ct]] w fun e w' => e = .returned (.bool (lgtOk n x)) ∧ Below w.heap.size w w' := by
  have HV := Lib.hid (fun w' (hb : Below w.heap.size w w') => visited_any u1 u2 v n ⟨x.st, x.fb⟩ w' (h.behind hb) (hr.belowAll hb) hl)
  obtain ⟨⟨a1, m1, c1, rfl⟩, a2, m2, c2, rfl⟩ := slice_of_net h
  obtain ⟨a3, c3, m3, -, rfl, -, -, -⟩ := hr.opn
  have HF := Lib.hid (show lgtOk n x = ((rouN n ⟨x.st, x.fb⟩).isSome && inB x.id 1 999 && blkOk x.fi x.ct) from rfl)
  obtain ⟨bx, bc, blt, -⟩ := box_facts w #[.slice a1 m1 c1, .slice a2 m2 c2] 38
  obtain ⟨by', bd, bmt, -⟩ := box_facts (w.alloc (.cells #[.slice a1 m1 c1, .slice a2 m2 c2] 38)) #[.int .i64 x.id, .int .i64 x.st, .slice a3 m3 c3, .int .i64 x.fi, .int .i64 x.ct] 98
  have q0 := (by'.cell (p := ⟨w.heap.size, 0, none⟩) blt).trans (bc 0 _ rfl)
  have q1 := (by'.cell (p := ⟨w.heap.size, 1, none⟩) blt).trans (bc 1 _ rfl)
  have l0 := bd 0 _ rfl
  have l1 := bd 1 _ rfl
  have l2 := bd 2 _ rfl
  have l3 := bd 3 _ rfl
  have l4 := bd 4 _ rfl
  have hs1 : (w.alloc (.cells #[.slice a1 m1 c1, .slice a2 m2 c2] 38)).heap.size = w.heap.size + 1 := by simp
  rw [hs1] at l0 l1 l2 l3 l4 bmt
  have HBX := Lib.hid (bx.trans (by'.mono bx.size))
  clear bc bd bx by' hs1 blt h hr
  generalize lgtOk n x = q at *
  go_enter Tryz.func58, Tryz.ntmps58
  go_wp2_with fail
  generalize (w.alloc (.cells #[.slice a1 m1 c1, .slice a2 m2 c2] 38)).alloc (.cells #[.int .i64 x.id, .int .i64 x.st, .slice a3 m3 c3, .int .i64 x.fi, .int .i64 x.ct] 98) = w2 at *
  refine (HV.out w2 HBX.out).mono ?_
  rintro e w3 ⟨v', rfl, -, ⟨a4, m4, c4, rfl⟩, b3⟩
  have p0 := (b3.cell bmt).trans l0
  have p3 := (b3.cell bmt).trans l3
  have p4 := (b3.cell bmt).trans l4
  have HB3 := Lib.hid (HBX.out.trans (b3.mono HBX.out.size))
  clear b3 l0 l1 l2 l3 l4 q0 q1 HV
  generalize (rouN n ⟨x.st, x.fb⟩).isSome = o at *
  have HIN := Lib.hid (fun w => within_any x.id 1 999 w)
  have HBK := Lib.hid (fun w => IsValidBlock_any x.fi x.ct w)
  generalize inB x.id 1 999 = i at *
  generalize blkOk x.fi x.ct = k at *
  cases o
  · go_wp2
    go_ret
    exact ⟨by rw [HF.out]; rfl, HB3.out⟩
  cases i
  · go_wp2_with (go_at_call 62; refine (HIN.out _).mono ?_; rintro e w' ⟨rfl, rfl⟩)
    go_ret
    exact ⟨by rw [HF.out]; rfl, HB3.out⟩
  go_wp2_with (go_at_call 62; refine (HIN.out _).mono ?_; rintro e w' ⟨rfl, rfl⟩)
  refine (HBK.out _).mono ?_
  rintro e w4 ⟨rfl, b4⟩
  have HB4 := Lib.hid (HB3.out.trans (b4.mono HB3.out.size))
  clear b4
  go_wp2
  go_ret
  exact ⟨by rw [HF.out]; rfl, HB4.out⟩
theorem l4Good_any (u1 u2 v : Value) (n : Net) (r : Rou) (w : World) (h : NetR w (.agg #[u1, u2]) n) (hok : netOk n = true) (hr : Rd w v r.fb) (hl : r.fb.length ≤ 1100000) :
    Calls Tryz.prog 111 #[.agg #[u1, u2], .agg #[.int .i64 r.st, v]] w fun e w' => e = .returned (.bool (rouOk n r)) ∧ Below w.heap.size w w' := by
  have HV := Lib.hid (fun w' (hb : Below w.heap.size w w') => l4Walk_any u1 u2 v n r w' (h.behind hb) (hr.belowAll hb) hl)
  have HG := Lib.hid (fun w' (hb : Below w.heap.size w w') => l2Good_any _ n w' (h.behind hb))
  rw [hok] at HG
  obtain ⟨⟨a1, m1, c1, rfl⟩, a2, m2, c2, rfl⟩ := slice_of_net h
  obtain ⟨a3, c3, m3, -, rfl, -, -, -⟩ := hr.opn
  obtain ⟨bx, bc, blt, -⟩ := box_facts w #[.slice a1 m1 c1, .slice a2 m2 c2] 38
  obtain ⟨by', bd, bmt, -⟩ := box_facts (w.alloc (.cells #[.slice a1 m1 c1, .slice a2 m2 c2] 38)) #[.int .i64 r.st, .slice a3 m3 c3] 94
  have q0 := (by'.cell (p := ⟨w.heap.size, 0, none⟩) blt).trans (bc 0 _ rfl)
  have q1 := (by'.cell (p := ⟨w.heap.size, 1, none⟩) blt).trans (bc 1 _ rfl)
  have l0 := bd 0 _ rfl
  have l1 := bd 1 _ rfl
  have hs1 : (w.alloc (.cells #[.slice a1 m1 c1, .slice a2 m2 c2] 38)).heap.size = w.heap.size + 1 := by simp
  rw [hs1] at l0 l1 bmt
  have blt2 := Nat.lt_of_lt_of_le blt by'.size
  have HBX := Lib.hid (bx.trans (by'.mono bx.size))
  clear bc bd bx by' hs1 blt h hr hok
  unfold rouOk
  generalize rouN n r = o at *
  go_enter Tryz.func111, Tryz.ntmps111
  go_wp2_with fail
  generalize (w.alloc (.cells #[.slice a1 m1 c1, .slice a2 m2 c2] 38)).alloc (.cells #[.int .i64 r.st, .slice a3 m3 c3] 94) = w2 at *
  refine (HG.out w2 HBX.out).mono ?_
  rintro e w3 ⟨rfl, b3⟩
  have p0 := (b3.cell blt2).trans q0
  have p1 := (b3.cell blt2).trans q1
  have p2 := (b3.cell bmt).trans l0
  have p3 := (b3.cell bmt).trans l1
  have HB3 := Lib.hid (HBX.out.trans (b3.mono HBX.out.size))
  clear b3 l0 l1 q0 q1 HG
  go_wp2_with fail
  refine (HV.out w3 HB3.out).mono ?_
  rintro e w4 ⟨v', rfl, -, ⟨a4, m4, c4, rfl⟩, b4⟩
  have HB4 := Lib.hid (HB3.out.trans (b4.mono HB3.out.size))
  clear b4
  go_wp2
  go_ret
  exact ⟨rfl, HB4.out⟩
theorem l9Light_any (u1 u2 v : Value) (n : Net) (x : Lgt) (w : World) (h : NetR w (.agg #[u1, u2]) n) (hok : netOk n = true) (hr : Rd w v x.fb) (hl : x.fb.length ≤ 1100000) :
    Calls Tryz.prog 80 #[.agg #[u1, u2], .agg #[.int .i64 x.id, .int .i64 x.st, v, .int .i64 x.fi, .int .i64 x.ct]] w fun e w' => e = .returned (.bool (lgtOk n x)) ∧ Below w.heap.size w w' := by
  have HV := Lib.hid (fun w' (hb : Below w.heap.size w w') => l4Good_any u1 u2 v n ⟨x.st, x.fb⟩ w' (h.behind hb) hok (hr.belowAll hb) hl)
  obtain ⟨⟨a1, m1, c1, rfl⟩, a2, m2, c2, rfl⟩ := slice_of_net h
  obtain ⟨a3, c3, m3, -, rfl, -, -, -⟩ := hr.opn
  have HF := Lib.hid (show lgtOk n x = (rouOk n ⟨x.st, x.fb⟩ && inB x.id 1 999 && blkOk x.fi x.ct) from rfl)
  obtain ⟨bx, bc, blt, -⟩ := box_facts w #[.slice a1 m1 c1, .slice a2 m2 c2] 38
  obtain ⟨by', bd, bmt, -⟩ := box_facts (w.alloc (.cells #[.slice a1 m1 c1, .slice a2 m2 c2] 38)) #[.int .i64 x.id, .int .i64 x.st, .slice a3 m3 c3, .int .i64 x.fi, .int .i64 x.ct] 98
  have q0 := (by'.cell (p := ⟨w.heap.size, 0, none⟩) blt).trans (bc 0 _ rfl)
  have q1 := (by'.cell (p := ⟨w.heap.size, 1, none⟩) blt).trans (bc 1 _ rfl)
  have l0 := bd 0 _ rfl
  have l1 := bd 1 _ rfl
  have l2 := bd 2 _ rfl
  have l3 := bd 3 _ rfl
  have l4 := bd 4 _ rfl
  have hs1 : (w.alloc (.cells #[.slice a1 m1 c1, .slice a2 m2 c2] 38)).heap.size = w.heap.size + 1 := by simp
  rw [hs1] at l0 l1 l2 l3 l4 bmt
  have HBX := Lib.hid (bx.trans (by'.mono bx.size))
  clear bc bd bx by' hs1 blt h hr hok
  generalize lgtOk n x = q at *
  generalize rouOk n ⟨x.st, x.fb⟩ = o at *
  have HIN := Lib.hid (fun w => l1In_any x.id 1 999 w)
  have HBK := Lib.hid (fun w => l8Good_any x.fi x.ct w)
  generalize inB x.id 1 999 = i at *
  generalize blkOk x.fi x.ct = k at *
  go_enter Tryz.func80, Tryz.ntmps80
  cases i
  · go_wp2_with (go_at_call 82; refine (HIN.out _).mono ?_; rintro e w' ⟨rfl, rfl⟩)
    go_ret
    exact ⟨by rw [HF.out]; cases o <;> rfl, HBX.out⟩
  go_wp2_with (go_at_call 82; refine (HIN.out _).mono ?_; rintro e w' ⟨rfl, rfl⟩)
  generalize (w.alloc (.cells #[.slice a1 m1 c1, .slice a2 m2 c2] 38)).alloc (.cells #[.int .i64 x.id, .int .i64 x.st, .slice a3 m3 c3, .int .i64 x.fi, .int .i64 x.ct] 98) = w2 at *
  refine (HV.out w2 HBX.out).mono ?_
  rintro e w3 ⟨rfl, b3⟩
  have p3 := (b3.cell bmt).trans l3
  have p4 := (b3.cell bmt).trans l4
  have HB3 := Lib.hid (HBX.out.trans (b3.mono HBX.out.size))
  clear b3 l0 l1 l2 l3 l4 q0 q1 HV
  cases o
  · go_wp2
    go_ret
    exact ⟨by rw [HF.out]; rfl, HB3.out⟩
  go_wp2_with fail
  refine (HBK.out _).mono ?_
  rintro e w4 ⟨rfl, b4⟩
  have HB4 := Lib.hid (HB3.out.trans (b4.mono HB3.out.size))
  clear b4
  go_wp2
  go_ret
  exact ⟨by rw [HF.out]; rfl, HB4.out⟩
end Go.Proofs.YtonpcgdnfclidaaGreatDoor
namespace Go.Proofs.YtonpcgdnfclidaaGreatDoor
open Go.RowKit Go.Sort
set_option maxRecDepth 100000

/-- The closure that asks whether a light collides with the captured one. -/
theorem planBad_any (y : Lgt) (u : Value) (z : Lgt) (b0 : Nat) (v : Value) (w : World) (hu : Rd w u z.fb) (hv : Rd w v y.fb)
    (hz : blkOk z.fi z.ct = true) (hy : blkOk y.fi y.ct = true) (hl : z.fb.length ≤ 1100000)
    (c0 : w.cell? ⟨b0, 0, none⟩ = some (.int .i64 y.id)) (c1 : w.cell? ⟨b0, 1, none⟩ = some (.int .i64 y.st)) (c2 : w.cell? ⟨b0, 2, none⟩ = some v) (c3 : w.cell? ⟨b0, 3, none⟩ = some (.int .i64 y.fi)) (c4 : w.cell? ⟨b0, 4, none⟩ = some (.int .i64 y.ct)) :
    Calls Tryz.prog 60 #[.agg #[.int .i64 z.id, .int .i64 z.st, u, .int .i64 z.fi, .int .i64 z.ct], ptr b0] w fun e w' => e = .returned (.bool (collB z y)) ∧ Below w.heap.size w w' := by
  have HC := Lib.hid (fun w' (hb : Below w.heap.size w w') => collide_any u v z y w' (hu.belowAll hb) (hv.belowAll hb) hz hy hl)
  obtain ⟨a1, k1, m1, -, rfl, -, -, -⟩ := hu.opn
  obtain ⟨a2, k2, m2, -, rfl, -, -, -⟩ := hv.opn
  obtain ⟨bx, bc, blt, -⟩ := box_facts w #[.int .i64 z.id, .int .i64 z.st, .slice a1 m1 k1, .int .i64 z.fi, .int .i64 z.ct] 98
  have q0 := bc 0 _ rfl
  have q1 := bc 1 _ rfl
  have q2 := bc 2 _ rfl
  have q3 := bc 3 _ rfl
  have q4 := bc 4 _ rfl
  have hlt := World.block_lt_of_cell? _ _ c0
  have d0 := (bx.cell (p := ⟨b0, 0, none⟩) hlt).trans c0
  have d1 := (bx.cell (p := ⟨b0, 1, none⟩) hlt).trans c1
  have d2 := (bx.cell (p := ⟨b0, 2, none⟩) hlt).trans c2
  have d3 := (bx.cell (p := ⟨b0, 3, none⟩) hlt).trans c3
  have d4 := (bx.cell (p := ⟨b0, 4, none⟩) hlt).trans c4
  have HBX := Lib.hid bx
  clear c0 c1 c2 c3 c4 bc bx hu hv
  go_enter Tryz.func60, Tryz.ntmps60
  go_wp2_with fail
  refine (HC.out _ HBX.out).mono ?_
  rintro e w3 ⟨rfl, b3⟩
  have HB3 := Lib.hid (HBX.out.trans (b3.mono HBX.out.size))
  clear b3
  go_wp2
  go_ret
  exact ⟨rfl, HB3.out⟩
theorem plnOk_net {p : Pln} (h : netOk p.n = false) : plnOk p = false := by unfold plnOk; rw [h]; rfl
theorem plnOk_len {p : Pln} (h : ¬ p.ls.length ≤ 12) : plnOk p = false := by unfold plnOk; rw [decide_eq_false h]; simp
theorem plnOk_at {p : Pln} {i : Nat} (hi : i < p.ls.length) (h : ltOk p i = false) : plnOk p = false := by unfold plnOk; rw [rng_no hi h]; simp
theorem plnOk_all {p : Pln} (h1 : netOk p.n = true) (h2 : p.ls.length ≤ 12) (h3 : ∀ i, i < p.ls.length → ltOk p i = true) : plnOk p = true := by unfold plnOk; rw [rng_yes h3, h1, decide_eq_true h2]; rfl
theorem ltOk_blk {p : Pln} {i : Nat} (h : ltOk p i = true) : blkOk (lgA p i).fi (lgA p i).ct = true := by
  unfold ltOk lgtOk at h
  simp only [Bool.and_eq_true] at h
  exact h.1.2
set_option maxHeartbeats 3200000 in
theorem IsValidPlan_any (v : Value) (p : Pln) (w : World) (h : PlnR w v p) (hfb : ∀ i : Nat, (lgA p i).fb.length ≤ 1100000) :
    Calls Tryz.prog 30 #[v] w fun e w' => e = .returned (.bool (plnOk p)) ∧ Below w.heap.size w w' := by
  obtain ⟨u1, u2, u3, rfl, r1, r2, r3, hsm⟩ := h
  have hnet : NetR w (.agg #[u1, u2]) p.n := ⟨u1, u2, rfl, r1, r2, hsm⟩
  obtain ⟨⟨a1, m1, c1, rfl⟩, a2, m2, c2, rfl⟩ := slice_of_net hnet
  obtain ⟨a3, m3, c3, rfl, HN3, hc3, hm3, ha3⟩ := lgt_opn r3
  have HNV := Lib.hid (fun w' (hb : Below w.heap.size w w') => IsValidNetwork_any _ p.n w' (hnet.behind hb))
  have HNE := Lib.hid hnet
  have HA := Lib.hid ha3
  have HR3 := Lib.hid r3
  have HFB := Lib.hid hfb
  have HX1 := Lib.hid (@plnOk_net p)
  have HX2 := Lib.hid (@plnOk_len p)
  have HX3 := Lib.hid (fun i hi h => @plnOk_at p i hi h)
  have HX4 := Lib.hid (@plnOk_all p)
  rw [HN3.out] at HX2 HX3 HX4
  obtain ⟨bx, bc, blt, -⟩ := box_facts w #[.slice a1 m1 c1, .slice a2 m2 c2, .slice a3 m3 c3] 41
  have q0 := bc 0 _ rfl
  have q1 := bc 1 _ rfl
  have q2 := bc 2 _ rfl
  have HBX := Lib.hid bx
  clear bx bc ha3 r1 r2 r3 hsm hnet hfb
  generalize plnOk p = q at *
  go_enter Tryz.func30, Tryz.ntmps30
  go_wp2_with fail
  generalize w.alloc (.cells #[.slice a1 m1 c1, .slice a2 m2 c2, .slice a3 m3 c3] 41) = w1 at *
  have HNV1 := Lib.hid (HNV.out w1 HBX.out)
  cases hok : netOk p.n
  · have HF := Lib.hid (HX1.out hok)
    rw [hok] at HNV1
    refine HNV1.out.mono ?_
    rintro e w2 ⟨rfl, b2⟩
    have HB2 := Lib.hid (HBX.out.trans (b2.mono HBX.out.size))
    clear b2 hok
    go_wp2
    go_ret
    exact ⟨by rw [HF.out]; rfl, HB2.out⟩
  rw [hok] at HNV1
  refine HNV1.out.mono ?_
  rintro e w2 ⟨rfl, b2⟩
  have p2 := (b2.cell blt).trans q2
  have HB2 := Lib.hid b2
  clear b2
  by_cases h12 : m3 ≤ 12
  case neg =>
    have HF := Lib.hid (HX2.out h12)
    have hd : decide (12 < (m3 : Int)) = true := decide_eq_true (by omega)
    have hd2 : decide (12 < m3) = true := decide_eq_true (by omega)
    clear h12
    go_wp2
    go_ret
    exact ⟨by rw [HF.out]; rfl, HBX.out.trans (HB2.out.mono HBX.out.size)⟩
  have hd : decide (12 < (m3 : Int)) = false := decide_eq_false (by omega)
  have hd2 : decide (12 < m3) = false := decide_eq_false (by omega)
  go_wp2
  clear hd hd2
  go_loopw [3, 4, 18] (fun _ _ i wr => ∃ k : Nat, k ≤ m3 ∧ i = .int .i64 k ∧ Hid (∀ i, i < k → ltOk p i = true) ∧ Hid (Below w1.heap.size w1 wr)) (fun _ _ i _ => m3 - (intOf i).toNat)
  case atStart => exact ⟨0, Nat.zero_le _, rfl, fun i hi => by omega, HB2.out⟩
  case round =>
    obtain ⟨k, hk, rfl, HK, HB⟩ := hrel
    by_cases hlt : k < m3
    · have hltI : (k : Int) < (m3 : Int) := by omega
      obtain ⟨b, off, rfl, hbs, hcs⟩ := HA.out (by omega)
      have HCS := Lib.hid hcs
      obtain ⟨u, e0, e1, e2, e3, e4, hru⟩ := hcs k hlt
      have BW := HBX.out.trans (HB.out.mono HBX.out.size)
      have HBW := Lib.hid BW
      have x0 := (BW.cell (p := ⟨b, off + k * 5, none⟩) hbs).trans e0
      have x1 := (BW.cell (p := ⟨b, off + k * 5 + 1, none⟩) hbs).trans e1
      have x2 := (BW.cell (p := ⟨b, off + k * 5 + 2, none⟩) hbs).trans e2
      have x3 := (BW.cell (p := ⟨b, off + k * 5 + 3, none⟩) hbs).trans e3
      have x4 := (BW.cell (p := ⟨b, off + k * 5 + 4, none⟩) hbs).trans e4
      have p0 := (HB.out.cell (p := ⟨w.heap.size, 0, none⟩) blt).trans q0
      have p1 := (HB.out.cell (p := ⟨w.heap.size, 1, none⟩) blt).trans q1
      have p2 := (HB.out.cell (p := ⟨w.heap.size, 2, none⟩) blt).trans q2
      have HRU := Lib.hid hru
      obtain ⟨au, cu, nu, -, rfl, -, -, -⟩ := hru.opn
      have HV := Lib.hid (show ltOk p k = (lgtOk p.n (p.ls[k]?.getD nilL) && (!(decide (0 < k) && decide ((p.ls[k]?.getD nilL).id ≤ (p.ls[k - 1]?.getD nilL).id)) && !((p.ls.take k).any fun y => collB y (p.ls[k]?.getD nilL)))) from rfl)
      have HNO := Lib.hid (HX3.out k hlt)
      have HST := Lib.hid (fun h => upto_succ HK.out (k := k) h)
      have HFK := Lib.hid (show (p.ls[k]?.getD nilL).fb.length ≤ 1100000 from HFB.out k)
      clear hcs e0 e1 e2 e3 e4 BW hru
      generalize p.ls[k]?.getD nilL = l at *
      obtain ⟨by', bd, bmt, -⟩ := box_facts wr #[.int .i64 l.id, .int .i64 l.st, .slice au nu cu, .int .i64 l.fi, .int .i64 l.ct] 98
      have HBY := Lib.hid by'
      have y0 := (by'.cell (p := ⟨w.heap.size, 0, none⟩) (World.block_lt_of_cell? _ _ p0)).trans p0
      have y1 := (by'.cell (p := ⟨w.heap.size, 1, none⟩) (World.block_lt_of_cell? _ _ p1)).trans p1
      have y2 := (by'.cell (p := ⟨w.heap.size, 2, none⟩) (World.block_lt_of_cell? _ _ p2)).trans p2
      have z0 := bd 0 _ rfl
      have z1 := bd 1 _ rfl
      have z2 := bd 2 _ rfl
      have z3 := bd 3 _ rfl
      have z4 := bd 4 _ rfl
      have HBZ := Lib.hid (HBW.out.trans (by'.mono HBW.out.size))
      have HIL := Lib.hid (fun wx (hb : Below w.heap.size w wx) => isLight_any (.slice a1 m1 c1) (.slice a2 m2 c2) (.slice au nu cu) p.n l wx (HNE.out.behind hb) (HRU.out.belowAll hb) HFK.out)
      clear bd by'
      cases hlo : lgtOk p.n l
      · have HF := Lib.hid (HNO.out (by rw [HV.out, hlo]; rfl))
        rw [hlo] at HIL
        go_wp2
        generalize wr.alloc (.cells #[.int .i64 l.id, .int .i64 l.st, .slice au nu cu, .int .i64 l.fi, .int .i64 l.ct] 98) = w4 at *
        have j0 := rg y0
        have j1 := rg y1
        have j2 := rg y2
        have k0 := rg z0
        have k1 := rg z1
        have k2 := rg z2
        have k3 := rg z3
        have k4 := rg z4
        have HIL2 := Lib.hid (fun d os => HIL.out (grow (redrawn w4 d) os) (HBZ.out.trans ((below_regrown w4 d os).mono HBZ.out.size)))
        clear x0 x1 x2 x3 x4 p0 p1 p2 y0 y1 y2 z0 z1 z2 z3 z4
        refine wp_region_quiet_below (by kernel_rfl) (by kernel_rfl) ?_
        repeat (go_big_quiet_step (first | (go_at_call 58; exact Calls.regrown_of (HIL2.out _ _))))
        refine wpQuiet_nil ?_
        rintro _ ⟨⟨dq, osq⟩, rfl⟩
        go_wp2
        go_ret
        exact ⟨by rw [HF.out]; rfl, HBZ.out.trans ((below_regrown _ dq osq).mono HBZ.out.size)⟩
      have hbl : blkOk l.fi l.ct = true := by unfold lgtOk at hlo; simp only [Bool.and_eq_true] at hlo; exact hlo.2
      rw [hlo] at HIL HV
      have HFN := Lib.hid (show IsFn 60 from isFn_of rfl rfl rfl)
      have HCF0 := Lib.hid (fun (wx : World) (hx : Below w.heap.size w wx) (c0 : wx.cell? ⟨wr.heap.size, 0, none⟩ = some (.int .i64 l.id)) (c1 : wx.cell? ⟨wr.heap.size, 1, none⟩ = some (.int .i64 l.st)) (c2 : wx.cell? ⟨wr.heap.size, 2, none⟩ = some (.slice au nu cu)) (c3' : wx.cell? ⟨wr.heap.size, 3, none⟩ = some (.int .i64 l.fi)) (c4 : wx.cell? ⟨wr.heap.size, 4, none⟩ = some (.int .i64 l.ct)) =>
        containsFuncLgt_any (.slice (some ⟨b, off, none⟩) k c3) (p.ls.take k) 60 wr.heap.size (fun y => collB y l) wx (rws_take (fun _ => rfl) (by omega) nilL (HR3.out.behind hx) hk) HFN.out
          (fun i w' hi hb z u hz hru => by
            have hik : i < k := by rw [List.length_take] at hi; omega
            have hze : z = lgA p i := by rw [hz, List.getElem?_take, if_pos hik]
            subst hze
            have hl := World.block_lt_of_cell? _ _ c0
            exact planBad_any l u _ wr.heap.size (.slice au nu cu) w' hru (HRU.out.belowAll (hx.trans (hb.mono hx.size))) (ltOk_blk (HK.out i hik)) hbl (HFB.out i) ((hb.cell (p := ⟨wr.heap.size, 0, none⟩) hl).trans c0) ((hb.cell (p := ⟨wr.heap.size, 1, none⟩) hl).trans c1) ((hb.cell (p := ⟨wr.heap.size, 2, none⟩) hl).trans c2) ((hb.cell (p := ⟨wr.heap.size, 3, none⟩) hl).trans c3') ((hb.cell (p := ⟨wr.heap.size, 4, none⟩) hl).trans c4)))
      generalize (p.ls.take k).any (fun y => collB y l) = any at *
      have i1 : (0 : Int) ≤ (k : Int) := by omega
      have i2 : (k : Int) ≤ (c3 : Int) := by omega
      have i3 : k ≤ c3 := by omega
      have i4 : (k : Int) ≤ (m3 : Int) := by omega
      clear hbl hlo
      by_cases hk0 : k = 0
      · have hk0b : decide (0 < k) = false := decide_eq_false (by omega)
        have hk0c : decide (0 < (k : Int)) = false := decide_eq_false (by omega)
        have hv := HV.out
        rw [hk0b] at hv
        have HV2 := Lib.hid hv
        clear hk0 hv HV
        cases any
        · have HS := Lib.hid (HST.out (by rw [HV2.out]; rfl))
          clear HV2 HST HNO
          go_wp2
          generalize wr.alloc (.cells #[.int .i64 l.id, .int .i64 l.st, .slice au nu cu, .int .i64 l.fi, .int .i64 l.ct] 98) = w4 at *
          have j0 := rg y0
          have j1 := rg y1
          have j2 := rg y2
          have k0 := rg z0
          have k1 := rg z1
          have k2 := rg z2
          have k3 := rg z3
          have k4 := rg z4
          have HIL2 := Lib.hid (fun d os => HIL.out (grow (redrawn w4 d) os) (HBZ.out.trans ((below_regrown w4 d os).mono HBZ.out.size)))
          have HCF := Lib.hid (fun d os => HCF0.out (grow (redrawn w4 d) os) (HBZ.out.trans ((below_regrown w4 d os).mono HBZ.out.size)) (k0 d os) (k1 d os) (k2 d os) (k3 d os) (k4 d os))
          clear x0 x1 x2 x3 x4 p0 p1 p2 y0 y1 y2 z0 z1 z2 z3 z4 HCF0 HIL
          refine wp_region_quiet_below (by kernel_rfl) (by kernel_rfl) ?_
          repeat (go_big_quiet_step (first | (go_at_call 58; exact Calls.regrown_of (HIL2.out _ _)) | (go_at_call 59; exact Calls.regrown_of (HCF.out _ _))))
          refine wpQuiet_nil ?_
          rintro _ ⟨⟨dq, osq⟩, rfl⟩
          go_wp2
          go_roundw
          case rel => exact ⟨k + 1, hlt, by go_num, HS.out, (HB.out.trans (HBY.out.mono HB.out.size)).trans ((below_regrown _ dq osq).mono (HB.out.trans (HBY.out.mono HB.out.size)).size)⟩
          case measure => simp [intOf]; omega
        · have HF := Lib.hid (HNO.out (by rw [HV2.out]; rfl))
          clear HV2 HST HNO
          go_wp2
          generalize wr.alloc (.cells #[.int .i64 l.id, .int .i64 l.st, .slice au nu cu, .int .i64 l.fi, .int .i64 l.ct] 98) = w4 at *
          have j0 := rg y0
          have j1 := rg y1
          have j2 := rg y2
          have k0 := rg z0
          have k1 := rg z1
          have k2 := rg z2
          have k3 := rg z3
          have k4 := rg z4
          have HIL2 := Lib.hid (fun d os => HIL.out (grow (redrawn w4 d) os) (HBZ.out.trans ((below_regrown w4 d os).mono HBZ.out.size)))
          have HCF := Lib.hid (fun d os => HCF0.out (grow (redrawn w4 d) os) (HBZ.out.trans ((below_regrown w4 d os).mono HBZ.out.size)) (k0 d os) (k1 d os) (k2 d os) (k3 d os) (k4 d os))
          clear x0 x1 x2 x3 x4 p0 p1 p2 y0 y1 y2 z0 z1 z2 z3 z4 HCF0 HIL
          refine wp_region_quiet_below (by kernel_rfl) (by kernel_rfl) ?_
          repeat (go_big_quiet_step (first | (go_at_call 58; exact Calls.regrown_of (HIL2.out _ _)) | (go_at_call 59; exact Calls.regrown_of (HCF.out _ _))))
          refine wpQuiet_nil ?_
          rintro _ ⟨⟨dq, osq⟩, rfl⟩
          go_wp2
          go_ret
          exact ⟨by rw [HF.out]; rfl, HBZ.out.trans ((below_regrown _ dq osq).mono HBZ.out.size)⟩
      · obtain ⟨k', hk'⟩ : ∃ k', k = k' + 1 := ⟨k - 1, by omega⟩
        have hkk : k - 1 = k' := by omega
        have hk0b : decide (0 < k) = true := decide_eq_true (by omega)
        have hk0c : decide (0 < (k : Int)) = true := decide_eq_true (by omega)
        have hkp : (0 : Int) < (k : Int) := by omega
        have f1w : IntKind.i64.wrap ((k : Int) - 1) = (k' : Int) := by rw [IntWalk.i64_in _ (by omega)]; omega
        have f2w : (k' : Int) < (m3 : Int) := by omega
        have f3w : k' < m3 := by omega
        obtain ⟨u', t0, -, -, -, -, -⟩ := HCS.out k' f3w
        have t0 := (HBZ.out.cell (p := ⟨b, off + k' * 5, none⟩) hbs).trans t0
        have hv := HV.out
        rw [hkk, hk0b] at hv
        generalize (p.ls[k']?.getD nilL).id = pid at *
        have HV2 := Lib.hid hv
        clear hk0 hv HV hk' hkk
        cases hge : decide (l.id ≤ pid)
        case true =>
          have HF := Lib.hid (HNO.out (by rw [HV2.out, hge]; rfl))
          clear HV2 HST HNO
          go_wp2
          generalize wr.alloc (.cells #[.int .i64 l.id, .int .i64 l.st, .slice au nu cu, .int .i64 l.fi, .int .i64 l.ct] 98) = w4 at *
          have j0 := rg y0
          have j1 := rg y1
          have j2 := rg y2
          have k0 := rg z0
          have k1 := rg z1
          have k2 := rg z2
          have k3 := rg z3
          have k4 := rg z4
          have jt := rg t0
          have HIL2 := Lib.hid (fun d os => HIL.out (grow (redrawn w4 d) os) (HBZ.out.trans ((below_regrown w4 d os).mono HBZ.out.size)))
          have HCF := Lib.hid (fun d os => HCF0.out (grow (redrawn w4 d) os) (HBZ.out.trans ((below_regrown w4 d os).mono HBZ.out.size)) (k0 d os) (k1 d os) (k2 d os) (k3 d os) (k4 d os))
          clear x0 x1 x2 x3 x4 p0 p1 p2 y0 y1 y2 z0 z1 z2 z3 z4 HCF0 HIL
          refine wp_region_quiet_below (by kernel_rfl) (by kernel_rfl) ?_
          repeat (go_big_quiet_step (first | (go_at_call 58; exact Calls.regrown_of (HIL2.out _ _)) | (go_at_call 59; exact Calls.regrown_of (HCF.out _ _))))
          refine wpQuiet_nil ?_
          rintro _ ⟨⟨dq, osq⟩, rfl⟩
          go_wp2
          go_ret
          exact ⟨by rw [HF.out]; rfl, HBZ.out.trans ((below_regrown _ dq osq).mono HBZ.out.size)⟩
        rw [hge] at HV2
        cases any
        · have HS := Lib.hid (HST.out (by rw [HV2.out]; rfl))
          clear HV2 HST HNO
          go_wp2
          generalize wr.alloc (.cells #[.int .i64 l.id, .int .i64 l.st, .slice au nu cu, .int .i64 l.fi, .int .i64 l.ct] 98) = w4 at *
          have j0 := rg y0
          have j1 := rg y1
          have j2 := rg y2
          have k0 := rg z0
          have k1 := rg z1
          have k2 := rg z2
          have k3 := rg z3
          have k4 := rg z4
          have jt := rg t0
          have HIL2 := Lib.hid (fun d os => HIL.out (grow (redrawn w4 d) os) (HBZ.out.trans ((below_regrown w4 d os).mono HBZ.out.size)))
          have HCF := Lib.hid (fun d os => HCF0.out (grow (redrawn w4 d) os) (HBZ.out.trans ((below_regrown w4 d os).mono HBZ.out.size)) (k0 d os) (k1 d os) (k2 d os) (k3 d os) (k4 d os))
          clear x0 x1 x2 x3 x4 p0 p1 p2 y0 y1 y2 z0 z1 z2 z3 z4 HCF0 HIL
          refine wp_region_quiet_below (by kernel_rfl) (by kernel_rfl) ?_
          repeat (go_big_quiet_step (first | (go_at_call 58; exact Calls.regrown_of (HIL2.out _ _)) | (go_at_call 59; exact Calls.regrown_of (HCF.out _ _))))
          refine wpQuiet_nil ?_
          rintro _ ⟨⟨dq, osq⟩, rfl⟩
          go_wp2
          go_roundw
          case rel => exact ⟨k + 1, hlt, by go_num, HS.out, (HB.out.trans (HBY.out.mono HB.out.size)).trans ((below_regrown _ dq osq).mono (HB.out.trans (HBY.out.mono HB.out.size)).size)⟩
          case measure => simp [intOf]; omega
        · have HF := Lib.hid (HNO.out (by rw [HV2.out]; rfl))
          clear HV2 HST HNO
          go_wp2
          generalize wr.alloc (.cells #[.int .i64 l.id, .int .i64 l.st, .slice au nu cu, .int .i64 l.fi, .int .i64 l.ct] 98) = w4 at *
          have j0 := rg y0
          have j1 := rg y1
          have j2 := rg y2
          have k0 := rg z0
          have k1 := rg z1
          have k2 := rg z2
          have k3 := rg z3
          have k4 := rg z4
          have jt := rg t0
          have HIL2 := Lib.hid (fun d os => HIL.out (grow (redrawn w4 d) os) (HBZ.out.trans ((below_regrown w4 d os).mono HBZ.out.size)))
          have HCF := Lib.hid (fun d os => HCF0.out (grow (redrawn w4 d) os) (HBZ.out.trans ((below_regrown w4 d os).mono HBZ.out.size)) (k0 d os) (k1 d os) (k2 d os) (k3 d os) (k4 d os))
          clear x0 x1 x2 x3 x4 p0 p1 p2 y0 y1 y2 z0 z1 z2 z3 z4 HCF0 HIL
          refine wp_region_quiet_below (by kernel_rfl) (by kernel_rfl) ?_
          repeat (go_big_quiet_step (first | (go_at_call 58; exact Calls.regrown_of (HIL2.out _ _)) | (go_at_call 59; exact Calls.regrown_of (HCF.out _ _))))
          refine wpQuiet_nil ?_
          rintro _ ⟨⟨dq, osq⟩, rfl⟩
          go_wp2
          go_ret
          exact ⟨by rw [HF.out]; rfl, HBZ.out.trans ((below_regrown _ dq osq).mono HBZ.out.size)⟩
    · obtain rfl : m3 = k := by omega
      have HE := Lib.hid (HX4.out hok h12 HK.out)
      go_wp2
      go_ret
      exact ⟨by rw [HE.out]; rfl, HBX.out.trans (HB.out.mono HBX.out.size)⟩
end Go.Proofs.YtonpcgdnfclidaaGreatDoor
namespace Go.Proofs.YtonpcgdnfclidaaGreatDoor
open Go.RowKit Go.Sort
set_option maxRecDepth 100000

theorem take_any_no {α : Type} {zs : List α} {f : α → Bool} {nil : α} {k : Nat} (h : ∀ j, j < k → f (zs[j]?.getD nil) = false) : (zs.take k).any f = false := by
  rw [List.any_eq_false]
  intro x hx
  obtain ⟨j, hj, rfl⟩ := List.mem_take_iff_getElem.1 hx
  have := h j (by omega)
  rw [List.getElem?_eq_getElem (by omega)] at this
  simpa using this
theorem take_any_yes {α : Type} {zs : List α} {f : α → Bool} {nil : α} {k j : Nat} (hj : j < k) (hl : j < zs.length) (h : f (zs[j]?.getD nil) = true) : (zs.take k).any f = true := by
  rw [List.any_eq_true]
  rw [List.getElem?_eq_getElem hl] at h
  exact ⟨zs[j], List.mem_take_iff_getElem.2 ⟨j, by omega, rfl⟩, h⟩
set_option maxHeartbeats 3200000 in
theorem l9Good_any (v : Value) (p : Pln) (w : World) (h : PlnR w v p) (hfb : ∀ i : Nat, (lgA p i).fb.length ≤ 1100000) :
    Calls Tryz.prog 53 #[v] w fun e w' => e = .returned (.bool (plnOk p)) ∧ Below w.heap.size w w' := by
  obtain ⟨u1, u2, u3, rfl, r1, r2, r3, hsm⟩ := h
  have hnet : NetR w (.agg #[u1, u2]) p.n := ⟨u1, u2, rfl, r1, r2, hsm⟩
  obtain ⟨⟨a1, m1, c1, rfl⟩, a2, m2, c2, rfl⟩ := slice_of_net hnet
  obtain ⟨a3, m3, c3, rfl, HN3, hc3, hm3, ha3⟩ := lgt_opn r3
  have HNV := Lib.hid (fun w' (hb : Below w.heap.size w w') => l2Good_any _ p.n w' (hnet.behind hb))
  have HNE := Lib.hid hnet
  have HA := Lib.hid ha3
  have HR3 := Lib.hid r3
  have HFB := Lib.hid hfb
  have HX1 := Lib.hid (@plnOk_net p)
  have HX2 := Lib.hid (@plnOk_len p)
  have HX3 := Lib.hid (fun i hi h => @plnOk_at p i hi h)
  have HX4 := Lib.hid (@plnOk_all p)
  rw [HN3.out] at HX2 HX3 HX4
  obtain ⟨bx, bc, blt, -⟩ := box_facts w #[.slice a1 m1 c1, .slice a2 m2 c2, .slice a3 m3 c3] 41
  have q0 := bc 0 _ rfl
  have q1 := bc 1 _ rfl
  have q2 := bc 2 _ rfl
  have HBX := Lib.hid bx
  clear bx bc ha3 r1 r2 r3 hsm hnet hfb
  generalize plnOk p = q at *
  go_enter Tryz.func53, Tryz.ntmps53
  go_wp2_with fail
  generalize w.alloc (.cells #[.slice a1 m1 c1, .slice a2 m2 c2, .slice a3 m3 c3] 41) = w1 at *
  have HNV1 := Lib.hid (HNV.out w1 HBX.out)
  cases hok : netOk p.n
  · have HF := Lib.hid (HX1.out hok)
    rw [hok] at HNV1
    refine HNV1.out.mono ?_
    rintro e w2 ⟨rfl, b2⟩
    have HB2 := Lib.hid (HBX.out.trans (b2.mono HBX.out.size))
    clear b2 hok
    go_wp2
    go_ret
    exact ⟨by rw [HF.out]; rfl, HB2.out⟩
  rw [hok] at HNV1
  refine HNV1.out.mono ?_
  rintro e w2 ⟨rfl, b2⟩
  have p2 := (b2.cell blt).trans q2
  have HB2 := Lib.hid b2
  clear b2
  by_cases h12 : m3 ≤ 12
  case neg =>
    have HF := Lib.hid (HX2.out h12)
    have hd : decide (12 < (m3 : Int)) = true := decide_eq_true (by omega)
    have hd2 : decide (12 < m3) = true := decide_eq_true (by omega)
    clear h12
    go_wp2
    go_ret
    exact ⟨by rw [HF.out]; rfl, HBX.out.trans (HB2.out.mono HBX.out.size)⟩
  have hd : decide (12 < (m3 : Int)) = false := decide_eq_false (by omega)
  have hd2 : decide (12 < m3) = false := decide_eq_false (by omega)
  go_wp2
  clear hd hd2
  go_loopw [3, 4] (fun i _ wr => ∃ k : Nat, k ≤ m3 ∧ i = .int .i64 k ∧ Hid (∀ i, i < k → ltOk p i = true) ∧ Hid (Below w1.heap.size w1 wr)) (fun i _ _ => m3 - (intOf i).toNat)
  case atStart => exact ⟨0, Nat.zero_le _, rfl, fun i hi => by omega, HB2.out⟩
  case round =>
    obtain ⟨k, hk, rfl, HK, HB⟩ := hrel
    by_cases hlt : k < m3
    · have hltI : (k : Int) < (m3 : Int) := by omega
      obtain ⟨b, off, rfl, hbs, hcs⟩ := HA.out (by omega)
      have HCS := Lib.hid hcs
      obtain ⟨u, e0, e1, e2, e3, e4, hru⟩ := hcs k hlt
      have BW := HBX.out.trans (HB.out.mono HBX.out.size)
      have HBW := Lib.hid BW
      have x0 := (BW.cell (p := ⟨b, off + k * 5, none⟩) hbs).trans e0
      have x1 := (BW.cell (p := ⟨b, off + k * 5 + 1, none⟩) hbs).trans e1
      have x2 := (BW.cell (p := ⟨b, off + k * 5 + 2, none⟩) hbs).trans e2
      have x3 := (BW.cell (p := ⟨b, off + k * 5 + 3, none⟩) hbs).trans e3
      have x4 := (BW.cell (p := ⟨b, off + k * 5 + 4, none⟩) hbs).trans e4
      have p0 := (HB.out.cell (p := ⟨w.heap.size, 0, none⟩) blt).trans q0
      have p1 := (HB.out.cell (p := ⟨w.heap.size, 1, none⟩) blt).trans q1
      have p2 := (HB.out.cell (p := ⟨w.heap.size, 2, none⟩) blt).trans q2
      have HRU := Lib.hid hru
      obtain ⟨au, cu, nu, -, rfl, -, -, -⟩ := hru.opn
      have HV := Lib.hid (show ltOk p k = (lgtOk p.n (p.ls[k]?.getD nilL) && (!(decide (0 < k) && decide ((p.ls[k]?.getD nilL).id ≤ (p.ls[k - 1]?.getD nilL).id)) && !((p.ls.take k).any fun y => collB y (p.ls[k]?.getD nilL)))) from rfl)
      have HNO := Lib.hid (HX3.out k hlt)
      have HST := Lib.hid (fun h => upto_succ HK.out (k := k) h)
      have HFK := Lib.hid (show (p.ls[k]?.getD nilL).fb.length ≤ 1100000 from HFB.out k)
      have HXC := Lib.hid (And.intro e0 (And.intro e1 (And.intro e2 (And.intro e3 e4))))
      clear hcs e0 e1 e2 e3 e4 BW hru
      generalize p.ls[k]?.getD nilL = l at *
      have HIL := Lib.hid (fun wx (hb : Below w.heap.size w wx) => l9Light_any (.slice a1 m1 c1) (.slice a2 m2 c2) (.slice au nu cu) p.n l wx (HNE.out.behind hb) hok (HRU.out.belowAll hb) HFK.out)
      cases hlo : lgtOk p.n l
      · have HF := Lib.hid (HNO.out (by rw [HV.out, hlo]; rfl))
        rw [hlo] at HIL
        go_wp2
        have j0 := rg p0
        have j1 := rg p1
        have j2 := rg p2
        have k0 := rg x0
        have k1 := rg x1
        have k2 := rg x2
        have k3 := rg x3
        have k4 := rg x4
        have HIL2 := Lib.hid (fun d os => HIL.out (grow (redrawn wr d) os) (HBW.out.trans ((below_regrown wr d os).mono HBW.out.size)))
        clear x0 x1 x2 x3 x4 p0 p1 p2
        refine wp_region_quiet_below (by kernel_rfl) (by kernel_rfl) ?_
        repeat (go_big_quiet_step (first | (go_at_call 80; exact Calls.regrown_of (HIL2.out _ _))))
        refine wpQuiet_nil ?_
        rintro _ ⟨⟨dq, osq⟩, rfl⟩
        go_wp2
        go_ret
        exact ⟨by rw [HF.out]; rfl, HBW.out.trans ((below_regrown _ dq osq).mono HBW.out.size)⟩
      have hbl : blkOk l.fi l.ct = true := by unfold lgtOk at hlo; simp only [Bool.and_eq_true] at hlo; exact hlo.2
      rw [hlo] at HIL HV
      have HNY := Lib.hid (fun h => take_any_no (zs := p.ls) (f := fun y => collB y l) (nil := nilL) (k := k) h)
      have HYY := Lib.hid (fun j h1 h2 h3 => take_any_yes (zs := p.ls) (f := fun y => collB y l) (nil := nilL) (k := k) (j := j) h1 h2 h3)
      clear hlo
      by_cases hk0 : k = 0
      · have hk0b : decide (0 < k) = false := decide_eq_false (by omega)
        have hk0c : decide (0 < (k : Int)) = false := decide_eq_false (by omega)
        have hv := HV.out
        rw [hk0b] at hv
        have HV2 := Lib.hid (show ltOk p k = !((p.ls.take k).any fun y => collB y l) by rw [hv]; rfl)
        clear hk0 hv HV
        go_wp2
        have j0 := rg p0
        have j1 := rg p1
        have j2 := rg p2
        have k0 := rg x0
        have k1 := rg x1
        have k2 := rg x2
        have k3 := rg x3
        have k4 := rg x4
        have HIL2 := Lib.hid (fun d os => HIL.out (grow (redrawn wr d) os) (HBW.out.trans ((below_regrown wr d os).mono HBW.out.size)))
        clear x0 x1 x2 x3 x4 p0 p1 p2
        refine wp_region_quiet_below (by kernel_rfl) (by kernel_rfl) ?_
        repeat (go_big_quiet_step (first | (go_at_call 80; exact Calls.regrown_of (HIL2.out _ _))))
        refine wpQuiet_nil ?_
        rintro _ ⟨⟨dq, osq⟩, rfl⟩
        have bq := below_regrown wr dq osq
        have HBQ := Lib.hid (HB.out.trans (bq.mono HB.out.size))
        generalize grow (redrawn wr dq) osq = w4 at *
        clear bq j0 j1 j2 k0 k1 k2 k3 k4
        go_wp2
        go_loopw [4] (fun i wi => ∃ j : Nat, j ≤ k ∧ i = .int .i64 j ∧ Hid (∀ i, i < j → collB (p.ls[i]?.getD nilL) l = false) ∧ Hid (Below w1.heap.size w1 wi)) (fun i _ => k - (intOf i).toNat)
        case atStart => exact ⟨0, Nat.zero_le _, rfl, fun i hi => by omega, HBQ.out⟩
        case round =>
          obtain ⟨j, hj, rfl, HJ, HBJ⟩ := hrel
          by_cases hjt : j < k
          · have hjI : (j : Int) < (k : Int) := by omega
            have hjm : j < m3 := by omega
            have hjmI : (j : Int) < (m3 : Int) := by omega
            obtain ⟨uj, e0, e1, e2, e3, e4, hrj⟩ := HCS.out j hjm
            obtain ⟨g0, g1, g2, g3, g4⟩ := HXC.out
            have BJ := HBX.out.trans (HBJ.out.mono HBX.out.size)
            have e0 := rg ((BJ.cell (p := ⟨b, off + j * 5, none⟩) hbs).trans e0)
            have e1 := rg ((BJ.cell (p := ⟨b, off + j * 5 + 1, none⟩) hbs).trans e1)
            have e2 := rg ((BJ.cell (p := ⟨b, off + j * 5 + 2, none⟩) hbs).trans e2)
            have e3 := rg ((BJ.cell (p := ⟨b, off + j * 5 + 3, none⟩) hbs).trans e3)
            have e4 := rg ((BJ.cell (p := ⟨b, off + j * 5 + 4, none⟩) hbs).trans e4)
            have g0 := rg ((BJ.cell (p := ⟨b, off + k * 5, none⟩) hbs).trans g0)
            have g1 := rg ((BJ.cell (p := ⟨b, off + k * 5 + 1, none⟩) hbs).trans g1)
            have g2 := rg ((BJ.cell (p := ⟨b, off + k * 5 + 2, none⟩) hbs).trans g2)
            have g3 := rg ((BJ.cell (p := ⟨b, off + k * 5 + 3, none⟩) hbs).trans g3)
            have g4 := rg ((BJ.cell (p := ⟨b, off + k * 5 + 4, none⟩) hbs).trans g4)
            have p2 := rg ((HBJ.out.cell (p := ⟨w.heap.size, 2, none⟩) blt).trans q2)
            have HBJW := Lib.hid BJ
            have HCO := Lib.hid (fun d os => l9Collide_any uj (.slice au nu cu) (p.ls[j]?.getD nilL) l (grow (redrawn wr d) os) (hrj.belowAll (HBJW.out.trans ((below_regrown wr d os).mono HBJW.out.size))) (HRU.out.belowAll (HBJW.out.trans ((below_regrown wr d os).mono HBJW.out.size))) (ltOk_blk (HK.out j hjt)) hbl (HFB.out j))
            have HJS := Lib.hid (fun (h : collB (p.ls[j]?.getD nilL) l = false) => show ∀ i, i < j + 1 → collB (p.ls[i]?.getD nilL) l = false from fun i hi => by
              rcases Nat.lt_or_ge i j with e | e
              · exact HJ.out i e
              · have : i = j := by omega
                rw [this]; exact h)
            have HYJ := Lib.hid (HYY.out j hjt (by rw [HN3.out]; exact hjm))
            obtain ⟨aj, cj, nj, -, rfl, -, -, -⟩ := hrj.opn
            clear hrj BJ
            generalize p.ls[j]?.getD nilL = z at *
            generalize collB z l = co at *
            cases co
            · have HS := Lib.hid (HJS.out rfl)
              go_wp2
              refine wp_region_quiet_below (by kernel_rfl) (by kernel_rfl) ?_
              repeat (go_big_quiet_step (first | (go_at_call 81; exact Calls.regrown_of (HCO.out _ _))))
              refine wpQuiet_nil ?_
              rintro _ ⟨⟨dr, osr⟩, rfl⟩
              go_wp2
              go_roundw
              case rel => exact ⟨j + 1, hjt, by go_num, HS.out, HBJ.out.trans ((below_regrown wr dr osr).mono HBJ.out.size)⟩
              case measure => simp [intOf]; omega
            · have HF := Lib.hid (HNO.out (by rw [HV2.out, HYJ.out rfl]; rfl))
              go_wp2
              refine wp_region_quiet_below (by kernel_rfl) (by kernel_rfl) ?_
              repeat (go_big_quiet_step (first | (go_at_call 81; exact Calls.regrown_of (HCO.out _ _))))
              refine wpQuiet_nil ?_
              rintro _ ⟨⟨dr, osr⟩, rfl⟩
              go_wp2
              go_ret
              exact ⟨by rw [HF.out]; rfl, HBX.out.trans ((HBJ.out.trans ((below_regrown wr dr osr).mono HBJ.out.size)).mono HBX.out.size)⟩
          · obtain rfl : k = j := by omega
            have HS := Lib.hid (HST.out (by rw [HV2.out, HNY.out HJ.out]; rfl))
            go_wp2
            go_roundw
            case rel => exact ⟨k + 1, hlt, by go_num, HS.out, HBJ.out⟩
            case measure => simp [intOf]; omega
      · obtain ⟨k', hk'⟩ : ∃ k', k = k' + 1 := ⟨k - 1, by omega⟩
        have hkk : k - 1 = k' := by omega
        have hk0b : decide (0 < k) = true := decide_eq_true (by omega)
        have hk0c : decide (0 < (k : Int)) = true := decide_eq_true (by omega)
        have hkp : (0 : Int) < (k : Int) := by omega
        have f1w : IntKind.i64.wrap ((k : Int) - 1) = (k' : Int) := by rw [IntWalk.i64_in _ (by omega)]; omega
        have f2w : (k' : Int) < (m3 : Int) := by omega
        have f3w : k' < m3 := by omega
        obtain ⟨u', t0, -, -, -, -, -⟩ := HCS.out k' f3w
        have t0 := (HBW.out.cell (p := ⟨b, off + k' * 5, none⟩) hbs).trans t0
        have hv := HV.out
        rw [hkk, hk0b] at hv
        generalize hpid : (p.ls[k']?.getD nilL).id = pid at *
        have HV1 := Lib.hid hv
        clear hk0 hv HV hk' hkk hpid
        cases hge : decide (l.id ≤ pid)
        case true =>
          have HF := Lib.hid (HNO.out (by rw [HV1.out, hge]; rfl))
          clear HV1 HST HNO
          go_wp2
          have j0 := rg p0
          have j1 := rg p1
          have j2 := rg p2
          have k0 := rg x0
          have k1 := rg x1
          have k2 := rg x2
          have k3 := rg x3
          have k4 := rg x4
          have jt := rg t0
          have HIL2 := Lib.hid (fun d os => HIL.out (grow (redrawn wr d) os) (HBW.out.trans ((below_regrown wr d os).mono HBW.out.size)))
          clear x0 x1 x2 x3 x4 p0 p1 p2
          refine wp_region_quiet_below (by kernel_rfl) (by kernel_rfl) ?_
          repeat (go_big_quiet_step (first | (go_at_call 80; exact Calls.regrown_of (HIL2.out _ _))))
          refine wpQuiet_nil ?_
          rintro _ ⟨⟨dq, osq⟩, rfl⟩
          have bq := below_regrown wr dq osq
          have HBQ := Lib.hid (HB.out.trans (bq.mono HB.out.size))
          generalize grow (redrawn wr dq) osq = w4 at *
          clear bq j0 j1 j2 k0 k1 k2 k3 k4
          go_wp2
          go_ret
          exact ⟨by rw [HF.out]; rfl, HBX.out.trans (HBQ.out.mono HBX.out.size)⟩
        have HV2 := Lib.hid (show ltOk p k = !((p.ls.take k).any fun y => collB y l) by rw [HV1.out, hge]; rfl)
        clear HV1
        go_wp2
        have j0 := rg p0
        have j1 := rg p1
        have j2 := rg p2
        have k0 := rg x0
        have k1 := rg x1
        have k2 := rg x2
        have k3 := rg x3
        have k4 := rg x4
        have jt := rg t0
        have HIL2 := Lib.hid (fun d os => HIL.out (grow (redrawn wr d) os) (HBW.out.trans ((below_regrown wr d os).mono HBW.out.size)))
        clear x0 x1 x2 x3 x4 p0 p1 p2
        refine wp_region_quiet_below (by kernel_rfl) (by kernel_rfl) ?_
        repeat (go_big_quiet_step (first | (go_at_call 80; exact Calls.regrown_of (HIL2.out _ _))))
        refine wpQuiet_nil ?_
        rintro _ ⟨⟨dq, osq⟩, rfl⟩
        have bq := below_regrown wr dq osq
        have HBQ := Lib.hid (HB.out.trans (bq.mono HB.out.size))
        generalize grow (redrawn wr dq) osq = w4 at *
        clear bq j0 j1 j2 k0 k1 k2 k3 k4
        go_wp2
        go_loopw [4] (fun i wi => ∃ j : Nat, j ≤ k ∧ i = .int .i64 j ∧ Hid (∀ i, i < j → collB (p.ls[i]?.getD nilL) l = false) ∧ Hid (Below w1.heap.size w1 wi)) (fun i _ => k - (intOf i).toNat)
        case atStart => exact ⟨0, Nat.zero_le _, rfl, fun i hi => by omega, HBQ.out⟩
        case round =>
          obtain ⟨j, hj, rfl, HJ, HBJ⟩ := hrel
          by_cases hjt : j < k
          · have hjI : (j : Int) < (k : Int) := by omega
            have hjm : j < m3 := by omega
            have hjmI : (j : Int) < (m3 : Int) := by omega
            obtain ⟨uj, e0, e1, e2, e3, e4, hrj⟩ := HCS.out j hjm
            obtain ⟨g0, g1, g2, g3, g4⟩ := HXC.out
            have BJ := HBX.out.trans (HBJ.out.mono HBX.out.size)
            have e0 := rg ((BJ.cell (p := ⟨b, off + j * 5, none⟩) hbs).trans e0)
            have e1 := rg ((BJ.cell (p := ⟨b, off + j * 5 + 1, none⟩) hbs).trans e1)
            have e2 := rg ((BJ.cell (p := ⟨b, off + j * 5 + 2, none⟩) hbs).trans e2)
            have e3 := rg ((BJ.cell (p := ⟨b, off + j * 5 + 3, none⟩) hbs).trans e3)
            have e4 := rg ((BJ.cell (p := ⟨b, off + j * 5 + 4, none⟩) hbs).trans e4)
            have g0 := rg ((BJ.cell (p := ⟨b, off + k * 5, none⟩) hbs).trans g0)
            have g1 := rg ((BJ.cell (p := ⟨b, off + k * 5 + 1, none⟩) hbs).trans g1)
            have g2 := rg ((BJ.cell (p := ⟨b, off + k * 5 + 2, none⟩) hbs).trans g2)
            have g3 := rg ((BJ.cell (p := ⟨b, off + k * 5 + 3, none⟩) hbs).trans g3)
            have g4 := rg ((BJ.cell (p := ⟨b, off + k * 5 + 4, none⟩) hbs).trans g4)
            have p2 := rg ((HBJ.out.cell (p := ⟨w.heap.size, 2, none⟩) blt).trans q2)
            have HBJW := Lib.hid BJ
            have HCO := Lib.hid (fun d os => l9Collide_any uj (.slice au nu cu) (p.ls[j]?.getD nilL) l (grow (redrawn wr d) os) (hrj.belowAll (HBJW.out.trans ((below_regrown wr d os).mono HBJW.out.size))) (HRU.out.belowAll (HBJW.out.trans ((below_regrown wr d os).mono HBJW.out.size))) (ltOk_blk (HK.out j hjt)) hbl (HFB.out j))
            have HJS := Lib.hid (fun (h : collB (p.ls[j]?.getD nilL) l = false) => show ∀ i, i < j + 1 → collB (p.ls[i]?.getD nilL) l = false from fun i hi => by
              rcases Nat.lt_or_ge i j with e | e
              · exact HJ.out i e
              · have : i = j := by omega
                rw [this]; exact h)
            have HYJ := Lib.hid (HYY.out j hjt (by rw [HN3.out]; exact hjm))
            obtain ⟨aj, cj, nj, -, rfl, -, -, -⟩ := hrj.opn
            clear hrj BJ
            generalize p.ls[j]?.getD nilL = z at *
            generalize collB z l = co at *
            cases co
            · have HS := Lib.hid (HJS.out rfl)
              go_wp2
              refine wp_region_quiet_below (by kernel_rfl) (by kernel_rfl) ?_
              repeat (go_big_quiet_step (first | (go_at_call 81; exact Calls.regrown_of (HCO.out _ _))))
              refine wpQuiet_nil ?_
              rintro _ ⟨⟨dr, osr⟩, rfl⟩
              go_wp2
              go_roundw
              case rel => exact ⟨j + 1, hjt, by go_num, HS.out, HBJ.out.trans ((below_regrown wr dr osr).mono HBJ.out.size)⟩
              case measure => simp [intOf]; omega
            · have HF := Lib.hid (HNO.out (by rw [HV2.out, HYJ.out rfl]; rfl))
              go_wp2
              refine wp_region_quiet_below (by kernel_rfl) (by kernel_rfl) ?_
              repeat (go_big_quiet_step (first | (go_at_call 81; exact Calls.regrown_of (HCO.out _ _))))
              refine wpQuiet_nil ?_
              rintro _ ⟨⟨dr, osr⟩, rfl⟩
              go_wp2
              go_ret
              exact ⟨by rw [HF.out]; rfl, HBX.out.trans ((HBJ.out.trans ((below_regrown wr dr osr).mono HBJ.out.size)).mono HBX.out.size)⟩
          · obtain rfl : k = j := by omega
            have HS := Lib.hid (HST.out (by rw [HV2.out, HNY.out HJ.out]; rfl))
            go_wp2
            go_roundw
            case rel => exact ⟨k + 1, hlt, by go_num, HS.out, HBJ.out⟩
            case measure => simp [intOf]; omega
    · obtain rfl : m3 = k := by omega
      have p2 := (HB.out.cell (p := ⟨w.heap.size, 2, none⟩) blt).trans q2
      have HE := Lib.hid (HX4.out hok h12 HK.out)
      go_wp2
      go_ret
      exact ⟨by rw [HE.out]; rfl, HBX.out.trans (HB.out.mono HBX.out.size)⟩
end Go.Proofs.YtonpcgdnfclidaaGreatDoor
namespace Go.Proofs.YtonpcgdnfclidaaGreatDoor
open Go.RowKit Go.Sort
set_option maxRecDepth 100000

set_option maxHeartbeats 1600000 in
theorem implCon_any (v : Value) (c : Con) (w : World) (h : ConR w v c) (hfb : ∀ i : Nat, (lgA c.p i).fb.length ≤ 1100000) (hs : c.d.size + c.e.size ≤ 1048576) (ht : TabOk w) (hm : MaxOk w) :
    Calls Tryz.prog 9 #[v] w fun e w' => e = .returned (.bool (conOk c)) ∧ Below w.heap.size w w' := by
  obtain ⟨a1, n1, c1, a2, n2, c2, a3, n3, c3, a4, n4, c4, rfl, hp, hf⟩ := h.form
  obtain ⟨p, fm, d, e, n⟩ := c
  obtain ⟨bx, bc, blt, -⟩ := box_facts w #[.slice a1 n1 c1, .slice a2 n2 c2, .slice a3 n3 c3, .slice a4 n4 c4, .string d, .string e, .int .i64 n] 45
  have q3 := bc 3 _ rfl
  have q4 := bc 4 _ rfl
  have q5 := bc 5 _ rfl
  have q6 := bc 6 _ rfl
  have HV1 := Lib.hid (IsValidPlan_any _ p _ (hp.behind bx) hfb)
  have HV2 := Lib.hid (fun w' (hb : Below w.heap.size w w') => implFormats_any _ fm w' (hf.behind hb))
  have HV3 := Lib.hid (fun w' (hb : Below w.heap.size w w') => implVl_any d e n hs w' (ht.below hb) (hm.below hb))
  have HB := Lib.hid bx
  have HF := Lib.hid (show conOk ⟨p, fm, d, e, n⟩ = (plnOk p && (fmOk fm && vlB d e n)) from rfl)
  unfold VlPost at HV3
  clear h bx bc hp hf hfb hs ht hm
  generalize conOk ⟨p, fm, d, e, n⟩ = q at *
  generalize plnOk p = x at *
  generalize fmOk fm = y at *
  generalize vlB d e n = z at *
  go_enter Tryz.func9, Tryz.ntmps9
  go_wp2_with fail
  generalize w.alloc (.cells #[.slice a1 n1 c1, .slice a2 n2 c2, .slice a3 n3 c3, .slice a4 n4 c4, .string d, .string e, .int .i64 n] 45) = w1 at *
  refine HV1.out.mono ?_
  rintro e1 w2 ⟨rfl, b2⟩
  have p3 := (b2.cell (p := ⟨w.heap.size, 3, none⟩) blt).trans q3
  have p4 := (b2.cell (p := ⟨w.heap.size, 4, none⟩) blt).trans q4
  have p5 := (b2.cell (p := ⟨w.heap.size, 5, none⟩) blt).trans q5
  have p6 := (b2.cell (p := ⟨w.heap.size, 6, none⟩) blt).trans q6
  have hlt2 := Nat.lt_of_lt_of_le blt b2.size
  have HB2 := Lib.hid (HB.out.trans (b2.mono HB.out.size))
  clear b2 q3 q4 q5 q6
  cases x
  · go_wp2
    go_ret
    exact ⟨by rw [HF.out]; rfl, HB2.out⟩
  go_wp2_with fail
  refine (HV2.out _ HB2.out).mono ?_
  rintro e1 w3 ⟨rfl, b3⟩
  have t4 := (b3.cell (p := ⟨w.heap.size, 4, none⟩) hlt2).trans p4
  have t5 := (b3.cell (p := ⟨w.heap.size, 5, none⟩) hlt2).trans p5
  have t6 := (b3.cell (p := ⟨w.heap.size, 6, none⟩) hlt2).trans p6
  have HB3 := Lib.hid (HB2.out.trans (b3.mono HB2.out.size))
  clear b3 p3 p4 p5 p6
  cases y
  · go_wp2
    go_ret
    exact ⟨by rw [HF.out]; rfl, HB3.out⟩
  go_wp2_with fail
  refine (HV3.out _ HB3.out).mono ?_
  rintro e1 w4 ⟨rfl, b4⟩
  have HB4 := Lib.hid (HB3.out.trans (b4.mono HB3.out.size))
  clear b4 t4 t5 t6
  go_wp2
  go_ret
  exact ⟨by rw [HF.out]; rfl, HB4.out⟩
set_option maxHeartbeats 1600000 in
theorem l28Good_any (v : Value) (c : Con) (w : World) (h : ConR w v c) (hfb : ∀ i : Nat, (lgA c.p i).fb.length ≤ 1100000) (hs : c.d.size + c.e.size ≤ 1048576) :
    Calls Tryz.prog 27 #[v] w fun e w' => e = .returned (.bool (conOk c)) ∧ Below w.heap.size w w' := by
  obtain ⟨a1, n1, c1, a2, n2, c2, a3, n3, c3, a4, n4, c4, rfl, hp, hf⟩ := h.form
  obtain ⟨p, fm, d, e, n⟩ := c
  obtain ⟨bx, bc, blt, -⟩ := box_facts w #[.slice a1 n1 c1, .slice a2 n2 c2, .slice a3 n3 c3, .slice a4 n4 c4, .string d, .string e, .int .i64 n] 45
  have q3 := bc 3 _ rfl
  have q4 := bc 4 _ rfl
  have q5 := bc 5 _ rfl
  have q6 := bc 6 _ rfl
  have HV1 := Lib.hid (l9Good_any _ p _ (hp.behind bx) hfb)
  have HV2 := Lib.hid (fun w' (hb : Below w.heap.size w w') => l10Formats_any _ fm w' (hf.behind hb))
  have HV3 := Lib.hid (fun w' (_hb : Below w.heap.size w w') => l27Log_any d e n hs w')
  have HB := Lib.hid bx
  have HF := Lib.hid (show conOk ⟨p, fm, d, e, n⟩ = (plnOk p && (fmOk fm && vlB d e n)) from rfl)
  unfold VlPost at HV3
  clear h bx bc hp hf hfb hs
  generalize conOk ⟨p, fm, d, e, n⟩ = q at *
  generalize plnOk p = x at *
  generalize fmOk fm = y at *
  generalize vlB d e n = z at *
  go_enter Tryz.func27, Tryz.ntmps27
  go_wp2_with fail
  generalize w.alloc (.cells #[.slice a1 n1 c1, .slice a2 n2 c2, .slice a3 n3 c3, .slice a4 n4 c4, .string d, .string e, .int .i64 n] 45) = w1 at *
  refine HV1.out.mono ?_
  rintro e1 w2 ⟨rfl, b2⟩
  have p3 := (b2.cell (p := ⟨w.heap.size, 3, none⟩) blt).trans q3
  have p4 := (b2.cell (p := ⟨w.heap.size, 4, none⟩) blt).trans q4
  have p5 := (b2.cell (p := ⟨w.heap.size, 5, none⟩) blt).trans q5
  have p6 := (b2.cell (p := ⟨w.heap.size, 6, none⟩) blt).trans q6
  have hlt2 := Nat.lt_of_lt_of_le blt b2.size
  have HB2 := Lib.hid (HB.out.trans (b2.mono HB.out.size))
  clear b2 q3 q4 q5 q6
  cases x
  · go_wp2
    go_ret
    exact ⟨by rw [HF.out]; rfl, HB2.out⟩
  go_wp2_with fail
  refine (HV2.out _ HB2.out).mono ?_
  rintro e1 w3 ⟨rfl, b3⟩
  have t4 := (b3.cell (p := ⟨w.heap.size, 4, none⟩) hlt2).trans p4
  have t5 := (b3.cell (p := ⟨w.heap.size, 5, none⟩) hlt2).trans p5
  have t6 := (b3.cell (p := ⟨w.heap.size, 6, none⟩) hlt2).trans p6
  have HB3 := Lib.hid (HB2.out.trans (b3.mono HB2.out.size))
  clear b3 p3 p4 p5 p6
  cases y
  · go_wp2
    go_ret
    exact ⟨by rw [HF.out]; rfl, HB3.out⟩
  go_wp2_with fail
  refine (HV3.out _ HB3.out).mono ?_
  rintro e1 w4 ⟨rfl, b4⟩
  have HB4 := Lib.hid (HB3.out.trans (b4.mono HB3.out.size))
  clear b4 t4 t5 t6
  go_wp2
  go_ret
  exact ⟨by rw [HF.out]; rfl, HB4.out⟩
theorem specCon_any (v : Value) (c : Con) (w : World) (h : ConR w v c) (hfb : ∀ i : Nat, (lgA c.p i).fb.length ≤ 1100000) (hs : c.d.size + c.e.size ≤ 1048576) :
    Calls Tryz.prog 7 #[v] w fun e w' => e = .returned (.bool (conOk c)) ∧ Below w.heap.size w w' := by
  obtain ⟨a1, n1, c1, a2, n2, c2, a3, n3, c3, a4, n4, c4, rfl, -, -⟩ := h.form
  obtain ⟨bx, -, -, -⟩ := box_facts w #[.slice a1 n1 c1, .slice a2 n2 c2, .slice a3 n3 c3, .slice a4 n4 c4, .string c.d, .string c.e, .int .i64 c.n] 45
  have HV := Lib.hid (l28Good_any _ c _ (h.behind bx) hfb hs)
  have HB := Lib.hid bx
  clear h bx hfb hs
  generalize conOk c = q at *
  go_enter Tryz.func7, Tryz.ntmps7
  go_wp2_with fail
  refine HV.out.mono ?_
  rintro e1 w2 ⟨rfl, b2⟩
  have HB2 := Lib.hid (HB.out.trans (b2.mono HB.out.size))
  clear b2
  go_wp2
  go_ret
  exact ⟨rfl, HB2.out⟩
end Go.Proofs.YtonpcgdnfclidaaGreatDoor
