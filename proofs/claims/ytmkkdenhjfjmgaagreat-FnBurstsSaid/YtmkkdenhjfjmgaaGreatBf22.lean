/- Joined: XDrq XDrs. -/
import Derived.Test.YtmkkdenhjfjmgaaGreatBf21
import Derived.Test.YtmkkdenhjfjmgaaGreatBf11
import Derived.Test.YtmkkdenhjfjmgaaGreatBf04
namespace Go.Proofs.YtmkkdenhjfjmgaaGreat
open Go.RowKit Go.Sort
set_option maxRecDepth 100000

set_option maxHeartbeats 12800000 in
theorem anyPlan_any (B : Nat) (c : Value) (K : Nat) (w : World) (h : Cs w B c K) (hk : K ≤ 2000000000000000) :
    Calls Tryz.prog 75 #[ptr B] w (PvP (fun _ ps => ps.length ≤ 30) 900 w B c K) := by
  have b1 := (Below.refl w.heap.size w).alloc (Nat.le_refl _) (.cells #[.slice none 0 0, .slice none 0 0, .slice none 0 0] 38)
  have k1 := heap_alloc_new w (.cells #[.slice none 0 0, .slice none 0 0, .slice none 0 0] 38)
  have HC1 := Lib.hid (h.here.below b1)
  have HK1 := Lib.hid k1
  have z1 : (w.alloc (.cells #[.slice none 0 0, .slice none 0 0, .slice none 0 0] 38)).heap.size = w.heap.size + 1 := by simp
  have HZ1 := Lib.hid z1
  obtain ⟨NP, hNP⟩ : ∃ NP, NP = PvP (fun _ ps => ps.length ≤ 30) 900 w B c K := ⟨_, rfl⟩
  rw [← hNP]
  have hBw := h.lt.1
  clear h b1 k1 z1
  go_enter Tryz.func75, Tryz.ntmps75
  go_wp2_with fail
  generalize w.alloc (.cells #[.slice none 0 0, .slice none 0 0, .slice none 0 0] 38) = w1 at *
  have hz1 := HZ1.out
  refine (plan_any B c K w1 HC1.out.st (by omega)).mono ?_
  rintro e w2 ⟨u1, u2, u3, n, ps, rfl, ⟨hn9, hp8⟩, hd, hc2⟩
  obtain ⟨⟨a1, c1, rfl⟩, ⟨a2, c2, rfl⟩⟩ := hd.n.slices
  obtain ⟨a3, c3, rfl⟩ := row_form0 hd.l.row
  have hs2 := hc2.size
  have CC := Lib.hid (show PvB w1 (w2.alloc (.cells #[.slice a1 n.ns.length c1, .slice a2 n.fs.length c2, .slice a3 ps.length c3] 38)) B c (K + 500) w2.heap.size (.slice a1 n.ns.length c1) (.slice a2 n.fs.length c2) (.slice a3 ps.length c3) n ps from
    ⟨hc2.alloc _, heap_alloc_new _ _, hd.below ((Below.refl _ _).alloc (Nat.le_refl _) _), hs2, fun e => by have := (hd.lt e).2; omega⟩)
  have HO := Lib.hid (CC.out.cs.blk HK1.out (by omega))
  clear hd hc2
  go_upto_region 2 with fail
  generalize w2.heap.size = bP at *
  generalize w2.alloc (.cells #[.slice a1 n.ns.length c1, .slice a2 n.fs.length c2, .slice a3 ps.length c3] 38) = w3 at *
  have y2 := blkc CC.out.box (show _ = some (Value.slice a3 ps.length c3) from rfl) (j := 2)
  by_cases hp0 : ps.length = 0
  · have hp0I : (ps.length : Int) = 0 := by omega
    rw [hp0] at y2
    have y0 := blkc CC.out.box (show _ = some (Value.slice a1 n.ns.length c1) from rfl) (j := 0)
    have y1 := blkc CC.out.box (show _ = some (Value.slice a2 n.fs.length c2) from rfl) (j := 1)
    have z0 := blkc HO.out (show _ = some (Value.slice none 0 0) from rfl) (j := 0)
    have z1 := blkc HO.out (show _ = some (Value.slice none 0 0) from rfl) (j := 1)
    have z2 := blkc HO.out (show _ = some (Value.slice none 0 0) from rfl) (j := 2)
    have f0 : w3.frozen? ⟨w.heap.size, 0, none⟩ = false := by have x2 := HO.out; simp only [World.frozen?, x2]; rfl
    have f1 : w3.frozen? ⟨w.heap.size, 1, none⟩ = false := by have x2 := HO.out; simp only [World.frozen?, x2]; rfl
    have f2 : w3.frozen? ⟨w.heap.size, 2, none⟩ = false := by have x2 := HO.out; simp only [World.frozen?, x2]; rfl
    go_wp2_with fail
    subst hNP
    have HH := PvB.done (m := 900) (K := K) (Z := fun _ ps => ps.length ≤ 30) CC.out HC1.out HZ1.out (by omega) CC.out.d.len
    rw [hp0] at HH
    exact bodyPost_ret (v := .agg #[.slice a1 n.ns.length c1, .slice a2 n.fs.length c2, .slice a3 0 c3]) (by simp [results, Tryz.results75, go_sem, z0, z1, z2]) rfl HH
  · have hp0I : ¬ (ps.length : Int) = 0 := by omega
    go_wp2_with fail
    refine (CC.out.pick (by omega) (ps.length : Int) (by omega) (by omega)).mono ?_
    rintro e w4 ⟨xi, x0, x1, rfl, CC4, hc4⟩
    obtain ⟨i, rfl⟩ := Int.eq_ofNat_of_zero_le x0
    have hi : i < ps.length := by omega
    have hiI : (i : Int) < (ps.length : Int) := by omega
    have hB := HC1.out.1.1
    have HO4 := Lib.hid (hc4.blk HO.out (by omega))
    obtain ⟨g3, rfl, hg3, r0, r1, r2, r3, r4⟩ := CC4.out.d.l.at i hi
    have hmem : ps[i]?.getD nilLV ∈ ps := by rw [List.getElem?_eq_getElem hi]; exact List.getElem_mem hi
    have hel := CC4.out.d.l.els _ hmem
    have y2 := blkc CC4.out.box (show _ = some (Value.slice (some ⟨g3, 0, none⟩) ps.length c3) from rfl) (j := 2)
    have CD := Lib.hid (PvX.begin (x := (ps[i]?.getD nilLV).1) (v := (ps[i]?.getD nilLV).2) CC4.out hel.1 hel.2.2 hel.2.1 (fun e => CC4.out.ne (.inr (.inr (.inr ⟨_, hmem, e⟩)))) HO4.out (by omega))
    clear hmem
    generalize ps[i]?.getD nilLV = y at *
    obtain ⟨⟨xid, xst, xfb, xfi, xct⟩, vx⟩ := y
    simp only at r0 r1 r2 r3 r4 hel CD
    obtain ⟨ax, cx, rfl⟩ := row_form0 hel.1
    clear CC hc4 HO HO4 x0 x1 hel
    go_upto_region 6 with fail
    generalize w4.heap.size = bX at *
    generalize w4.alloc (.cells #[.int .i64 xid, .int .i64 xst, .slice ax xfb.length cx, .int .i64 xfi, .int .i64 xct] 94) = w5 at *
    clear CC4 r0 r1 r2 r3 r4 y2
    go_wp2_with fail
    refine (CD.out.pick hBw (by omega) 24 (by omega) (by omega)).mono ?_
    rintro e w6 ⟨k, k0, k1, rfl, CC⟩
    clear CD
    have hlX := CC.out.ltX
    have hlW := CC.out.pb.cs.size
    have hbX := CC.out.hb
    have hbP := CC.out.pb.hb
    by_cases e0 : k = 0
    · subst e0
      have CA := Lib.hid (CC.out.below ((Below.refl _ _).alloc (Nat.le_refl _) (.cells #[.int .i64 0, .int .i64 999, .int .i64 1000, .int .i64 1, .int .i64 4] 3)))
      have HR := Lib.hid (lit_rng (n := 5) (lo := 0) (hi := 1000) (heap_alloc_new w6 (.cells #[.int .i64 0, .int .i64 999, .int .i64 1000, .int .i64 1, .int .i64 4] 3)) (by
        intro j hj
        rcases j with _ | _ | _ | _ | _ | j
        · exact ⟨0, by omega, by omega, rfl⟩
        · exact ⟨999, by omega, by omega, rfl⟩
        · exact ⟨1000, by omega, by omega, rfl⟩
        · exact ⟨1, by omega, by omega, rfl⟩
        · exact ⟨4, by omega, by omega, rfl⟩
        · omega))
      go_wp2_with fail
      refine (amongC B c _ w6.heap.size 5 5 0 1000 _ CA.out.pb.cs.st (by omega) (by omega) (by omega) (by omega) HR.out).mono ?_
      rintro e w7 ⟨y, y0, y1, rfl, hc7, -⟩
      have C7 := Lib.hid (CA.out.call hBw hc7)
      have C8 := Lib.hid (C7.out.fld (x' := ⟨y, xst, xfb, xfi, xct⟩) 0 y rfl rfl)
      have q0 := blkc C7.out.xbox (show _ = some (Value.int .i64 xid) from rfl) (j := 0)
      have q1 := C7.out.frzX 0
      clear CC CA HR hc7
      go_upto_region 23 with fail
      generalize w7.setCell ⟨bX, 0, none⟩ (.int .i64 y) = w8 at *
      clear q0 q1 C7
      have hi9 : i < ps.length := by omega
      have hi9I : (i : Int) < ((ps.length : Nat) : Int) := by omega
      have CZ := Lib.hid (C8.out.pb.setL (g3 := g3) (m3 := ps.length) (c3 := c3) rfl rfl hi9 C8.out.xr C8.out.xa C8.out.xl C8.out.xn.2)
      have p0 := blkc C8.out.xbox (show _ = some (Value.int .i64 (y)) from rfl) (j := 0)
      have p1 := blkc C8.out.xbox (show _ = some (Value.int .i64 (xst)) from rfl) (j := 1)
      have p2 := blkc C8.out.xbox (show _ = some (.slice ax xfb.length cx) from rfl) (j := 2)
      have p3 := blkc C8.out.xbox (show _ = some (Value.int .i64 (xfi)) from rfl) (j := 3)
      have p4 := blkc C8.out.xbox (show _ = some (Value.int .i64 (xct)) from rfl) (j := 4)
      have y2 := blkc C8.out.pb.box (show _ = some (Value.slice (some ⟨g3, 0, none⟩) (ps.length) c3) from rfl) (j := 2)
      have l0 := C8.out.pb.frz3 (g := g3) rfl (i * 5)
      have l1 := C8.out.pb.frz3 (g := g3) rfl (i * 5 + 1)
      have l2 := C8.out.pb.frz3 (g := g3) rfl (i * 5 + 2)
      have l3 := C8.out.pb.frz3 (g := g3) rfl (i * 5 + 3)
      have l4 := C8.out.pb.frz3 (g := g3) rfl (i * 5 + 4)
      obtain ⟨v0, k0'⟩ := C8.out.pb.cel3 (g := g3) rfl rfl i hi9 0 (by omega)
      obtain ⟨v1, k1'⟩ := C8.out.pb.cel3 (g := g3) rfl rfl i hi9 1 (by omega)
      obtain ⟨v2, k2'⟩ := C8.out.pb.cel3 (g := g3) rfl rfl i hi9 2 (by omega)
      obtain ⟨v3, k3'⟩ := C8.out.pb.cel3 (g := g3) rfl rfl i hi9 3 (by omega)
      obtain ⟨v4, k4'⟩ := C8.out.pb.cel3 (g := g3) rfl rfl i hi9 4 (by omega)
      rw [Nat.add_zero] at k0'
      have hg3 := (C8.out.pb.d.l.row.lt g3 rfl).1
      have hz9 := C8.out.hz
      have HO9 := Lib.hid (show (((((((w8).setCell ⟨g3, i * 5, none⟩ (.int .i64 (y))).setCell ⟨g3, i * 5 + 1, none⟩ (.int .i64 (xst))).setCell ⟨g3, i * 5 + 2, none⟩ (.slice ax xfb.length cx)).setCell ⟨g3, i * 5 + 3, none⟩ (.int .i64 (xfi))).setCell ⟨g3, i * 5 + 4, none⟩ (.int .i64 (xct)))).heap[w.heap.size]? = some (.cells #[.slice none 0 0, .slice none 0 0, .slice none 0 0] 38 (0, 0)) from by
        rw [heap_setCell_other _ ⟨g3, i * 5 + 4, none⟩ w.heap.size _ (show w.heap.size ≠ g3 by omega), heap_setCell_other _ ⟨g3, i * 5 + 3, none⟩ w.heap.size _ (show w.heap.size ≠ g3 by omega), heap_setCell_other _ ⟨g3, i * 5 + 2, none⟩ w.heap.size _ (show w.heap.size ≠ g3 by omega), heap_setCell_other _ ⟨g3, i * 5 + 1, none⟩ w.heap.size _ (show w.heap.size ≠ g3 by omega), heap_setCell_other _ ⟨g3, i * 5, none⟩ w.heap.size _ (show w.heap.size ≠ g3 by omega)]
        exact C8.out.out)
      go_upto_region 24 with fail
      clear l0 l1 l2 l3 l4 k0' k1' k2' k3' k4' p0 p1 p2 p3 p4 y2 hi9 hi9I hg3 hz9
      dsimp only at CZ
      generalize ((((((w8).setCell ⟨g3, i * 5, none⟩ (.int .i64 (y))).setCell ⟨g3, i * 5 + 1, none⟩ (.int .i64 (xst))).setCell ⟨g3, i * 5 + 2, none⟩ (.slice ax xfb.length cx)).setCell ⟨g3, i * 5 + 3, none⟩ (.int .i64 (xfi))).setCell ⟨g3, i * 5 + 4, none⟩ (.int .i64 (xct))) = wz at *
      have z0 := blkc HO9.out (show _ = some (Value.slice none 0 0) from rfl) (j := 0)
      have z1 := blkc HO9.out (show _ = some (Value.slice none 0 0) from rfl) (j := 1)
      have z2 := blkc HO9.out (show _ = some (Value.slice none 0 0) from rfl) (j := 2)
      have f0 : wz.frozen? ⟨w.heap.size, 0, none⟩ = false := by have x2 := HO9.out; simp only [World.frozen?, x2]; rfl
      have f1 : wz.frozen? ⟨w.heap.size, 1, none⟩ = false := by have x2 := HO9.out; simp only [World.frozen?, x2]; rfl
      have f2 : wz.frozen? ⟨w.heap.size, 2, none⟩ = false := by have x2 := HO9.out; simp only [World.frozen?, x2]; rfl
      have y0 := blkc CZ.out.box (show _ = some (.slice a1 n.ns.length c1) from rfl) (j := 0)
      have y1 := blkc CZ.out.box (show _ = some (.slice a2 n.fs.length c2) from rfl) (j := 1)
      have y2 := blkc CZ.out.box (show _ = some (Value.slice (some ⟨g3, 0, none⟩) (ps.length) c3) from rfl) (j := 2)
      go_wp2_with fail
      subst hNP
      have HH := PvB.done (m := 900) (K := K) (Z := fun _ ps => ps.length ≤ 30) CZ.out HC1.out HZ1.out (by omega) CZ.out.d.len
      exact bodyPost_ret (v := .agg #[.slice a1 n.ns.length c1, .slice a2 n.fs.length c2, .slice (some ⟨g3, 0, none⟩) (ps.length) c3]) (by simp [results, Tryz.results75, go_sem, z0, z1, z2]) rfl HH
    by_cases e1 : k = 1
    · subst e1
      go_wp2_with fail
      refine (block_any B c _ w6 CC.out.pb.cs.st (by omega)).mono ?_
      rintro e w7 ⟨f, t, rfl, hc7⟩
      have C7 := Lib.hid (CC.out.call hBw hc7)
      have C8 := Lib.hid (C7.out.fld (x' := ⟨xid, xst, xfb, f, xct⟩) 3 f rfl rfl)
      have C9 := Lib.hid (C8.out.fld (x' := ⟨xid, xst, xfb, f, t⟩) 4 t rfl rfl)
      have q0 := blkc C7.out.xbox (show _ = some (Value.int .i64 xfi) from rfl) (j := 3)
      have q1 := C7.out.frzX 3
      have q2 := blkc C7.out.xbox (show _ = some (Value.int .i64 xct) from rfl) (j := 4)
      have q3 := C7.out.frzX 4
      clear CC hc7
      go_upto_region 23 with fail
      generalize (w7.setCell ⟨bX, 3, none⟩ (.int .i64 f)).setCell ⟨bX, 4, none⟩ (.int .i64 t) = w9 at *
      clear q0 q1 q2 q3 C7 C8
      have hi9 : i < ps.length := by omega
      have hi9I : (i : Int) < ((ps.length : Nat) : Int) := by omega
      have CZ := Lib.hid (C9.out.pb.setL (g3 := g3) (m3 := ps.length) (c3 := c3) rfl rfl hi9 C9.out.xr C9.out.xa C9.out.xl C9.out.xn.2)
      have p0 := blkc C9.out.xbox (show _ = some (Value.int .i64 (xid)) from rfl) (j := 0)
      have p1 := blkc C9.out.xbox (show _ = some (Value.int .i64 (xst)) from rfl) (j := 1)
      have p2 := blkc C9.out.xbox (show _ = some (.slice ax xfb.length cx) from rfl) (j := 2)
      have p3 := blkc C9.out.xbox (show _ = some (Value.int .i64 (f)) from rfl) (j := 3)
      have p4 := blkc C9.out.xbox (show _ = some (Value.int .i64 (t)) from rfl) (j := 4)
      have y2 := blkc C9.out.pb.box (show _ = some (Value.slice (some ⟨g3, 0, none⟩) (ps.length) c3) from rfl) (j := 2)
      have l0 := C9.out.pb.frz3 (g := g3) rfl (i * 5)
      have l1 := C9.out.pb.frz3 (g := g3) rfl (i * 5 + 1)
      have l2 := C9.out.pb.frz3 (g := g3) rfl (i * 5 + 2)
      have l3 := C9.out.pb.frz3 (g := g3) rfl (i * 5 + 3)
      have l4 := C9.out.pb.frz3 (g := g3) rfl (i * 5 + 4)
      obtain ⟨v0, k0'⟩ := C9.out.pb.cel3 (g := g3) rfl rfl i hi9 0 (by omega)
      obtain ⟨v1, k1'⟩ := C9.out.pb.cel3 (g := g3) rfl rfl i hi9 1 (by omega)
      obtain ⟨v2, k2'⟩ := C9.out.pb.cel3 (g := g3) rfl rfl i hi9 2 (by omega)
      obtain ⟨v3, k3'⟩ := C9.out.pb.cel3 (g := g3) rfl rfl i hi9 3 (by omega)
      obtain ⟨v4, k4'⟩ := C9.out.pb.cel3 (g := g3) rfl rfl i hi9 4 (by omega)
      rw [Nat.add_zero] at k0'
      have hg3 := (C9.out.pb.d.l.row.lt g3 rfl).1
      have hz9 := C9.out.hz
      have HO9 := Lib.hid (show (((((((w9).setCell ⟨g3, i * 5, none⟩ (.int .i64 (xid))).setCell ⟨g3, i * 5 + 1, none⟩ (.int .i64 (xst))).setCell ⟨g3, i * 5 + 2, none⟩ (.slice ax xfb.length cx)).setCell ⟨g3, i * 5 + 3, none⟩ (.int .i64 (f))).setCell ⟨g3, i * 5 + 4, none⟩ (.int .i64 (t)))).heap[w.heap.size]? = some (.cells #[.slice none 0 0, .slice none 0 0, .slice none 0 0] 38 (0, 0)) from by
        rw [heap_setCell_other _ ⟨g3, i * 5 + 4, none⟩ w.heap.size _ (show w.heap.size ≠ g3 by omega), heap_setCell_other _ ⟨g3, i * 5 + 3, none⟩ w.heap.size _ (show w.heap.size ≠ g3 by omega), heap_setCell_other _ ⟨g3, i * 5 + 2, none⟩ w.heap.size _ (show w.heap.size ≠ g3 by omega), heap_setCell_other _ ⟨g3, i * 5 + 1, none⟩ w.heap.size _ (show w.heap.size ≠ g3 by omega), heap_setCell_other _ ⟨g3, i * 5, none⟩ w.heap.size _ (show w.heap.size ≠ g3 by omega)]
        exact C9.out.out)
      go_upto_region 24 with fail
      clear l0 l1 l2 l3 l4 k0' k1' k2' k3' k4' p0 p1 p2 p3 p4 y2 hi9 hi9I hg3 hz9
      dsimp only at CZ
      generalize ((((((w9).setCell ⟨g3, i * 5, none⟩ (.int .i64 (xid))).setCell ⟨g3, i * 5 + 1, none⟩ (.int .i64 (xst))).setCell ⟨g3, i * 5 + 2, none⟩ (.slice ax xfb.length cx)).setCell ⟨g3, i * 5 + 3, none⟩ (.int .i64 (f))).setCell ⟨g3, i * 5 + 4, none⟩ (.int .i64 (t))) = wz at *
      have z0 := blkc HO9.out (show _ = some (Value.slice none 0 0) from rfl) (j := 0)
      have z1 := blkc HO9.out (show _ = some (Value.slice none 0 0) from rfl) (j := 1)
      have z2 := blkc HO9.out (show _ = some (Value.slice none 0 0) from rfl) (j := 2)
      have f0 : wz.frozen? ⟨w.heap.size, 0, none⟩ = false := by have x2 := HO9.out; simp only [World.frozen?, x2]; rfl
      have f1 : wz.frozen? ⟨w.heap.size, 1, none⟩ = false := by have x2 := HO9.out; simp only [World.frozen?, x2]; rfl
      have f2 : wz.frozen? ⟨w.heap.size, 2, none⟩ = false := by have x2 := HO9.out; simp only [World.frozen?, x2]; rfl
      have y0 := blkc CZ.out.box (show _ = some (.slice a1 n.ns.length c1) from rfl) (j := 0)
      have y1 := blkc CZ.out.box (show _ = some (.slice a2 n.fs.length c2) from rfl) (j := 1)
      have y2 := blkc CZ.out.box (show _ = some (Value.slice (some ⟨g3, 0, none⟩) (ps.length) c3) from rfl) (j := 2)
      go_wp2_with fail
      subst hNP
      have HH := PvB.done (m := 900) (K := K) (Z := fun _ ps => ps.length ≤ 30) CZ.out HC1.out HZ1.out (by omega) CZ.out.d.len
      exact bodyPost_ret (v := .agg #[.slice a1 n.ns.length c1, .slice a2 n.fs.length c2, .slice (some ⟨g3, 0, none⟩) (ps.length) c3]) (by simp [results, Tryz.results75, go_sem, z0, z1, z2]) rfl HH
    by_cases e2 : k = 2
    · subst e2
      have y0 := blkc CC.out.pb.box (show _ = some (Value.slice a1 n.ns.length c1) from rfl) (j := 0)
      have y1 := blkc CC.out.pb.box (show _ = some (Value.slice a2 n.fs.length c2) from rfl) (j := 1)
      go_wp2_with fail
      refine (anyRoute_any B w1.heap.size c _ _ _ n w6 CC.out.pb.cs.st (by omega) CC.out.pb.d.n (by omega)).mono ?_
      rintro e w7 ⟨st', v', xs', rfl, hl', hx', hc7⟩
      have C7 := Lib.hid (CC.out.call hBw hc7)
      obtain ⟨ar, cr, rfl⟩ := row_form0 hx'
      have C8 := Lib.hid (C7.out.rt (st := st') (hx'.base hlW) (by omega) (fun q h1 h2 => by have := (hx'.lt q h1).1; have := (CC.out.pb.d.l.row.lt q h2).2; omega) ⟨fun e => by have := (hx'.lt _ e).1; omega, fun e => by have := (hx'.lt _ e).1; have := CC.out.pb.lt; omega⟩)
      have q0 := blkc C7.out.xbox (show _ = some (Value.int .i64 xst) from rfl) (j := 1)
      have q1 := C7.out.frzX 1
      have q2 := blkc C7.out.xbox (show _ = some (Value.slice ax xfb.length cx) from rfl) (j := 2)
      have q3 := C7.out.frzX 2
      clear CC hc7 hx' y0 y1
      go_upto_region 23 with fail
      generalize (w7.setCell ⟨bX, 1, none⟩ (.int .i64 st')).setCell ⟨bX, 2, none⟩ (.slice ar xs'.length cr) = w9 at *
      clear q0 q1 q2 q3 C7
      have hi9 : i < ps.length := by omega
      have hi9I : (i : Int) < ((ps.length : Nat) : Int) := by omega
      have CZ := Lib.hid (C8.out.pb.setL (g3 := g3) (m3 := ps.length) (c3 := c3) rfl rfl hi9 C8.out.xr C8.out.xa C8.out.xl C8.out.xn.2)
      have p0 := blkc C8.out.xbox (show _ = some (Value.int .i64 (xid)) from rfl) (j := 0)
      have p1 := blkc C8.out.xbox (show _ = some (Value.int .i64 (st')) from rfl) (j := 1)
      have p2 := blkc C8.out.xbox (show _ = some ((.slice ar xs'.length cr)) from rfl) (j := 2)
      have p3 := blkc C8.out.xbox (show _ = some (Value.int .i64 (xfi)) from rfl) (j := 3)
      have p4 := blkc C8.out.xbox (show _ = some (Value.int .i64 (xct)) from rfl) (j := 4)
      have y2 := blkc C8.out.pb.box (show _ = some (Value.slice (some ⟨g3, 0, none⟩) (ps.length) c3) from rfl) (j := 2)
      have l0 := C8.out.pb.frz3 (g := g3) rfl (i * 5)
      have l1 := C8.out.pb.frz3 (g := g3) rfl (i * 5 + 1)
      have l2 := C8.out.pb.frz3 (g := g3) rfl (i * 5 + 2)
      have l3 := C8.out.pb.frz3 (g := g3) rfl (i * 5 + 3)
      have l4 := C8.out.pb.frz3 (g := g3) rfl (i * 5 + 4)
      obtain ⟨v0, k0'⟩ := C8.out.pb.cel3 (g := g3) rfl rfl i hi9 0 (by omega)
      obtain ⟨v1, k1'⟩ := C8.out.pb.cel3 (g := g3) rfl rfl i hi9 1 (by omega)
      obtain ⟨v2, k2'⟩ := C8.out.pb.cel3 (g := g3) rfl rfl i hi9 2 (by omega)
      obtain ⟨v3, k3'⟩ := C8.out.pb.cel3 (g := g3) rfl rfl i hi9 3 (by omega)
      obtain ⟨v4, k4'⟩ := C8.out.pb.cel3 (g := g3) rfl rfl i hi9 4 (by omega)
      rw [Nat.add_zero] at k0'
      have hg3 := (C8.out.pb.d.l.row.lt g3 rfl).1
      have hz9 := C8.out.hz
      have HO9 := Lib.hid (show (((((((w9).setCell ⟨g3, i * 5, none⟩ (.int .i64 (xid))).setCell ⟨g3, i * 5 + 1, none⟩ (.int .i64 (st'))).setCell ⟨g3, i * 5 + 2, none⟩ ((.slice ar xs'.length cr))).setCell ⟨g3, i * 5 + 3, none⟩ (.int .i64 (xfi))).setCell ⟨g3, i * 5 + 4, none⟩ (.int .i64 (xct)))).heap[w.heap.size]? = some (.cells #[.slice none 0 0, .slice none 0 0, .slice none 0 0] 38 (0, 0)) from by
        rw [heap_setCell_other _ ⟨g3, i * 5 + 4, none⟩ w.heap.size _ (show w.heap.size ≠ g3 by omega), heap_setCell_other _ ⟨g3, i * 5 + 3, none⟩ w.heap.size _ (show w.heap.size ≠ g3 by omega), heap_setCell_other _ ⟨g3, i * 5 + 2, none⟩ w.heap.size _ (show w.heap.size ≠ g3 by omega), heap_setCell_other _ ⟨g3, i * 5 + 1, none⟩ w.heap.size _ (show w.heap.size ≠ g3 by omega), heap_setCell_other _ ⟨g3, i * 5, none⟩ w.heap.size _ (show w.heap.size ≠ g3 by omega)]
        exact C8.out.out)
      go_upto_region 24 with fail
      clear l0 l1 l2 l3 l4 k0' k1' k2' k3' k4' p0 p1 p2 p3 p4 y2 hi9 hi9I hg3 hz9
      dsimp only at CZ
      generalize ((((((w9).setCell ⟨g3, i * 5, none⟩ (.int .i64 (xid))).setCell ⟨g3, i * 5 + 1, none⟩ (.int .i64 (st'))).setCell ⟨g3, i * 5 + 2, none⟩ ((.slice ar xs'.length cr))).setCell ⟨g3, i * 5 + 3, none⟩ (.int .i64 (xfi))).setCell ⟨g3, i * 5 + 4, none⟩ (.int .i64 (xct))) = wz at *
      have z0 := blkc HO9.out (show _ = some (Value.slice none 0 0) from rfl) (j := 0)
      have z1 := blkc HO9.out (show _ = some (Value.slice none 0 0) from rfl) (j := 1)
      have z2 := blkc HO9.out (show _ = some (Value.slice none 0 0) from rfl) (j := 2)
      have f0 : wz.frozen? ⟨w.heap.size, 0, none⟩ = false := by have x2 := HO9.out; simp only [World.frozen?, x2]; rfl
      have f1 : wz.frozen? ⟨w.heap.size, 1, none⟩ = false := by have x2 := HO9.out; simp only [World.frozen?, x2]; rfl
      have f2 : wz.frozen? ⟨w.heap.size, 2, none⟩ = false := by have x2 := HO9.out; simp only [World.frozen?, x2]; rfl
      have y0 := blkc CZ.out.box (show _ = some (.slice a1 n.ns.length c1) from rfl) (j := 0)
      have y1 := blkc CZ.out.box (show _ = some (.slice a2 n.fs.length c2) from rfl) (j := 1)
      have y2 := blkc CZ.out.box (show _ = some (Value.slice (some ⟨g3, 0, none⟩) (ps.length) c3) from rfl) (j := 2)
      go_wp2_with fail
      subst hNP
      have HH := PvB.done (m := 900) (K := K) (Z := fun _ ps => ps.length ≤ 30) CZ.out HC1.out HZ1.out (by omega) CZ.out.d.len
      exact bodyPost_ret (v := .agg #[.slice a1 n.ns.length c1, .slice a2 n.fs.length c2, .slice (some ⟨g3, 0, none⟩) (ps.length) c3]) (by simp [results, Tryz.results75, go_sem, z0, z1, z2]) rfl HH
    by_cases e3 : k = 3
    · subst e3
      have CA := Lib.hid (CC.out.below ((Below.refl _ _).alloc (Nat.le_refl _) (.cells #[.int .i64 xid, .int .i64 xst, .slice ax xfb.length cx, .int .i64 xfi, .int .i64 xct] 94)))
      have y2 := blkc CC.out.pb.box (show _ = some (Value.slice (some ⟨g3, 0, none⟩) ps.length c3) from rfl) (j := 2)
      have q0 := blkc CC.out.xbox (show _ = some (Value.int .i64 xid) from rfl) (j := 0)
      have q1 := blkc CC.out.xbox (show _ = some (Value.int .i64 xst) from rfl) (j := 1)
      have q2 := blkc CC.out.xbox (show _ = some (Value.slice ax xfb.length cx) from rfl) (j := 2)
      have q3 := blkc CC.out.xbox (show _ = some (Value.int .i64 xfi) from rfl) (j := 3)
      have q4 := blkc CC.out.xbox (show _ = some (Value.int .i64 xct) from rfl) (j := 4)
      go_upto_region 23 with (at_builtin; (refine wpList_catG rfl (.tmp 47) (.tmp 49) 36 94 rfl Tryz.underlying36 (.agg #[.int .i64 0, .int .i64 0, .slice none 0 0, .int .i64 0, .int .i64 0]) 5 56 Tryz.infoLgtD rfl (by decide) w1.heap.size (.slice (some ⟨g3, 0, none⟩) ps.length c3) ps.length (ltc ps) (by rfl) CA.out.pb.d.l.row (some ⟨w6.heap.size, 0, none⟩) 1 1 (ltc [(⟨xid, xst, xfb, xfi, xct⟩, (.slice ax xfb.length cx))]) (by rfl) rfl (fun e => by cases e) (fun ad e j u hu => by cases e; exact World.news_of_block (heap_alloc_new w6 (.cells #[.int .i64 xid, .int .i64 xst, .slice ax xfb.length cx, .int .i64 xfi, .int .i64 xct] 94)) j u hu) (fun u hu => by simp [ltc] at hu; rcases hu with rfl | rfl | rfl | rfl | rfl <;> rfl) (by unfold maxLen; omega) (by omega) CA.out.pb.cs.size ?_); (intro v8 w8 o8 g8 l8); (have C8 := Lib.hid (CA.out.appL (by omega) o8 g8 l8)); (obtain ⟨a8, c8, rfl⟩ := row_form0 o8); (have x8 := (g8.block bP CA.out.pb.lt fun e => CA.out.pb.ne (.inr (.inr (.inl e.symm)))).trans CA.out.pb.box); (have y8 := blkc x8 (show _ = some (.slice (some ⟨g3, 0, none⟩) ps.length c3) from rfl) (j := 2)); (have f8 : w8.frozen? ⟨bP, 2, none⟩ = false := (by simp only [World.frozen?, x8]; rfl)))
      clear CC CA o8 g8 l8 x8 y8 f8 y2 q0 q1 q2 q3 q4
      generalize w8.setCell ⟨bP, 2, none⟩ (.slice a8 (ps.length + 1) c8) = w9 at *
      obtain ⟨g8, rfl⟩ : ∃ g8, a8 = some ⟨g8, 0, none⟩ := by
        rcases C8.out.pb.d.l.row.2 with ⟨e, e2⟩ | ⟨g', cap, cur, e, _⟩
        · simp at e
        · simp only [Value.slice.injEq] at e; exact ⟨g', e.1⟩
      have hi9 : i < ps.length + 1 := by omega
      have hi9I : (i : Int) < ((ps.length + 1 : Nat) : Int) := by omega
      have CZ := Lib.hid (C8.out.pb.setL (g3 := g8) (m3 := ps.length + 1) (c3 := c8) rfl (by rw [List.length_append]; rfl) hi9 C8.out.xr C8.out.xa C8.out.xl C8.out.xn.2)
      have p0 := blkc C8.out.xbox (show _ = some (Value.int .i64 (xid)) from rfl) (j := 0)
      have p1 := blkc C8.out.xbox (show _ = some (Value.int .i64 (xst)) from rfl) (j := 1)
      have p2 := blkc C8.out.xbox (show _ = some (.slice ax xfb.length cx) from rfl) (j := 2)
      have p3 := blkc C8.out.xbox (show _ = some (Value.int .i64 (xfi)) from rfl) (j := 3)
      have p4 := blkc C8.out.xbox (show _ = some (Value.int .i64 (xct)) from rfl) (j := 4)
      have y2 := blkc C8.out.pb.box (show _ = some (Value.slice (some ⟨g8, 0, none⟩) (ps.length + 1) c8) from rfl) (j := 2)
      have l0 := C8.out.pb.frz3 (g := g8) rfl (i * 5)
      have l1 := C8.out.pb.frz3 (g := g8) rfl (i * 5 + 1)
      have l2 := C8.out.pb.frz3 (g := g8) rfl (i * 5 + 2)
      have l3 := C8.out.pb.frz3 (g := g8) rfl (i * 5 + 3)
      have l4 := C8.out.pb.frz3 (g := g8) rfl (i * 5 + 4)
      obtain ⟨v0, k0'⟩ := C8.out.pb.cel3 (g := g8) rfl (by rw [List.length_append]; rfl) i hi9 0 (by omega)
      obtain ⟨v1, k1'⟩ := C8.out.pb.cel3 (g := g8) rfl (by rw [List.length_append]; rfl) i hi9 1 (by omega)
      obtain ⟨v2, k2'⟩ := C8.out.pb.cel3 (g := g8) rfl (by rw [List.length_append]; rfl) i hi9 2 (by omega)
      obtain ⟨v3, k3'⟩ := C8.out.pb.cel3 (g := g8) rfl (by rw [List.length_append]; rfl) i hi9 3 (by omega)
      obtain ⟨v4, k4'⟩ := C8.out.pb.cel3 (g := g8) rfl (by rw [List.length_append]; rfl) i hi9 4 (by omega)
      rw [Nat.add_zero] at k0'
      have hg3 := (C8.out.pb.d.l.row.lt g8 rfl).1
      have hz9 := C8.out.hz
      have HO9 := Lib.hid (show (((((((w9).setCell ⟨g8, i * 5, none⟩ (.int .i64 (xid))).setCell ⟨g8, i * 5 + 1, none⟩ (.int .i64 (xst))).setCell ⟨g8, i * 5 + 2, none⟩ (.slice ax xfb.length cx)).setCell ⟨g8, i * 5 + 3, none⟩ (.int .i64 (xfi))).setCell ⟨g8, i * 5 + 4, none⟩ (.int .i64 (xct)))).heap[w.heap.size]? = some (.cells #[.slice none 0 0, .slice none 0 0, .slice none 0 0] 38 (0, 0)) from by
        rw [heap_setCell_other _ ⟨g8, i * 5 + 4, none⟩ w.heap.size _ (show w.heap.size ≠ g8 by omega), heap_setCell_other _ ⟨g8, i * 5 + 3, none⟩ w.heap.size _ (show w.heap.size ≠ g8 by omega), heap_setCell_other _ ⟨g8, i * 5 + 2, none⟩ w.heap.size _ (show w.heap.size ≠ g8 by omega), heap_setCell_other _ ⟨g8, i * 5 + 1, none⟩ w.heap.size _ (show w.heap.size ≠ g8 by omega), heap_setCell_other _ ⟨g8, i * 5, none⟩ w.heap.size _ (show w.heap.size ≠ g8 by omega)]
        exact C8.out.out)
      go_upto_region 24 with fail
      clear l0 l1 l2 l3 l4 k0' k1' k2' k3' k4' p0 p1 p2 p3 p4 y2 hi9 hi9I hg3 hz9
      dsimp only at CZ
      generalize ((((((w9).setCell ⟨g8, i * 5, none⟩ (.int .i64 (xid))).setCell ⟨g8, i * 5 + 1, none⟩ (.int .i64 (xst))).setCell ⟨g8, i * 5 + 2, none⟩ (.slice ax xfb.length cx)).setCell ⟨g8, i * 5 + 3, none⟩ (.int .i64 (xfi))).setCell ⟨g8, i * 5 + 4, none⟩ (.int .i64 (xct))) = wz at *
      have z0 := blkc HO9.out (show _ = some (Value.slice none 0 0) from rfl) (j := 0)
      have z1 := blkc HO9.out (show _ = some (Value.slice none 0 0) from rfl) (j := 1)
      have z2 := blkc HO9.out (show _ = some (Value.slice none 0 0) from rfl) (j := 2)
      have f0 : wz.frozen? ⟨w.heap.size, 0, none⟩ = false := by have x2 := HO9.out; simp only [World.frozen?, x2]; rfl
      have f1 : wz.frozen? ⟨w.heap.size, 1, none⟩ = false := by have x2 := HO9.out; simp only [World.frozen?, x2]; rfl
      have f2 : wz.frozen? ⟨w.heap.size, 2, none⟩ = false := by have x2 := HO9.out; simp only [World.frozen?, x2]; rfl
      have y0 := blkc CZ.out.box (show _ = some (.slice a1 n.ns.length c1) from rfl) (j := 0)
      have y1 := blkc CZ.out.box (show _ = some (.slice a2 n.fs.length c2) from rfl) (j := 1)
      have y2 := blkc CZ.out.box (show _ = some (Value.slice (some ⟨g8, 0, none⟩) (ps.length + 1) c8) from rfl) (j := 2)
      go_wp2_with fail
      subst hNP
      have HH := PvB.done (m := 900) (K := K) (Z := fun _ ps => ps.length ≤ 30) CZ.out HC1.out HZ1.out (by omega) CZ.out.d.len
      exact bodyPost_ret (v := .agg #[.slice a1 n.ns.length c1, .slice a2 n.fs.length c2, .slice (some ⟨g8, 0, none⟩) (ps.length + 1) c8]) (by simp [results, Tryz.results75, go_sem, z0, z1, z2]) rfl HH
    by_cases e4 : k = 4
    · subst e4
      go_wp2_with fail
      refine (anyNetwork_any B c _ w6 CC.out.pb.cs.st (by omega)).mono ?_
      rintro e w7 ⟨v1, v2, n', rfl, -, hd', hc7⟩
      obtain ⟨⟨d1, e1, rfl⟩, ⟨d2, e2, rfl⟩⟩ := hd'.slices
      have C7 := Lib.hid (CC.out.call hBw hc7)
      have C8 := Lib.hid (CC.out.net hBw hc7 hd')
      have q0 := blkc C7.out.pb.box (show _ = some (Value.slice a1 n.ns.length c1) from rfl) (j := 0)
      have q1 := C7.out.pb.frz 0
      have q2 := blkc C7.out.pb.box (show _ = some (Value.slice a2 n.fs.length c2) from rfl) (j := 1)
      have q3 := C7.out.pb.frz 1
      clear CC hc7 hd'
      go_upto_region 23 with fail
      generalize (w7.setCell ⟨bP, 0, none⟩ (.slice d1 n'.ns.length e1)).setCell ⟨bP, 1, none⟩ (.slice d2 n'.fs.length e2) = w9 at *
      clear q0 q1 q2 q3 C7
      have hi9 : i < ps.length := by omega
      have hi9I : (i : Int) < ((ps.length : Nat) : Int) := by omega
      have CZ := Lib.hid (C8.out.pb.setL (g3 := g3) (m3 := ps.length) (c3 := c3) rfl rfl hi9 C8.out.xr C8.out.xa C8.out.xl C8.out.xn.2)
      have p0 := blkc C8.out.xbox (show _ = some (Value.int .i64 (xid)) from rfl) (j := 0)
      have p1 := blkc C8.out.xbox (show _ = some (Value.int .i64 (xst)) from rfl) (j := 1)
      have p2 := blkc C8.out.xbox (show _ = some (.slice ax xfb.length cx) from rfl) (j := 2)
      have p3 := blkc C8.out.xbox (show _ = some (Value.int .i64 (xfi)) from rfl) (j := 3)
      have p4 := blkc C8.out.xbox (show _ = some (Value.int .i64 (xct)) from rfl) (j := 4)
      have y2 := blkc C8.out.pb.box (show _ = some (Value.slice (some ⟨g3, 0, none⟩) (ps.length) c3) from rfl) (j := 2)
      have l0 := C8.out.pb.frz3 (g := g3) rfl (i * 5)
      have l1 := C8.out.pb.frz3 (g := g3) rfl (i * 5 + 1)
      have l2 := C8.out.pb.frz3 (g := g3) rfl (i * 5 + 2)
      have l3 := C8.out.pb.frz3 (g := g3) rfl (i * 5 + 3)
      have l4 := C8.out.pb.frz3 (g := g3) rfl (i * 5 + 4)
      obtain ⟨v0, k0'⟩ := C8.out.pb.cel3 (g := g3) rfl rfl i hi9 0 (by omega)
      obtain ⟨v1, k1'⟩ := C8.out.pb.cel3 (g := g3) rfl rfl i hi9 1 (by omega)
      obtain ⟨v2, k2'⟩ := C8.out.pb.cel3 (g := g3) rfl rfl i hi9 2 (by omega)
      obtain ⟨v3, k3'⟩ := C8.out.pb.cel3 (g := g3) rfl rfl i hi9 3 (by omega)
      obtain ⟨v4, k4'⟩ := C8.out.pb.cel3 (g := g3) rfl rfl i hi9 4 (by omega)
      rw [Nat.add_zero] at k0'
      have hg3 := (C8.out.pb.d.l.row.lt g3 rfl).1
      have hz9 := C8.out.hz
      have HO9 := Lib.hid (show (((((((w9).setCell ⟨g3, i * 5, none⟩ (.int .i64 (xid))).setCell ⟨g3, i * 5 + 1, none⟩ (.int .i64 (xst))).setCell ⟨g3, i * 5 + 2, none⟩ (.slice ax xfb.length cx)).setCell ⟨g3, i * 5 + 3, none⟩ (.int .i64 (xfi))).setCell ⟨g3, i * 5 + 4, none⟩ (.int .i64 (xct)))).heap[w.heap.size]? = some (.cells #[.slice none 0 0, .slice none 0 0, .slice none 0 0] 38 (0, 0)) from by
        rw [heap_setCell_other _ ⟨g3, i * 5 + 4, none⟩ w.heap.size _ (show w.heap.size ≠ g3 by omega), heap_setCell_other _ ⟨g3, i * 5 + 3, none⟩ w.heap.size _ (show w.heap.size ≠ g3 by omega), heap_setCell_other _ ⟨g3, i * 5 + 2, none⟩ w.heap.size _ (show w.heap.size ≠ g3 by omega), heap_setCell_other _ ⟨g3, i * 5 + 1, none⟩ w.heap.size _ (show w.heap.size ≠ g3 by omega), heap_setCell_other _ ⟨g3, i * 5, none⟩ w.heap.size _ (show w.heap.size ≠ g3 by omega)]
        exact C8.out.out)
      go_upto_region 24 with fail
      clear l0 l1 l2 l3 l4 k0' k1' k2' k3' k4' p0 p1 p2 p3 p4 y2 hi9 hi9I hg3 hz9
      dsimp only at CZ
      generalize ((((((w9).setCell ⟨g3, i * 5, none⟩ (.int .i64 (xid))).setCell ⟨g3, i * 5 + 1, none⟩ (.int .i64 (xst))).setCell ⟨g3, i * 5 + 2, none⟩ (.slice ax xfb.length cx)).setCell ⟨g3, i * 5 + 3, none⟩ (.int .i64 (xfi))).setCell ⟨g3, i * 5 + 4, none⟩ (.int .i64 (xct))) = wz at *
      have z0 := blkc HO9.out (show _ = some (Value.slice none 0 0) from rfl) (j := 0)
      have z1 := blkc HO9.out (show _ = some (Value.slice none 0 0) from rfl) (j := 1)
      have z2 := blkc HO9.out (show _ = some (Value.slice none 0 0) from rfl) (j := 2)
      have f0 : wz.frozen? ⟨w.heap.size, 0, none⟩ = false := by have x2 := HO9.out; simp only [World.frozen?, x2]; rfl
      have f1 : wz.frozen? ⟨w.heap.size, 1, none⟩ = false := by have x2 := HO9.out; simp only [World.frozen?, x2]; rfl
      have f2 : wz.frozen? ⟨w.heap.size, 2, none⟩ = false := by have x2 := HO9.out; simp only [World.frozen?, x2]; rfl
      have y0 := blkc CZ.out.box (show _ = some (.slice d1 n'.ns.length e1) from rfl) (j := 0)
      have y1 := blkc CZ.out.box (show _ = some (.slice d2 n'.fs.length e2) from rfl) (j := 1)
      have y2 := blkc CZ.out.box (show _ = some (Value.slice (some ⟨g3, 0, none⟩) (ps.length) c3) from rfl) (j := 2)
      go_wp2_with fail
      subst hNP
      have HH := PvB.done (m := 900) (K := K) (Z := fun _ ps => ps.length ≤ 30) CZ.out HC1.out HZ1.out (by omega) CZ.out.d.len
      exact bodyPost_ret (v := .agg #[.slice d1 n'.ns.length e1, .slice d2 n'.fs.length e2, .slice (some ⟨g3, 0, none⟩) (ps.length) c3]) (by simp [results, Tryz.results75, go_sem, z0, z1, z2]) rfl HH
    by_cases e5 : k = 5
    · subst e5
      clear e0 e1 e2 e3 e4
      obtain ⟨gf, rfl⟩ : ∃ gf, a2 = some ⟨gf, 0, none⟩ := by
        rcases CC.out.pb.d.n.fs.2 with ⟨e, e2⟩ | ⟨g, cap, cur, e, _⟩
        · omega
        · cases e; exact ⟨g, rfl⟩
      have HFA := Lib.hid (fun (W : World) (h : NtD W w1.heap.size (.slice a1 n.ns.length c1) (.slice (some ⟨gf, 0, none⟩) n.fs.length c2) n) => show W.cell? ⟨gf, 0, none⟩ = some (.int .i64 (n.fs[0]?.getD nilB).a) from by
        have := World.ownsRow.cells h.fs (g := gf) rfl 0 (.int .i64 (n.fs[0]?.getD nilB).a) (by have := fbs_at n.fs 0 0 (by omega); rw [Nat.zero_mul, Nat.zero_add] at this; rw [this, List.getElem?_eq_getElem hn9.1]; rfl)
        rw [addr_add, Nat.zero_add] at this
        exact this)
      generalize (n.fs[0]?.getD nilB).a = fa at *
      have hfl := hn9.1
      have hflI : (0 : Int) < (n.fs.length : Int) := by omega
      go_wp2_with fail
      go_loopw [6] (fun s6 wr => ∃ (q m : Nat) (u3' : Value) (ps' : List (Lgt × Value)), q + 1 ≤ m ∧ m ≤ 8 + q ∧ q ≤ 14 ∧ s6 = .int .i64 q ∧ Hid (ps'.length = m) ∧ Hid (PvX w w1 wr B c (K + 504 + 2 * q) bP bX (.slice a1 n.ns.length c1) (.slice (some ⟨gf, 0, none⟩) n.fs.length c2) u3' n ps' ⟨xid, xst, xfb, xfi, xct⟩ (.slice ax xfb.length cx))) (fun s6 _ => 14 - (intOf s6).toNat)
      case atStart => exact ⟨0, ps.length, _, ps, by omega, by omega, by omega, rfl, rfl, CC.out.mono (by omega)⟩
      case round =>
        clear CC hlX hlW
        obtain ⟨q, m, u3', ps', hqm, hm8, hq14, rfl, HPS, CC⟩ := hrel
        obtain ⟨a3', c', e3'⟩ := row_form0 CC.out.pb.d.l.row
        rw [HPS.out] at e3'
        subst e3'
        obtain ⟨g', rfl⟩ : ∃ g', a3' = some ⟨g', 0, none⟩ := by
          rcases CC.out.pb.d.l.row.2 with ⟨e, e2⟩ | ⟨g, cap, cur, e, _⟩
          · have := HPS.out; omega
          · cases e; exact ⟨g, rfl⟩
        have CD := Lib.hid (CC.out.below (Below.refl _ _).drew)
        have hwq : IntKind.i64.wrap ((q : Int) + 1) = (q : Int) + 1 := IntWalk.i64_in _ (by omega)
        have hw5 : IntKind.i64.wrap (500 + (q : Int)) = 500 + (q : Int) := IntWalk.i64_in _ (by omega)
        have hw23 : IntKind.i64.wrap (23 - (q : Int)) = 23 - (q : Int) := IntWalk.i64_in _ (by omega)
        go_wp2_with fail
        refine wp_region_L [0, 1, 2, 3, 4, 5, 6, 7, 8, 9, 10] (S := fun w' => w'.cell? ⟨bP, 2, none⟩ = some (.slice (some ⟨g', 0, none⟩) m c')) (by kernel_rfl) (blkc CD.out.pb.box rfl) (fun hH => ?_)
        refine hlTake 0 (v := ?v1) rfl (by kernel_rfl) (by kernel_rfl) (by kernel_rfl) (by kernel_rfl) (fun _ _ _ h => h) (by rfl) ?hy1 hH ?rest1
        case hy1 => ((intro w hSw); (try dsimp only at hSw); go_simp); try with_reducible rfl
        try simp only [Act.put, List.setIfInBounds_toArray, List.set_cons_zero, List.set_cons_succ]
        refine hlTake 1 (v := ?v2) rfl (by kernel_rfl) (by kernel_rfl) (by kernel_rfl) (by kernel_rfl) (fun _ _ _ h => h) (by rfl) ?hy2 hH ?rest2
        case hy2 => ((intro w hSw); (try dsimp only at hSw); go_simp); try with_reducible rfl
        try simp only [Act.put, List.setIfInBounds_toArray, List.set_cons_zero, List.set_cons_succ]
        refine hlTake 2 (v := ?v3) rfl (by kernel_rfl) (by kernel_rfl) (by kernel_rfl) (by kernel_rfl) (fun _ _ _ h => h) (by rfl) ?hy3 hH ?rest3
        case hy3 => ((intro w hSw); (try dsimp only at hSw); go_simp); try with_reducible rfl
        try simp only [Act.put, List.setIfInBounds_toArray, List.set_cons_zero, List.set_cons_succ]
        refine hlTake 3 (v := ?v4) rfl (by kernel_rfl) (by kernel_rfl) (by kernel_rfl) (by kernel_rfl) (fun _ _ _ h => h) (by rfl) ?hy4 hH ?rest4
        case hy4 => ((intro w hSw); (try dsimp only at hSw); go_simp); try with_reducible rfl
        try simp only [Act.put, List.setIfInBounds_toArray, List.set_cons_zero, List.set_cons_succ]
        refine hlReady (rs := [4]) (by kernel_rfl) (by simp) ?_
        refine AllReadyL.cons rfl (fun KK hKK => ?_) AllReadyL.nil
        -- order 4
        go_simp
        go_at_call 82
        refine (CD.out.pick hBw (by omega) 2 (by omega) (by omega)).mono ?_
        rintro e w7 ⟨y, y0, y1, rfl, C7⟩
        have hwy : IntKind.i64.wrap (12 + y) = 12 + y := IntWalk.i64_in _ (by omega)
        refine hKK.out _ _ (blkc C7.out.pb.box rfl) (fun hH => ?_)
        clear hKK KK
        try simp only [Act.put, List.setIfInBounds_toArray, List.set_cons_zero, List.set_cons_succ]
        by_cases hlt : (m : Int) < 12 + y
        have hq9 : (q : Int) < 14 := by omega
        refine hlTake 5 (v := ?v5) rfl (by kernel_rfl) (by kernel_rfl) (by kernel_rfl) (by kernel_rfl) (fun _ _ _ h => h) (by rfl) ?hy5 hH ?rest5
        case hy5 => ((intro w hSw); (try dsimp only at hSw); go_simp); try with_reducible rfl
        try simp only [Act.put, List.setIfInBounds_toArray, List.set_cons_zero, List.set_cons_succ]
        refine hlTake 6 (v := ?v6) rfl (by kernel_rfl) (by kernel_rfl) (by kernel_rfl) (by kernel_rfl) (fun _ _ _ h => h) (by rfl) ?hy6 hH ?rest6
        case hy6 => ((intro w hSw); (try dsimp only at hSw); go_simp); try with_reducible rfl
        try simp only [Act.put, List.setIfInBounds_toArray, List.set_cons_zero, List.set_cons_succ]
        refine hlTake 7 (v := ?v7) rfl (by kernel_rfl) (by kernel_rfl) (by kernel_rfl) (by kernel_rfl) (fun _ _ _ h => h) (by rfl) ?hy7 hH ?rest7
        case hy7 => ((intro w hSw); (try dsimp only at hSw); go_simp); try with_reducible rfl
        try simp only [Act.put, List.setIfInBounds_toArray, List.set_cons_zero, List.set_cons_succ]
        refine hlTake 8 (v := ?v8) rfl (by kernel_rfl) (by kernel_rfl) (by kernel_rfl) (by kernel_rfl) (fun _ _ _ h => h) (by rfl) ?hy8 hH ?rest8
        case hy8 => ((intro w hSw); (try dsimp only at hSw); go_simp); try with_reducible rfl
        try simp only [Act.put, List.setIfInBounds_toArray, List.set_cons_zero, List.set_cons_succ]
        refine hlTake 9 (v := ?v9) rfl (by kernel_rfl) (by kernel_rfl) (by kernel_rfl) (by kernel_rfl) (fun _ _ _ h => h) (by rfl) ?hy9 hH ?rest9
        case hy9 => ((intro w hSw); (try dsimp only at hSw); go_simp); try with_reducible rfl
        try simp only [Act.put, List.setIfInBounds_toArray, List.set_cons_zero, List.set_cons_succ]
        refine hlStep 10 rfl (by kernel_rfl) (by kernel_rfl) (fun KK hKK => ?_)
        go_simp
        refine hKK.out _ _ ?_
        clear hKK KK
        try simp only [Act.put, List.setIfInBounds_toArray, List.set_cons_zero, List.set_cons_succ]
        refine hlDone (by kernel_rfl) ?_ _
        rotate_left 1
        refine hlTake 5 (v := ?v10) rfl (by kernel_rfl) (by kernel_rfl) (by kernel_rfl) (by kernel_rfl) (fun _ _ _ h => h) (by rfl) ?hy10 hH ?rest10
        case hy10 => ((intro w hSw); (try dsimp only at hSw); go_simp); try with_reducible rfl
        try simp only [Act.put, List.setIfInBounds_toArray, List.set_cons_zero, List.set_cons_succ]
        refine hlTake 6 (v := ?v11) rfl (by kernel_rfl) (by kernel_rfl) (by kernel_rfl) (by kernel_rfl) (fun _ _ _ h => h) (by rfl) ?hy11 hH ?rest11
        case hy11 => ((intro w hSw); (try dsimp only at hSw); go_simp); try with_reducible rfl
        try simp only [Act.put, List.setIfInBounds_toArray, List.set_cons_zero, List.set_cons_succ]
        refine hlTake 7 (v := ?v12) rfl (by kernel_rfl) (by kernel_rfl) (by kernel_rfl) (by kernel_rfl) (fun _ _ _ h => h) (by rfl) ?hy12 hH ?rest12
        case hy12 => ((intro w hSw); (try dsimp only at hSw); go_simp); try with_reducible rfl
        try simp only [Act.put, List.setIfInBounds_toArray, List.set_cons_zero, List.set_cons_succ]
        refine hlSkip 8 rfl (by kernel_rfl) (by kernel_rfl) (by kernel_rfl) (by kernel_rfl) (fun _ _ _ h => h) (by rfl) hH ?_
        try simp only [Act.put, List.setIfInBounds_toArray, List.set_cons_zero, List.set_cons_succ]
        refine hlSkip 9 rfl (by kernel_rfl) (by kernel_rfl) (by kernel_rfl) (by kernel_rfl) (fun _ _ _ h => h) (by rfl) hH ?_
        try simp only [Act.put, List.setIfInBounds_toArray, List.set_cons_zero, List.set_cons_succ]
        refine hlStep 10 rfl (by kernel_rfl) (by kernel_rfl) (fun KK hKK => ?_)
        go_simp
        refine hKK.out _ _ ?_
        clear hKK KK
        try simp only [Act.put, List.setIfInBounds_toArray, List.set_cons_zero, List.set_cons_succ]
        refine hlDone (by kernel_rfl) ?_ _
        rotate_left 1
        · clear CC CD hH
          have CD := Lib.hid (C7.out.below (Below.refl _ _).drew)
          have hm12 : m ≤ 12 := by omega
          have HRR := Lib.hid (fun (W : World) (KQ : Nat) (h : PvX w w1 W B c KQ bP bX (.slice a1 n.ns.length c1) (.slice (some ⟨gf, 0, none⟩) n.fs.length c2) (.slice (some ⟨g', 0, none⟩) m c') n ps' ⟨xid, xst, xfb, xfi, xct⟩ (.slice ax xfb.length cx)) => show W.cell? ⟨bP, 2, none⟩ = some (.slice (some ⟨g', 0, none⟩) m c') ∧ W.cell? ⟨bP, 1, none⟩ = some (.slice (some ⟨gf, 0, none⟩) n.fs.length c2) ∧ W.cell? ⟨gf, 0, none⟩ = some (.int .i64 fa) from
            ⟨blkc h.pb.box rfl, blkc h.pb.box rfl, HFA.out W h.pb.d.n⟩)
          go_wp2_with fail
          refine wp_region_L [0, 1, 2, 3, 4, 5, 6, 7, 8, 9, 10, 11, 12, 13, 14, 15, 16, 17] (S := fun W => W.cell? ⟨bP, 2, none⟩ = some (.slice (some ⟨g', 0, none⟩) m c') ∧ W.cell? ⟨bP, 1, none⟩ = some (.slice (some ⟨gf, 0, none⟩) n.fs.length c2) ∧ W.cell? ⟨gf, 0, none⟩ = some (.int .i64 fa)) (by kernel_rfl) (HRR.out _ _ CD.out) (fun hH => ?_)
          refine hlTake 0 (v := ?v13) rfl (by kernel_rfl) (by kernel_rfl) (by kernel_rfl) (by kernel_rfl) (fun _ _ _ h => h) (by rfl) ?hy13 hH ?rest13
          case hy13 => ((intro w hSw); (try dsimp only at hSw); go_simp); try with_reducible rfl
          try simp only [Act.put, List.setIfInBounds_toArray, List.set_cons_zero, List.set_cons_succ]
          refine hlTake 1 (v := ?v14) rfl (by kernel_rfl) (by kernel_rfl) (by kernel_rfl) (by kernel_rfl) (fun _ _ _ h => h) (by rfl) ?hy14 hH ?rest14
          case hy14 => ((intro w hSw); (try dsimp only at hSw); go_simp); try with_reducible rfl
          try simp only [Act.put, List.setIfInBounds_toArray, List.set_cons_zero, List.set_cons_succ]
          refine hlTake 2 (v := ?v15) rfl (by kernel_rfl) (by kernel_rfl) (by kernel_rfl) (by kernel_rfl) (fun _ _ _ h => h) (by rfl) ?hy15 hH ?rest15
          case hy15 => ((intro w hSw); (try dsimp only at hSw); go_simp); try with_reducible rfl
          try simp only [Act.put, List.setIfInBounds_toArray, List.set_cons_zero, List.set_cons_succ]
          refine hlTake 3 (v := ?v16) rfl (by kernel_rfl) (by kernel_rfl) (by kernel_rfl) (by kernel_rfl) (fun _ _ _ h => h) (by rfl) ?hy16 hH ?rest16
          case hy16 => ((intro w hSw); (try dsimp only at hSw); go_simp); try with_reducible rfl
          try simp only [Act.put, List.setIfInBounds_toArray, List.set_cons_zero, List.set_cons_succ]
          refine hlTake 4 (v := ?v17) rfl (by kernel_rfl) (by kernel_rfl) (by kernel_rfl) (by kernel_rfl) (fun _ _ _ h => h) (by rfl) ?hy17 hH ?rest17
          case hy17 => ((intro w hSw); (try dsimp only at hSw); go_simp); try with_reducible rfl
          try simp only [Act.put, List.setIfInBounds_toArray, List.set_cons_zero, List.set_cons_succ]
          refine hlTake 5 (v := ?v18) rfl (by kernel_rfl) (by kernel_rfl) (by kernel_rfl) (by kernel_rfl) (fun _ _ _ h => h) (by rfl) ?hy18 hH ?rest18
          case hy18 => ((intro w hSw); (try dsimp only at hSw); go_simp); try with_reducible rfl
          try simp only [Act.put, List.setIfInBounds_toArray, List.set_cons_zero, List.set_cons_succ]
          refine hlTake 6 (v := ?v19) rfl (by kernel_rfl) (by kernel_rfl) (by kernel_rfl) (by kernel_rfl) (fun _ _ _ h => h) (by rfl) ?hy19 hH ?rest19
          case hy19 => ((intro w hSw); (try dsimp only at hSw); go_simp); try with_reducible rfl
          try simp only [Act.put, List.setIfInBounds_toArray, List.set_cons_zero, List.set_cons_succ]
          refine hlTake 7 (v := ?v20) rfl (by kernel_rfl) (by kernel_rfl) (by kernel_rfl) (by kernel_rfl) (fun _ _ _ h => h) (by rfl) ?hy20 hH ?rest20
          case hy20 => ((intro w hSw); (try dsimp only at hSw); go_simp); try with_reducible rfl
          try simp only [Act.put, List.setIfInBounds_toArray, List.set_cons_zero, List.set_cons_succ]
          refine hlTake 8 (v := ?v21) rfl (by kernel_rfl) (by kernel_rfl) (by kernel_rfl) (by kernel_rfl) (fun _ _ _ h => h) (by rfl) ?hy21 hH ?rest21
          case hy21 => ((intro w hSw); (try dsimp only at hSw); go_simp); try with_reducible rfl
          try simp only [Act.put, List.setIfInBounds_toArray, List.set_cons_zero, List.set_cons_succ]
          refine hlTake 9 (v := ?v22) rfl (by kernel_rfl) (by kernel_rfl) (by kernel_rfl) (by kernel_rfl) (fun _ _ _ h => h) (by rfl) ?hy22 hH ?rest22
          case hy22 => ((intro w hSw); (try dsimp only at hSw); go_simp); try with_reducible rfl
          try simp only [Act.put, List.setIfInBounds_toArray, List.set_cons_zero, List.set_cons_succ]
          refine hlTake 12 (v := ?v23) rfl (by kernel_rfl) (by kernel_rfl) (by kernel_rfl) (by kernel_rfl) (fun _ _ _ h => h) (by rfl) ?hy23 hH ?rest23
          case hy23 => ((intro w hSw); (try dsimp only at hSw); go_simp); try with_reducible rfl
          try simp only [Act.put, List.setIfInBounds_toArray, List.set_cons_zero, List.set_cons_succ]
          refine hlTake 13 (v := ?v24) rfl (by kernel_rfl) (by kernel_rfl) (by kernel_rfl) (by kernel_rfl) (fun _ _ _ h => h) (by rfl) ?hy24 hH ?rest24
          case hy24 => ((intro w hSw); (try dsimp only at hSw); go_simp); try with_reducible rfl
          try simp only [Act.put, List.setIfInBounds_toArray, List.set_cons_zero, List.set_cons_succ]
          refine hlTake 14 (v := ?v25) rfl (by kernel_rfl) (by kernel_rfl) (by kernel_rfl) (by kernel_rfl) (fun _ _ _ h => h) (by rfl) ?hy25 hH ?rest25
          case hy25 => ((intro w hSw); (try dsimp only at hSw); go_simp); try with_reducible rfl
          try simp only [Act.put, List.setIfInBounds_toArray, List.set_cons_zero, List.set_cons_succ]
          refine hlReady (rs := [10]) (by kernel_rfl) (by simp) ?_
          refine AllReadyL.cons rfl (fun KK hKK => ?_) AllReadyL.nil
          -- order 10
          go_simp
          have CA := Lib.hid (CD.out.below ((Below.refl _ _).alloc (Nat.le_refl _) (.cells #[.int .i64 0] 3)))
          have RA := OwR.lit1 (w := w7.drew) (base := w1.heap.size) 0 C7.out.pb.cs.size
          refine hKK.out _ _ (HRR.out _ _ CA.out) (fun hH => ?_)
          clear hKK KK
          try simp only [Act.put, List.setIfInBounds_toArray, List.set_cons_zero, List.set_cons_succ]
          refine hlTake 11 (v := ?v26) rfl (by kernel_rfl) (by kernel_rfl) (by kernel_rfl) (by kernel_rfl) (fun _ _ _ h => h) (by rfl) ?hy26 hH ?rest26
          case hy26 => ((intro w hSw); (try dsimp only at hSw); go_simp); try with_reducible rfl
          try simp only [Act.put, List.setIfInBounds_toArray, List.set_cons_zero, List.set_cons_succ]
          refine hlTake 15 (v := ?v27) rfl (by kernel_rfl) (by kernel_rfl) (by kernel_rfl) (by kernel_rfl) (fun _ _ _ h => h) (by rfl) ?hy27 hH ?rest27
          case hy27 => ((intro w hSw); (try dsimp only at hSw); go_simp); try with_reducible rfl
          try simp only [Act.put, List.setIfInBounds_toArray, List.set_cons_zero, List.set_cons_succ]
          refine hlReady (rs := [16]) (by kernel_rfl) (by simp) ?_
          refine AllReadyL.cons rfl (fun KK hKK => ?_) AllReadyL.nil
          -- order 10 16
          go_simp
          have CB := Lib.hid (CA.out.below ((Below.refl _ _).alloc (Nat.le_refl _) (.cells #[.int .i64 (500 + (q : Int)), .int .i64 fa, .slice (some ⟨w7.heap.size, 0, none⟩) 1 1, .int .i64 (23 - (q : Int)), .int .i64 1] 94)))
          have RB := RA.below ((Below.refl _ _).alloc (Nat.le_refl _) (.cells #[.int .i64 (500 + (q : Int)), .int .i64 fa, .slice (some ⟨w7.heap.size, 0, none⟩) 1 1, .int .i64 (23 - (q : Int)), .int .i64 1] 94))
          have NB : ((w7.drew.alloc (.cells #[.int .i64 0] 3)).alloc (.cells #[.int .i64 (500 + (q : Int)), .int .i64 fa, .slice (some ⟨w7.heap.size, 0, none⟩) 1 1, .int .i64 (23 - (q : Int)), .int .i64 1] 94)).heap[w7.heap.size + 1]? = some (.cells #[.int .i64 (500 + (q : Int)), .int .i64 fa, .slice (some ⟨w7.heap.size, 0, none⟩) 1 1, .int .i64 (23 - (q : Int)), .int .i64 1] 94) := by
            have := heap_alloc_new (w7.drew.alloc (.cells #[.int .i64 0] 3)) (.cells #[.int .i64 (500 + (q : Int)), .int .i64 fa, .slice (some ⟨w7.heap.size, 0, none⟩) 1 1, .int .i64 (23 - (q : Int)), .int .i64 1] 94)
            simpa using this
          refine hKK.out _ _ (HRR.out _ _ CB.out) (fun hH => ?_)
          clear hKK KK
          try simp only [Act.put, List.setIfInBounds_toArray, List.set_cons_zero, List.set_cons_succ]
          refine hlStep 17 rfl (by kernel_rfl) (by kernel_rfl) (fun KK hKK => ?_)
          refine step_of_list rfl ?_
          refine wpList_catG rfl (.tmp 73) (.tmp 88) 36 94 rfl Tryz.underlying36 (.agg #[.int .i64 0, .int .i64 0, .slice none 0 0, .int .i64 0, .int .i64 0]) 5 56 Tryz.infoLgtD rfl (by decide) w1.heap.size (.slice (some ⟨g', 0, none⟩) m c') m (ltc ps') (by rfl) (show _ from by have := CB.out.pb.d.l.row; rw [HPS.out] at this; exact this) (some ⟨w7.heap.size + 1, 0, none⟩) 1 1 (ltc [(⟨500 + (q : Int), fa, [0], 23 - (q : Int), 1⟩, .slice (some ⟨w7.heap.size, 0, none⟩) 1 1)]) (by rfl) rfl (fun e => by cases e) (fun ad e j u hu => by cases e; exact World.news_of_block NB j u hu) (fun u hu => by simp [ltc] at hu; rcases hu with rfl | rfl | rfl | rfl | rfl <;> rfl) (by unfold maxLen; omega) (by omega) CB.out.pb.cs.size ?_
          intro v8 w8 o8 g8 l8
          have C8 := Lib.hid (CB.out.appG (y := ⟨500 + (q : Int), fa, [0], 23 - (q : Int), 1⟩) RB (fun qq h1 h2 => by
              have e1 : w7.heap.size = qq := Option.some.inj h1
              have := (C7.out.pb.d.l.row.lt qq h2).2
              omega) (by simp) (fun e => by have e1 : w7.heap.size = bP := Option.some.inj e; have := C7.out.pb.lt; omega) (fun e => by have e1 : w7.heap.size = bX := Option.some.inj e; have := C7.out.ltX; omega) (by rw [HPS.out]; omega) (by rw [HPS.out]; exact o8) g8 l8)
          obtain ⟨a8, c8, rfl⟩ := row_form0 o8
          have x8 := (g8.block bP CB.out.pb.lt fun e => CB.out.pb.ne (.inr (.inr (.inl e.symm)))).trans CB.out.pb.box
          have y8 := blkc x8 (show _ = some (.slice (some ⟨g', 0, none⟩) m c') from rfl) (j := 2)
          have f8 : w8.frozen? ⟨bP, 2, none⟩ = false := by simp only [World.frozen?, x8]; rfl
          unfold wpList
          refine ⟨rfl, ?_⟩
          refine hKK.out _ _ ?_
          clear hKK KK
          try simp only [Act.put, List.setIfInBounds_toArray, List.set_cons_zero, List.set_cons_succ]
          refine hlStep 18 rfl (by kernel_rfl) (by kernel_rfl) (fun KK hKK => ?_)
          go_simp
          refine hKK.out _ _ ?_
          clear hKK KK
          try simp only [Act.put, List.setIfInBounds_toArray, List.set_cons_zero, List.set_cons_succ]
          refine hlStep 19 rfl (by kernel_rfl) (by kernel_rfl) (fun KK hKK => ?_)
          go_simp
          refine hKK.out _ _ ?_
          clear hKK KK
          try simp only [Act.put, List.setIfInBounds_toArray, List.set_cons_zero, List.set_cons_succ]
          refine hlDone (by kernel_rfl) ?_ _
          rotate_left 1
          clear CA CB CD C7 hH o8 g8 l8 x8 y8 f8 HRR RA RB NB
          go_wp2_with fail
          go_roundw
          case rel => exact ⟨q + 1, m + 1, _, _, by omega, by omega, by omega, by go_num, by rw [List.length_append, HPS.out]; rfl, C8.out.mono (by omega)⟩
          case measure => simp [intOf]; omega
        · clear CC CD hH
          have z0 := blkc C7.out.out (show _ = some (Value.slice none 0 0) from rfl) (j := 0)
          have z1 := blkc C7.out.out (show _ = some (Value.slice none 0 0) from rfl) (j := 1)
          have z2 := blkc C7.out.out (show _ = some (Value.slice none 0 0) from rfl) (j := 2)
          have f0 : (w7).frozen? ⟨w.heap.size, 0, none⟩ = false := by have x2 := C7.out.out; simp only [World.frozen?, x2]; rfl
          have f1 : (w7).frozen? ⟨w.heap.size, 1, none⟩ = false := by have x2 := C7.out.out; simp only [World.frozen?, x2]; rfl
          have f2 : (w7).frozen? ⟨w.heap.size, 2, none⟩ = false := by have x2 := C7.out.out; simp only [World.frozen?, x2]; rfl
          have y0 := blkc C7.out.pb.box (show _ = some (.slice a1 n.ns.length c1) from rfl) (j := 0)
          have y1 := blkc C7.out.pb.box (show _ = some (.slice (some ⟨gf, 0, none⟩) n.fs.length c2) from rfl) (j := 1)
          have y2 := blkc C7.out.pb.box (show _ = some ((.slice (some ⟨g', 0, none⟩) m c')) from rfl) (j := 2)
          go_wp2_with fail
          subst hNP
          have HH := PvB.done (m := 900) (K := K) (Z := fun _ ps => ps.length ≤ 30) C7.out.pb HC1.out HZ1.out (by omega) C7.out.pb.d.len
          exact bodyPost_ret (v := .agg #[.slice a1 n.ns.length c1, .slice (some ⟨gf, 0, none⟩) n.fs.length c2, (.slice (some ⟨g', 0, none⟩) m c')]) (by simp [results, Tryz.results75, go_sem, z0, z1, z2]) rfl HH
    go_upto_region 23 with fail
    have hi9 : i < ps.length := by omega
    have hi9I : (i : Int) < ((ps.length : Nat) : Int) := by omega
    have CZ := Lib.hid (CC.out.pb.setL (g3 := g3) (m3 := ps.length) (c3 := c3) rfl rfl hi9 CC.out.xr CC.out.xa CC.out.xl CC.out.xn.2)
    have p0 := blkc CC.out.xbox (show _ = some (Value.int .i64 (xid)) from rfl) (j := 0)
    have p1 := blkc CC.out.xbox (show _ = some (Value.int .i64 (xst)) from rfl) (j := 1)
    have p2 := blkc CC.out.xbox (show _ = some (.slice ax xfb.length cx) from rfl) (j := 2)
    have p3 := blkc CC.out.xbox (show _ = some (Value.int .i64 (xfi)) from rfl) (j := 3)
    have p4 := blkc CC.out.xbox (show _ = some (Value.int .i64 (xct)) from rfl) (j := 4)
    have y2 := blkc CC.out.pb.box (show _ = some (Value.slice (some ⟨g3, 0, none⟩) (ps.length) c3) from rfl) (j := 2)
    have l0 := CC.out.pb.frz3 (g := g3) rfl (i * 5)
    have l1 := CC.out.pb.frz3 (g := g3) rfl (i * 5 + 1)
    have l2 := CC.out.pb.frz3 (g := g3) rfl (i * 5 + 2)
    have l3 := CC.out.pb.frz3 (g := g3) rfl (i * 5 + 3)
    have l4 := CC.out.pb.frz3 (g := g3) rfl (i * 5 + 4)
    obtain ⟨v0, k0'⟩ := CC.out.pb.cel3 (g := g3) rfl rfl i hi9 0 (by omega)
    obtain ⟨v1, k1'⟩ := CC.out.pb.cel3 (g := g3) rfl rfl i hi9 1 (by omega)
    obtain ⟨v2, k2'⟩ := CC.out.pb.cel3 (g := g3) rfl rfl i hi9 2 (by omega)
    obtain ⟨v3, k3'⟩ := CC.out.pb.cel3 (g := g3) rfl rfl i hi9 3 (by omega)
    obtain ⟨v4, k4'⟩ := CC.out.pb.cel3 (g := g3) rfl rfl i hi9 4 (by omega)
    rw [Nat.add_zero] at k0'
    have hg3 := (CC.out.pb.d.l.row.lt g3 rfl).1
    have hz9 := CC.out.hz
    have HO9 := Lib.hid (show (((((((w6).setCell ⟨g3, i * 5, none⟩ (.int .i64 (xid))).setCell ⟨g3, i * 5 + 1, none⟩ (.int .i64 (xst))).setCell ⟨g3, i * 5 + 2, none⟩ (.slice ax xfb.length cx)).setCell ⟨g3, i * 5 + 3, none⟩ (.int .i64 (xfi))).setCell ⟨g3, i * 5 + 4, none⟩ (.int .i64 (xct)))).heap[w.heap.size]? = some (.cells #[.slice none 0 0, .slice none 0 0, .slice none 0 0] 38 (0, 0)) from by
      rw [heap_setCell_other _ ⟨g3, i * 5 + 4, none⟩ w.heap.size _ (show w.heap.size ≠ g3 by omega), heap_setCell_other _ ⟨g3, i * 5 + 3, none⟩ w.heap.size _ (show w.heap.size ≠ g3 by omega), heap_setCell_other _ ⟨g3, i * 5 + 2, none⟩ w.heap.size _ (show w.heap.size ≠ g3 by omega), heap_setCell_other _ ⟨g3, i * 5 + 1, none⟩ w.heap.size _ (show w.heap.size ≠ g3 by omega), heap_setCell_other _ ⟨g3, i * 5, none⟩ w.heap.size _ (show w.heap.size ≠ g3 by omega)]
      exact CC.out.out)
    go_upto_region 24 with fail
    clear l0 l1 l2 l3 l4 k0' k1' k2' k3' k4' p0 p1 p2 p3 p4 y2 hi9 hi9I hg3 hz9
    dsimp only at CZ
    generalize ((((((w6).setCell ⟨g3, i * 5, none⟩ (.int .i64 (xid))).setCell ⟨g3, i * 5 + 1, none⟩ (.int .i64 (xst))).setCell ⟨g3, i * 5 + 2, none⟩ (.slice ax xfb.length cx)).setCell ⟨g3, i * 5 + 3, none⟩ (.int .i64 (xfi))).setCell ⟨g3, i * 5 + 4, none⟩ (.int .i64 (xct))) = wz at *
    have z0 := blkc HO9.out (show _ = some (Value.slice none 0 0) from rfl) (j := 0)
    have z1 := blkc HO9.out (show _ = some (Value.slice none 0 0) from rfl) (j := 1)
    have z2 := blkc HO9.out (show _ = some (Value.slice none 0 0) from rfl) (j := 2)
    have f0 : wz.frozen? ⟨w.heap.size, 0, none⟩ = false := by have x2 := HO9.out; simp only [World.frozen?, x2]; rfl
    have f1 : wz.frozen? ⟨w.heap.size, 1, none⟩ = false := by have x2 := HO9.out; simp only [World.frozen?, x2]; rfl
    have f2 : wz.frozen? ⟨w.heap.size, 2, none⟩ = false := by have x2 := HO9.out; simp only [World.frozen?, x2]; rfl
    have y0 := blkc CZ.out.box (show _ = some (.slice a1 n.ns.length c1) from rfl) (j := 0)
    have y1 := blkc CZ.out.box (show _ = some (.slice a2 n.fs.length c2) from rfl) (j := 1)
    have y2 := blkc CZ.out.box (show _ = some (Value.slice (some ⟨g3, 0, none⟩) (ps.length) c3) from rfl) (j := 2)
    go_wp2_with fail
    subst hNP
    have HH := PvB.done (m := 900) (K := K) (Z := fun _ ps => ps.length ≤ 30) CZ.out HC1.out HZ1.out (by omega) CZ.out.d.len
    exact bodyPost_ret (v := .agg #[.slice a1 n.ns.length c1, .slice a2 n.fs.length c2, .slice (some ⟨g3, 0, none⟩) (ps.length) c3]) (by simp [results, Tryz.results75, go_sem, z0, z1, z2]) rfl HH
end Go.Proofs.YtmkkdenhjfjmgaaGreat
namespace Go.Proofs.YtmkkdenhjfjmgaaGreat
open Go.RowKit Go.Sort
set_option maxRecDepth 100000

theorem PlD.fbs {w : World} {base : Nat} {u1 u2 u3 : Value} {n : Net} {ps : List (Lgt × Value)} (h : PlD w base u1 u2 u3 n ps) : ∀ i : Nat, (lgA ⟨n, ps.map Prod.fst⟩ i).fb.length ≤ 1000 := fun i => by
  unfold lgA
  by_cases hi : i < ps.length
  · simp only [List.getElem?_map, List.getElem?_eq_getElem hi, Option.map_some, Option.getD_some]
    exact (h.l.els _ (List.getElem_mem hi)).2.1
  · simp only [List.getElem?_map, List.getElem?_eq_none (Nat.le_of_not_lt hi), Option.map_none, Option.getD_none]
    simp [nilL]
end Go.Proofs.YtmkkdenhjfjmgaaGreat
