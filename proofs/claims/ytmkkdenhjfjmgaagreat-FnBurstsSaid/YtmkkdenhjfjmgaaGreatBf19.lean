/- Draws: plans; walk: plan. -/
import Derived.Test.YtmkkdenhjfjmgaaGreatBf17
import Derived.Test.YtmkkdenhjfjmgaaGreatBf18
import Derived.Test.YtmkkdenhjfjmgaaGreatBf16
namespace Go.Proofs.YtmkkdenhjfjmgaaGreat
open Go.RowKit Go.Sort
set_option maxRecDepth 100000

/-- The blocks of a plan. -/
def PlBlk (u1 u2 u3 : Value) (ps : List (Lgt × Value)) (g : Nat) : Prop := u1.ownBlock = some g ∨ u2.ownBlock = some g ∨ u3.ownBlock = some g ∨ ∃ p ∈ ps, p.2.ownBlock = some g
theorem PlD.lt {w : World} {base : Nat} {u1 u2 u3 : Value} {n : Net} {ps : List (Lgt × Value)} (h : PlD w base u1 u2 u3 n ps) {g : Nat} (hg : PlBlk u1 u2 u3 ps g) : base ≤ g ∧ g < w.heap.size := by
  rcases hg with e | e | e | ⟨p, hp, e⟩
  · exact h.n.lt g (.inl e)
  · exact h.n.lt g (.inr e)
  · exact h.l.row.lt g e
  · exact (h.l.els p hp).1.lt g e
theorem PlD.kept2 {w w' : World} {base : Nat} {u1 u2 u3 : Value} {n : Net} {ps : List (Lgt × Value)} (h : PlD w base u1 u2 u3 n ps) (hk : ∀ g, PlBlk u1 u2 u3 ps g → w'.heap[g]? = w.heap[g]?) : PlD w' base u1 u2 u3 n ps :=
  ⟨h.n.kept fun g _ hg => hk g (hg.elim .inl fun e => .inr (.inl e)), ⟨row_kept0 h.l.row fun g hg => hk g (.inr (.inr (.inl hg))), fun p hp => ⟨(h.l.els p hp).1.kept fun g hg => hk g (.inr (.inr (.inr ⟨p, hp, hg⟩))), (h.l.els p hp).2⟩⟩, h.ap, h.len⟩
/-- A plan in a variable (block bP). -/
structure PvB (w wr : World) (B : Nat) (c : Value) (K bP : Nat) (u1 u2 u3 : Value) (n : Net) (ps : List (Lgt × Value)) : Prop where
  cs : CS w B c K wr
  box : wr.heap[bP]? = some (.cells #[u1, u2, u3] 38 (0, 0))
  d : PlD wr w.heap.size u1 u2 u3 n ps
  hb : w.heap.size ≤ bP
  ne : ¬ PlBlk u1 u2 u3 ps bP
section
variable {w wr w' : World} {B K K' bP : Nat} {c u1 u2 u3 : Value} {n : Net} {ps : List (Lgt × Value)}
theorem PvB.mono (h : PvB w wr B c K bP u1 u2 u3 n ps) (hk : K ≤ K') : PvB w wr B c K' bP u1 u2 u3 n ps := ⟨h.cs.mono hk, h.box, h.d, h.hb, h.ne⟩
theorem PvB.call (h : PvB w wr B c K bP u1 u2 u3 n ps) (hc : CS wr B c K' w') : PvB w w' B c K' bP u1 u2 u3 n ps := by
  have hB := h.cs.1.1
  have hbP := h.hb
  exact ⟨h.cs.call hc, hc.blk h.box (by omega), h.d.cs hB hc, h.hb, h.ne⟩
theorem PvB.below (h : PvB w wr B c K bP u1 u2 u3 n ps) (hb : Below wr.heap.size wr w') : PvB w w' B c K bP u1 u2 u3 n ps :=
  ⟨h.cs.below hb, kept_o' h.box hb, h.d.below hb, h.hb, h.ne⟩
theorem PvB.lt (h : PvB w wr B c K bP u1 u2 u3 n ps) : bP < wr.heap.size := (Array.getElem?_eq_some_iff.1 h.box).1
theorem PvB.pick (h : PvB w wr B c K bP u1 u2 u3 n ps) (hk : K ≤ 4000000000000000) (N : Int) (h1 : 1 ≤ N) (h2 : N ≤ 1073741824) :
    Calls Tryz.prog 82 #[.pointer (some ⟨B, 0, none⟩), .int .i64 N] wr fun e w' => ∃ x : Int, 0 ≤ x ∧ x ≤ N - 1 ∧ e = .returned (.int .i64 x) ∧ Hid (PvB w w' B c (K + 2) bP u1 u2 u3 n ps) ∧ CS wr B c (K + 2) w' := by
  refine (pickC B c K N wr h.cs.st hk h1 h2).mono ?_
  rintro e w' ⟨x, x0, x1, rfl, hc, -⟩
  exact ⟨x, x0, x1, rfl, h.call hc, hc⟩
/-- Another plan, of new rows, is stored. -/
theorem PvB.set {v1 v2 v3 : Value} {n' : Net} {qs : List (Lgt × Value)} (h : PvB w wr B c K bP u1 u2 u3 n ps) (hb : Below wr.heap.size wr w') (hd : PlD w' wr.heap.size v1 v2 v3 n' qs) :
    PvB w (((w'.setCell ⟨bP, 0, none⟩ v1).setCell ⟨bP, 1, none⟩ v2).setCell ⟨bP, 2, none⟩ v3) B c K bP v1 v2 v3 n' qs := by
  have h1 := h.lt
  have h2 := h.hb
  have h3 := h.below hb
  have hs := h.cs.size
  have hne : ¬ PlBlk v1 v2 v3 qs bP := fun e => by have := (hd.lt e).1; omega
  refine ⟨((h3.cs.set h2 _).set h2 _).set h2 _, ?_, (hd.kept2 fun g hg => ?_).base (by omega), h2, hne⟩
  · exact heap_setCell_same _ bP 2 _ _ v3 (heap_setCell_same _ bP 1 _ _ v2 (heap_setCell_same _ bP 0 _ _ v1 h3.box))
  · have hg' : g ≠ bP := fun e => hne (e ▸ hg)
    rw [heap_setCell_other _ ⟨bP, 2, none⟩ g _ hg', heap_setCell_other _ ⟨bP, 1, none⟩ g _ hg', heap_setCell_other _ ⟨bP, 0, none⟩ g _ hg']
theorem PvB.frz (h : PvB w wr B c K bP u1 u2 u3 n ps) (j : Nat) : wr.frozen? ⟨bP, j, none⟩ = false := by simp only [World.frozen?, h.box]; rfl
/-- What is handed back: a plan in rows of the call's own. -/
def PvP (Z : Net → List (Lgt × Value) → Prop) (m : Nat) (w : World) (B : Nat) (c : Value) (K : Nat) (e : Ending) (w' : World) : Prop := ∃ u1 u2 u3 n ps, e = .returned (.agg #[u1, u2, u3]) ∧ Z n ps ∧ PlD w' w.heap.size u1 u2 u3 n ps ∧ CS w B c (K + m) w'
theorem PvB.done {Z : Net → List (Lgt × Value) → Prop} {m : Nat} {w1 : World} (h : PvB w1 wr B c K' bP u1 u2 u3 n ps) (h1 : CS w B c K w1) (hs : w1.heap.size = w.heap.size + 1) (hk : K' ≤ K + m) (hz : Z n ps) :
    PvP Z m w B c K (.returned (.agg #[u1, u2, u3])) (((wr.setCell ⟨w.heap.size, 0, none⟩ u1).setCell ⟨w.heap.size, 1, none⟩ u2).setCell ⟨w.heap.size, 2, none⟩ u3) := by
  refine ⟨u1, u2, u3, n, ps, rfl, hz, (h.d.base (by omega)).kept2 fun g hg => ?_, ((((h1.call h.cs).mono hk).set (Nat.le_refl _) u1).set (Nat.le_refl _) u2).set (Nat.le_refl _) u3⟩
  have := (h.d.lt hg).1
  rw [heap_setCell_other _ ⟨w.heap.size, 2, none⟩ g _ (show g ≠ w.heap.size by omega), heap_setCell_other _ ⟨w.heap.size, 1, none⟩ g _ (show g ≠ w.heap.size by omega), heap_setCell_other _ ⟨w.heap.size, 0, none⟩ g _ (show g ≠ w.heap.size by omega)]
/-- The route of one round, in its variable (block bR). -/
structure RtI (w wr : World) (bR : Nat) (st : Int) (v : Value) (xs : List Int) : Prop where
  box : wr.heap[bR]? = some (.cells #[.int .i64 st, v] 90 (0, 0))
  hb : w.heap.size ≤ bR
  x : OwR wr w.heap.size v xs
theorem RtI.call {bR : Nat} {st : Int} {v : Value} {xs : List Int} (h : RtI w wr bR st v xs) (hB : B < w.heap.size) (hc : CS wr B c K' w') : RtI w w' bR st v xs := by
  have := h.hb
  exact ⟨hc.blk h.box (by omega), h.hb, h.x.cs hB hc⟩
theorem RtI.below {bR : Nat} {st : Int} {v : Value} {xs : List Int} (h : RtI w wr bR st v xs) (hb : Below wr.heap.size wr w') : RtI w w' bR st v xs := ⟨kept_o' h.box hb, h.hb, h.x.below hb⟩
theorem Own.cs {w1 w2 : World} {base : Nat} {v : Value} {xs : List Int} (h : Own w1 base v xs) (hB : B < base) (hc : CS w1 B c K w2) : Own w2 base v xs :=
  Own.kept h fun g hg => hc.2.2.block g (h.lt g hg).2 fun e => by have := (h.lt g hg).1; have := Option.some.inj e; omega
end
abbrev planZ (n : Net) (ps : List (Lgt × Value)) : Prop := (0 < n.fs.length ∧ n.fs.length ≤ 9) ∧ ps.length ≤ 8
set_option maxHeartbeats 12800000 in
theorem plan_any (B : Nat) (c : Value) (K : Nat) (w : World) (h : Cs w B c K) (hk : K ≤ 2000000000000000) :
    Calls Tryz.prog 122 #[ptr B] w (PvP planZ 500 w B c K) := by
  have b1 := (Below.refl w.heap.size w).alloc (Nat.le_refl _) (.cells #[.slice none 0 0, .slice none 0 0, .slice none 0 0] 38)
  have k1 := heap_alloc_new w (.cells #[.slice none 0 0, .slice none 0 0, .slice none 0 0] 38)
  have HC1 := Lib.hid (h.here.below b1)
  have HK1 := Lib.hid k1
  have z1 : (w.alloc (.cells #[.slice none 0 0, .slice none 0 0, .slice none 0 0] 38)).heap.size = w.heap.size + 1 := by simp
  have HZ1 := Lib.hid z1
  obtain ⟨NP, hNP⟩ : ∃ NP, NP = PvP planZ 500 w B c K := ⟨_, rfl⟩
  rw [← hNP]
  have hBw := h.lt.1
  clear h b1 k1 z1
  go_enter Tryz.func122, Tryz.ntmps122
  go_wp2_with fail
  generalize w.alloc (.cells #[.slice none 0 0, .slice none 0 0, .slice none 0 0] 38) = w1 at *
  refine (linked_any B c K w1 HC1.out.st (by omega)).mono ?_
  rintro e w2 ⟨u1, u2, n, rfl, hn9, hd, hc2⟩
  obtain ⟨⟨a1, c1, rfl⟩, ⟨a2, c2, rfl⟩⟩ := hd.slices
  have hs2 := hc2.size
  have CC := Lib.hid (show PvB w1 (w2.alloc (.cells #[.slice a1 n.ns.length c1, .slice a2 n.fs.length c2, .slice none 0 0] 38)) B c (K + 100) w2.heap.size (.slice a1 n.ns.length c1) (.slice a2 n.fs.length c2) (.slice none 0 0) n [] from
    ⟨hc2.alloc _, heap_alloc_new _ _, ⟨hd.below ((Below.refl _ _).alloc (Nat.le_refl _) _), ⟨⟨rfl, .inl ⟨rfl, rfl⟩⟩, fun p hp => by cases hp⟩, ⟨fun q _ e => (by cases e), fun q _ e => (by cases e)⟩, by simp⟩, hs2, fun e => by
      rcases e with e | e | e | ⟨p, hp, e⟩
      · have := (hd.lt _ (.inl e)).2; omega
      · have := (hd.lt _ (.inr e)).2; omega
      · cases e
      · cases hp⟩)
  have HO := Lib.hid (CC.out.cs.blk HK1.out (by omega))
  clear hd hc2
  go_upto_region 2 with fail
  generalize w2.heap.size = bP at *
  generalize w2.alloc (.cells #[.slice a1 n.ns.length c1, .slice a2 n.fs.length c2, .slice none 0 0] 38) = w3 at *
  go_wp2_with fail
  refine (CC.out.pick (by omega) 9 (by omega) (by omega)).mono ?_
  rintro e w4 ⟨xm, xm0, xm1, rfl, CC, hc4⟩
  obtain ⟨m, rfl⟩ := Int.eq_ofNat_of_zero_le xm0
  have hm8 : m ≤ 8 := by omega
  have HO := Lib.hid (hc4.blk HO.out (by omega))
  clear hc4
  go_wp2_with fail
  go_loopw [4] (fun s4 wr => ∃ (m : Nat) (u1 u2 u3 : Value) (n : Net) (ps : List (Lgt × Value)), m ≤ 8 ∧ s4 = .int .i64 m ∧ ps.length + m ≤ 8 ∧ (0 < n.fs.length ∧ n.fs.length ≤ 9) ∧ Hid (PvB w1 wr B c (K + 500 - 40 * m) bP u1 u2 u3 n ps)) (fun i _ => (intOf i).toNat)
  case atStart => exact ⟨m, _, _, _, n, [], hm8, rfl, by simpa using hm8, hn9, CC.out.mono (by omega)⟩
  case round =>
    clear CC HO hn9 hm8 xm0 xm1
    obtain ⟨m, u1, u2, u3, n, ps, hm, rfl, hpm, hn9, CC⟩ := hrel
    obtain ⟨⟨a1, c1, rfl⟩, ⟨a2, c2, rfl⟩⟩ := CC.out.d.n.slices
    obtain ⟨a3, c3, rfl⟩ := row_form0 CC.out.d.l.row
    by_cases hlt : 0 < m
    · have hltI : (0 : Int) < (m : Int) := by omega
      have hwm : IntKind.i64.wrap ((m : Int) - 1) = ((m - 1 : Nat) : Int) := by rw [IntWalk.i64_in _ (by omega)]; omega
      have hB := CC.out.cs.1.1
      have hsw := CC.out.cs.size
      obtain ⟨KK0, hKK0⟩ : ∃ KK0, KK0 = K + 500 - 40 * m := ⟨_, rfl⟩
      rw [← hKK0] at CC
      have hK1 : KK0 + 40 ≤ K + 500 - 40 * (m - 1) := by omega
      have hK2 : KK0 ≤ K + 500 := by omega
      clear hKK0
      have ap0 := blkc CC.out.box (show _ = some (Value.slice a1 n.ns.length c1) from rfl) (j := 0)
      have ap1 := blkc CC.out.box (show _ = some (Value.slice a2 n.fs.length c2) from rfl) (j := 1)
      have ap2 := blkc CC.out.box (show _ = some (Value.slice a3 ps.length c3) from rfl) (j := 2)
      go_wp2_with fail
      refine (routed_any B w1.heap.size c KK0 _ _ n _ CC.out.cs.st (by omega) CC.out.d.n hB hn9.1).mono ?_
      rintro e w5 ⟨st, v, rfl, xs, hxl, hx, hc5⟩
      have C5 := Lib.hid (CC.out.call hc5)
      have hs5 := hc5.size
      obtain ⟨ax, cx, rfl⟩ := row_form0 hx
      have C6 := Lib.hid (C5.out.below ((Below.refl _ _).alloc (Nat.le_refl _) (.cells #[.int .i64 st, .slice ax xs.length cx] 90)))
      have R6 := Lib.hid (show RtI w1 (w5.alloc (.cells #[.int .i64 st, .slice ax xs.length cx] 90)) w5.heap.size st (.slice ax xs.length cx) xs from
        ⟨heap_alloc_new _ _, by omega, (hx.below ((Below.refl _ _).alloc (Nat.le_refl _) _)).base hsw⟩)
      clear ap0 ap1 ap2 CC C5 hc5 hx
      go_upto_region 6 with fail
      generalize w5.heap.size = bR at *
      generalize w5.alloc (.cells #[.int .i64 st, .slice ax xs.length cx] 90) = w6 at *
      go_wp2_with fail
      refine (C6.out.pick (by omega) 5 (by omega) (by omega)).mono ?_
      rintro e w7 ⟨xk, xk0, xk1, rfl, C7, hc7⟩
      have R7 := Lib.hid (R6.out.call hB hc7)
      obtain ⟨k, rfl⟩ : ∃ k : Nat, xk = (k : Int) - 1 := ⟨(xk + 1).toNat, by omega⟩
      have hk5 : 1 ≤ k ∧ k ≤ 5 := by omega
      have hwk : IntKind.i64.wrap (1 + ((k : Int) - 1)) = (k : Int) := by rw [IntWalk.i64_in _ (by omega)]; omega
      have hwk2 : 1 + ((k : Int) - 1) = (k : Int) := by omega
      clear C6 R6 hc7
      obtain ⟨⟨a1', c1', e1'⟩, -⟩ := C7.out.d.n.slices
      clear e1'
      have ap0 := blkc C7.out.box (show _ = some (Value.slice a1 n.ns.length c1) from rfl) (j := 0)
      have ap1 := blkc C7.out.box (show _ = some (Value.slice a2 n.fs.length c2) from rfl) (j := 1)
      have ap2 := blkc C7.out.box (show _ = some (Value.slice a3 ps.length c3) from rfl) (j := 2)
      have r0 := blkc R7.out.box (show _ = some (Value.int .i64 st) from rfl) (j := 0)
      have r1 := blkc R7.out.box (show _ = some (Value.slice ax xs.length cx) from rfl) (j := 1)
      go_wp2_with fail
      refine (l9AlongA_any _ _ ⟨n, ps.map Prod.fst⟩ st xs w7 C7.out.d.rd R7.out.x.own.rd).mono ?_
      rintro e w8 ⟨mk, rfl, hb8⟩
      have C8 := Lib.hid (C7.out.below hb8)
      have R8 := Lib.hid (R7.out.below hb8)
      clear C7 R7 ap0 ap1 ap2 r0 r1 hb8
      go_wp2_with fail
      refine (l8Fits_any mk k w8 (by omega)).mono ?_
      rintro e w9 ⟨v7, rfl, ys, hy24, hy, -, hb9⟩
      have C9 := Lib.hid (C8.out.below hb9)
      have R9 := Lib.hid (R8.out.below hb9)
      have hs8 := C8.out.cs.size
      have Y9 := Lib.hid (Own.mono hy hs8)
      obtain ⟨ay, cy, ny, HNY, rfl, hcy, hny, hay⟩ := Y9.out.rd.opn
      have hny24 : ny ≤ 24 := by have := HNY.out; omega
      have HAY := Lib.hid hay
      clear C8 R8 hb9 hy hy24 hay
      by_cases hn0 : 0 < ny
      · have hn0I : (0 : Int) < (ny : Int) := by omega
        obtain ⟨by', oy, rfl, hby, hcy0⟩ := HAY.out hn0
        have y0 := hcy0 0 hn0
        rw [Nat.add_zero] at y0
        have HYC := Lib.hid hcy0
        clear hcy0
        generalize ys[0]?.getD 0 = s0 at *
        go_wp2_with fail
        refine (oneC B c _ 2 w9 C9.out.cs.st (by omega) (by omega) (by omega)).mono ?_
        rintro e wA ⟨b, rfl, hcA, -⟩
        have CA := Lib.hid (C9.out.call hcA)
        have RA := Lib.hid (R9.out.call hB hcA)
        cases b
        · skip
          have hl8 : ps.length ≤ 8 := by omega
          have hw1 : IntKind.i64.wrap ((ps.length : Int) * 3) = (ps.length : Int) * 3 := IntWalk.i64_in _ (by omega)
          have hw2 : IntKind.i64.wrap ((ps.length : Int) * 3 + 1) = (ps.length : Int) * 3 + 1 := IntWalk.i64_in _ (by omega)
          have HSS := Lib.hid (fun (W : World) (KQ : Nat) (h : PvB w1 W B c KQ bP (.slice a1 n.ns.length c1) (.slice a2 n.fs.length c2) (.slice a3 ps.length c3) n ps) (r : RtI w1 W bR st (.slice ax xs.length cx) xs) => show (W.cell? ⟨bP, 0, none⟩ = some (.slice a1 n.ns.length c1) ∧ W.cell? ⟨bP, 1, none⟩ = some (.slice a2 n.fs.length c2) ∧ W.cell? ⟨bP, 2, none⟩ = some (.slice a3 ps.length c3)) ∧ W.cell? ⟨bR, 0, none⟩ = some (.int .i64 st) ∧ W.cell? ⟨bR, 1, none⟩ = some (.slice ax xs.length cx) from
            ⟨⟨blkc h.box rfl, blkc h.box rfl, blkc h.box rfl⟩, blkc r.box rfl, blkc r.box rfl⟩)
          have CD := Lib.hid (CA.out.below (Below.refl _ _).drew)
          have RD := Lib.hid (RA.out.below (Below.refl _ _).drew)
          go_upto_region 12 with fail
          refine wp_region_L [0, 1, 2, 3, 4, 5, 6, 7, 8, 9, 10, 11, 12, 13, 14] (S := fun W => (W.cell? ⟨bP, 0, none⟩ = some (.slice a1 n.ns.length c1) ∧ W.cell? ⟨bP, 1, none⟩ = some (.slice a2 n.fs.length c2) ∧ W.cell? ⟨bP, 2, none⟩ = some (.slice a3 ps.length c3)) ∧ W.cell? ⟨bR, 0, none⟩ = some (.int .i64 st) ∧ W.cell? ⟨bR, 1, none⟩ = some (.slice ax xs.length cx)) (by kernel_rfl) (HSS.out _ _ CD.out RD.out) (fun hH => ?_)
          refine hlTake 0 (v := ?v1) rfl (by kernel_rfl) (by kernel_rfl) (by kernel_rfl) (by kernel_rfl) (fun _ _ _ h => h) (by rfl) ?hy1 hH ?rest1
          case hy1 => ((intro w hSw); (try dsimp only at hSw); go_simp); try with_reducible rfl
          try simp only [Act.put, List.setIfInBounds_toArray, List.set_cons_zero, List.set_cons_succ]
          refine hlTake 1 (v := ?v2) rfl (by kernel_rfl) (by kernel_rfl) (by kernel_rfl) (by kernel_rfl) (fun _ _ _ h => h) (by rfl) ?hy2 hH ?rest2
          case hy2 => ((intro w hSw); (try dsimp only at hSw); go_simp); try with_reducible rfl
          try simp only [Act.put, List.setIfInBounds_toArray, List.set_cons_zero, List.set_cons_succ]
          refine hlTake 2 (v := ?v3) rfl (by kernel_rfl) (by kernel_rfl) (by kernel_rfl) (by kernel_rfl) (fun _ _ _ h => h) (by rfl) ?hy3 hH ?rest3
          case hy3 => ((intro w hSw); (try dsimp only at hSw); go_simp); try with_reducible rfl
          try simp only [Act.put, List.setIfInBounds_toArray, List.set_cons_zero, List.set_cons_succ]
          refine hlTake 3 (v := ?v4) rfl (by kernel_rfl) (by kernel_rfl) (by kernel_rfl) (by kernel_rfl) (fun _ _ _ h => h) (by rfl) ?hy4 hH ?rest4
          case hy4 => ((intro w hSw); (try dsimp only at hSw); go_simp); try with_reducible rfl
          try simp only [Act.put, List.setIfInBounds_toArray, List.set_cons_zero, List.set_cons_succ]
          refine hlTake 4 (v := ?v5) rfl (by kernel_rfl) (by kernel_rfl) (by kernel_rfl) (by kernel_rfl) (fun _ _ _ h => h) (by rfl) ?hy5 hH ?rest5
          case hy5 => ((intro w hSw); (try dsimp only at hSw); go_simp); try with_reducible rfl
          try simp only [Act.put, List.setIfInBounds_toArray, List.set_cons_zero, List.set_cons_succ]
          refine hlTake 5 (v := ?v6) rfl (by kernel_rfl) (by kernel_rfl) (by kernel_rfl) (by kernel_rfl) (fun _ _ _ h => h) (by rfl) ?hy6 hH ?rest6
          case hy6 => ((intro w hSw); (try dsimp only at hSw); go_simp); try with_reducible rfl
          try simp only [Act.put, List.setIfInBounds_toArray, List.set_cons_zero, List.set_cons_succ]
          refine hlTake 6 (v := ?v7) rfl (by kernel_rfl) (by kernel_rfl) (by kernel_rfl) (by kernel_rfl) (fun _ _ _ h => h) (by rfl) ?hy7 hH ?rest7
          case hy7 => ((intro w hSw); (try dsimp only at hSw); go_simp); try with_reducible rfl
          try simp only [Act.put, List.setIfInBounds_toArray, List.set_cons_zero, List.set_cons_succ]
          refine hlTake 9 (v := ?v8) rfl (by kernel_rfl) (by kernel_rfl) (by kernel_rfl) (by kernel_rfl) (fun _ _ _ h => h) (by rfl) ?hy8 hH ?rest8
          case hy8 => ((intro w hSw); (try dsimp only at hSw); go_simp); try with_reducible rfl
          try simp only [Act.put, List.setIfInBounds_toArray, List.set_cons_zero, List.set_cons_succ]
          refine hlTake 10 (v := ?v9) rfl (by kernel_rfl) (by kernel_rfl) (by kernel_rfl) (by kernel_rfl) (fun _ _ _ h => h) (by rfl) ?hy9 hH ?rest9
          case hy9 => ((intro w hSw); (try dsimp only at hSw); go_simp); try with_reducible rfl
          try simp only [Act.put, List.setIfInBounds_toArray, List.set_cons_zero, List.set_cons_succ]
          refine hlTake 11 (v := ?v10) rfl (by kernel_rfl) (by kernel_rfl) (by kernel_rfl) (by kernel_rfl) (fun _ _ _ h => h) (by rfl) ?hy10 hH ?rest10
          case hy10 => ((intro w hSw); (try dsimp only at hSw); go_simp); try with_reducible rfl
          try simp only [Act.put, List.setIfInBounds_toArray, List.set_cons_zero, List.set_cons_succ]
          refine hlTake 12 (v := ?v11) rfl (by kernel_rfl) (by kernel_rfl) (by kernel_rfl) (by kernel_rfl) (fun _ _ _ h => h) (by rfl) ?hy11 hH ?rest11
          case hy11 => ((intro w hSw); (try dsimp only at hSw); go_simp); try with_reducible rfl
          try simp only [Act.put, List.setIfInBounds_toArray, List.set_cons_zero, List.set_cons_succ]
          refine hlReady (rs := [7]) (by kernel_rfl) (by simp) ?_
          refine AllReadyL.cons rfl (fun KK hKK => ?_) AllReadyL.nil
          -- order 7
          go_simp
          go_at_call 82
          refine (CD.out.pick (by omega) 3 (by omega) (by omega)).mono ?_
          rintro e wE ⟨y, y0, y1, rfl, CE, hcE⟩
          have RE := Lib.hid (RD.out.call hB hcE)
          have hw3 : IntKind.i64.wrap ((ps.length : Int) * 3 + 1 + y) = (ps.length : Int) * 3 + 1 + y := IntWalk.i64_in _ (by omega)
          refine hKK.out _ _ (HSS.out _ _ CE.out RE.out) (fun hH => ?_)
          clear hKK KK
          try simp only [Act.put, List.setIfInBounds_toArray, List.set_cons_zero, List.set_cons_succ]
          refine hlTake 8 (v := ?v12) rfl (by kernel_rfl) (by kernel_rfl) (by kernel_rfl) (by kernel_rfl) (fun _ _ _ h => h) (by rfl) ?hy12 hH ?rest12
          case hy12 => ((intro w hSw); (try dsimp only at hSw); go_simp); try with_reducible rfl
          try simp only [Act.put, List.setIfInBounds_toArray, List.set_cons_zero, List.set_cons_succ]
          refine hlTake 13 (v := ?v13) rfl (by kernel_rfl) (by kernel_rfl) (by kernel_rfl) (by kernel_rfl) (fun _ _ _ h => h) (by rfl) ?hy13 hH ?rest13
          case hy13 => ((intro w hSw); (try dsimp only at hSw); go_simp); try with_reducible rfl
          try simp only [Act.put, List.setIfInBounds_toArray, List.set_cons_zero, List.set_cons_succ]
          refine hlStep 14 rfl (by kernel_rfl) (by kernel_rfl) (fun KK hKK => ?_)
          go_simp
          go_at_call 159
          refine (l9Put_any w1.heap.size _ _ _ _ n ps ⟨(ps.length : Int) * 3 + 1 + y, st, xs, s0, k⟩ wE CE.out.d (by omega) RE.out.x.own.rd (by show xs.length ≤ 1000; omega)).mono ?_
          rintro e wF ⟨v1, v2, v3, qs, rfl, hdF, hqF, hbF⟩
          obtain ⟨⟨d1, e1, rfl⟩, d2, e2, rfl⟩ := hdF.n.slices
          obtain ⟨d3, e3, he3⟩ := row_form0 hdF.l.row
          rw [hqF] at he3
          subst he3
          have HQF := Lib.hid hqF
          clear hqF
          have CG := Lib.hid (CE.out.set hbF hdF)
          have CF := CE.out.below hbF
          have g0 := CF.frz 0
          have g1 := CF.frz 1
          have g2 := CF.frz 2
          have k0 := blkc CF.box (show _ = some (Value.slice a1 n.ns.length c1) from rfl) (j := 0)
          have k1 := blkc CF.box (show _ = some (Value.slice a2 n.fs.length c2) from rfl) (j := 1)
          have k2 := blkc CF.box (show _ = some (Value.slice a3 ps.length c3) from rfl) (j := 2)
          refine hKK.out _ _ ?_
          clear hKK KK
          try simp only [Act.put, List.setIfInBounds_toArray, List.set_cons_zero, List.set_cons_succ]
          refine hlStep 15 rfl (by kernel_rfl) (by kernel_rfl) (fun KK hKK => ?_)
          go_simp
          refine hKK.out _ _ ?_
          clear hKK KK
          try simp only [Act.put, List.setIfInBounds_toArray, List.set_cons_zero, List.set_cons_succ]
          refine hlDone (by kernel_rfl) ?_ _
          rotate_left 1
          clear CF g0 g1 g2 k0 k1 k2 hdF hbF HSS CD RD CE RE hH
          go_wp2_with fail
          go_roundw
          case rel => exact ⟨m - 1, _, _, _, n, qs, by omega, by go_num, by have := HQF.out; omega, hn9, CG.out.mono (by omega)⟩
          case measure => simp [intOf]; omega
        · have YA := Lib.hid (Own.cs Y9.out hB hcA)
          go_wp2_with fail
          refine (CA.out.pick (by omega) (ny : Int) (by omega) (by omega)).mono ?_
          rintro e wB ⟨xj, xj0, xj1, rfl, CB, hcB⟩
          have RB := Lib.hid (RA.out.call hB hcB)
          have YB := Lib.hid (Own.cs YA.out hB hcB)
          obtain ⟨j, rfl⟩ := Int.eq_ofNat_of_zero_le xj0
          have hj : j < ny := by omega
          have hjI : (j : Int) < (ny : Int) := by omega
          have yj := (YB.out.cellAt rfl).2 j (by rw [HNY.out]; exact hj)
          generalize ys[j]?.getD 0 = sj at *
          clear CA RA
          go_upto_region 12 with fail
          clear yj
          have hl8 : ps.length ≤ 8 := by omega
          have hw1 : IntKind.i64.wrap ((ps.length : Int) * 3) = (ps.length : Int) * 3 := IntWalk.i64_in _ (by omega)
          have hw2 : IntKind.i64.wrap ((ps.length : Int) * 3 + 1) = (ps.length : Int) * 3 + 1 := IntWalk.i64_in _ (by omega)
          have HSS := Lib.hid (fun (W : World) (KQ : Nat) (h : PvB w1 W B c KQ bP (.slice a1 n.ns.length c1) (.slice a2 n.fs.length c2) (.slice a3 ps.length c3) n ps) (r : RtI w1 W bR st (.slice ax xs.length cx) xs) => show (W.cell? ⟨bP, 0, none⟩ = some (.slice a1 n.ns.length c1) ∧ W.cell? ⟨bP, 1, none⟩ = some (.slice a2 n.fs.length c2) ∧ W.cell? ⟨bP, 2, none⟩ = some (.slice a3 ps.length c3)) ∧ W.cell? ⟨bR, 0, none⟩ = some (.int .i64 st) ∧ W.cell? ⟨bR, 1, none⟩ = some (.slice ax xs.length cx) from
            ⟨⟨blkc h.box rfl, blkc h.box rfl, blkc h.box rfl⟩, blkc r.box rfl, blkc r.box rfl⟩)
          have CD := Lib.hid (CB.out.below (Below.refl _ _).drew)
          have RD := Lib.hid (RB.out.below (Below.refl _ _).drew)
          go_upto_region 12 with fail
          refine wp_region_L [0, 1, 2, 3, 4, 5, 6, 7, 8, 9, 10, 11, 12, 13, 14] (S := fun W => (W.cell? ⟨bP, 0, none⟩ = some (.slice a1 n.ns.length c1) ∧ W.cell? ⟨bP, 1, none⟩ = some (.slice a2 n.fs.length c2) ∧ W.cell? ⟨bP, 2, none⟩ = some (.slice a3 ps.length c3)) ∧ W.cell? ⟨bR, 0, none⟩ = some (.int .i64 st) ∧ W.cell? ⟨bR, 1, none⟩ = some (.slice ax xs.length cx)) (by kernel_rfl) (HSS.out _ _ CD.out RD.out) (fun hH => ?_)
          refine hlTake 0 (v := ?v14) rfl (by kernel_rfl) (by kernel_rfl) (by kernel_rfl) (by kernel_rfl) (fun _ _ _ h => h) (by rfl) ?hy14 hH ?rest14
          case hy14 => ((intro w hSw); (try dsimp only at hSw); go_simp); try with_reducible rfl
          try simp only [Act.put, List.setIfInBounds_toArray, List.set_cons_zero, List.set_cons_succ]
          refine hlTake 1 (v := ?v15) rfl (by kernel_rfl) (by kernel_rfl) (by kernel_rfl) (by kernel_rfl) (fun _ _ _ h => h) (by rfl) ?hy15 hH ?rest15
          case hy15 => ((intro w hSw); (try dsimp only at hSw); go_simp); try with_reducible rfl
          try simp only [Act.put, List.setIfInBounds_toArray, List.set_cons_zero, List.set_cons_succ]
          refine hlTake 2 (v := ?v16) rfl (by kernel_rfl) (by kernel_rfl) (by kernel_rfl) (by kernel_rfl) (fun _ _ _ h => h) (by rfl) ?hy16 hH ?rest16
          case hy16 => ((intro w hSw); (try dsimp only at hSw); go_simp); try with_reducible rfl
          try simp only [Act.put, List.setIfInBounds_toArray, List.set_cons_zero, List.set_cons_succ]
          refine hlTake 3 (v := ?v17) rfl (by kernel_rfl) (by kernel_rfl) (by kernel_rfl) (by kernel_rfl) (fun _ _ _ h => h) (by rfl) ?hy17 hH ?rest17
          case hy17 => ((intro w hSw); (try dsimp only at hSw); go_simp); try with_reducible rfl
          try simp only [Act.put, List.setIfInBounds_toArray, List.set_cons_zero, List.set_cons_succ]
          refine hlTake 4 (v := ?v18) rfl (by kernel_rfl) (by kernel_rfl) (by kernel_rfl) (by kernel_rfl) (fun _ _ _ h => h) (by rfl) ?hy18 hH ?rest18
          case hy18 => ((intro w hSw); (try dsimp only at hSw); go_simp); try with_reducible rfl
          try simp only [Act.put, List.setIfInBounds_toArray, List.set_cons_zero, List.set_cons_succ]
          refine hlTake 5 (v := ?v19) rfl (by kernel_rfl) (by kernel_rfl) (by kernel_rfl) (by kernel_rfl) (fun _ _ _ h => h) (by rfl) ?hy19 hH ?rest19
          case hy19 => ((intro w hSw); (try dsimp only at hSw); go_simp); try with_reducible rfl
          try simp only [Act.put, List.setIfInBounds_toArray, List.set_cons_zero, List.set_cons_succ]
          refine hlTake 6 (v := ?v20) rfl (by kernel_rfl) (by kernel_rfl) (by kernel_rfl) (by kernel_rfl) (fun _ _ _ h => h) (by rfl) ?hy20 hH ?rest20
          case hy20 => ((intro w hSw); (try dsimp only at hSw); go_simp); try with_reducible rfl
          try simp only [Act.put, List.setIfInBounds_toArray, List.set_cons_zero, List.set_cons_succ]
          refine hlTake 9 (v := ?v21) rfl (by kernel_rfl) (by kernel_rfl) (by kernel_rfl) (by kernel_rfl) (fun _ _ _ h => h) (by rfl) ?hy21 hH ?rest21
          case hy21 => ((intro w hSw); (try dsimp only at hSw); go_simp); try with_reducible rfl
          try simp only [Act.put, List.setIfInBounds_toArray, List.set_cons_zero, List.set_cons_succ]
          refine hlTake 10 (v := ?v22) rfl (by kernel_rfl) (by kernel_rfl) (by kernel_rfl) (by kernel_rfl) (fun _ _ _ h => h) (by rfl) ?hy22 hH ?rest22
          case hy22 => ((intro w hSw); (try dsimp only at hSw); go_simp); try with_reducible rfl
          try simp only [Act.put, List.setIfInBounds_toArray, List.set_cons_zero, List.set_cons_succ]
          refine hlTake 11 (v := ?v23) rfl (by kernel_rfl) (by kernel_rfl) (by kernel_rfl) (by kernel_rfl) (fun _ _ _ h => h) (by rfl) ?hy23 hH ?rest23
          case hy23 => ((intro w hSw); (try dsimp only at hSw); go_simp); try with_reducible rfl
          try simp only [Act.put, List.setIfInBounds_toArray, List.set_cons_zero, List.set_cons_succ]
          refine hlTake 12 (v := ?v24) rfl (by kernel_rfl) (by kernel_rfl) (by kernel_rfl) (by kernel_rfl) (fun _ _ _ h => h) (by rfl) ?hy24 hH ?rest24
          case hy24 => ((intro w hSw); (try dsimp only at hSw); go_simp); try with_reducible rfl
          try simp only [Act.put, List.setIfInBounds_toArray, List.set_cons_zero, List.set_cons_succ]
          refine hlReady (rs := [7]) (by kernel_rfl) (by simp) ?_
          refine AllReadyL.cons rfl (fun KK hKK => ?_) AllReadyL.nil
          -- order 7
          go_simp
          go_at_call 82
          refine (CD.out.pick (by omega) 3 (by omega) (by omega)).mono ?_
          rintro e wE ⟨y, y0, y1, rfl, CE, hcE⟩
          have RE := Lib.hid (RD.out.call hB hcE)
          have hw3 : IntKind.i64.wrap ((ps.length : Int) * 3 + 1 + y) = (ps.length : Int) * 3 + 1 + y := IntWalk.i64_in _ (by omega)
          refine hKK.out _ _ (HSS.out _ _ CE.out RE.out) (fun hH => ?_)
          clear hKK KK
          try simp only [Act.put, List.setIfInBounds_toArray, List.set_cons_zero, List.set_cons_succ]
          refine hlTake 8 (v := ?v25) rfl (by kernel_rfl) (by kernel_rfl) (by kernel_rfl) (by kernel_rfl) (fun _ _ _ h => h) (by rfl) ?hy25 hH ?rest25
          case hy25 => ((intro w hSw); (try dsimp only at hSw); go_simp); try with_reducible rfl
          try simp only [Act.put, List.setIfInBounds_toArray, List.set_cons_zero, List.set_cons_succ]
          refine hlTake 13 (v := ?v26) rfl (by kernel_rfl) (by kernel_rfl) (by kernel_rfl) (by kernel_rfl) (fun _ _ _ h => h) (by rfl) ?hy26 hH ?rest26
          case hy26 => ((intro w hSw); (try dsimp only at hSw); go_simp); try with_reducible rfl
          try simp only [Act.put, List.setIfInBounds_toArray, List.set_cons_zero, List.set_cons_succ]
          refine hlStep 14 rfl (by kernel_rfl) (by kernel_rfl) (fun KK hKK => ?_)
          go_simp
          go_at_call 159
          refine (l9Put_any w1.heap.size _ _ _ _ n ps ⟨(ps.length : Int) * 3 + 1 + y, st, xs, sj, k⟩ wE CE.out.d (by omega) RE.out.x.own.rd (by show xs.length ≤ 1000; omega)).mono ?_
          rintro e wF ⟨v1, v2, v3, qs, rfl, hdF, hqF, hbF⟩
          obtain ⟨⟨d1, e1, rfl⟩, d2, e2, rfl⟩ := hdF.n.slices
          obtain ⟨d3, e3, he3⟩ := row_form0 hdF.l.row
          rw [hqF] at he3
          subst he3
          have HQF := Lib.hid hqF
          clear hqF
          have CG := Lib.hid (CE.out.set hbF hdF)
          have CF := CE.out.below hbF
          have g0 := CF.frz 0
          have g1 := CF.frz 1
          have g2 := CF.frz 2
          have k0 := blkc CF.box (show _ = some (Value.slice a1 n.ns.length c1) from rfl) (j := 0)
          have k1 := blkc CF.box (show _ = some (Value.slice a2 n.fs.length c2) from rfl) (j := 1)
          have k2 := blkc CF.box (show _ = some (Value.slice a3 ps.length c3) from rfl) (j := 2)
          refine hKK.out _ _ ?_
          clear hKK KK
          try simp only [Act.put, List.setIfInBounds_toArray, List.set_cons_zero, List.set_cons_succ]
          refine hlStep 15 rfl (by kernel_rfl) (by kernel_rfl) (fun KK hKK => ?_)
          go_simp
          refine hKK.out _ _ ?_
          clear hKK KK
          try simp only [Act.put, List.setIfInBounds_toArray, List.set_cons_zero, List.set_cons_succ]
          refine hlDone (by kernel_rfl) ?_ _
          rotate_left 1
          clear CF g0 g1 g2 k0 k1 k2 hdF hbF HSS CD RD CE RE hH
          go_wp2_with fail
          go_roundw
          case rel => exact ⟨m - 1, _, _, _, n, qs, by omega, by go_num, by have := HQF.out; omega, hn9, CG.out.mono (by omega)⟩
          case measure => simp [intOf]; omega
      · obtain rfl : ny = 0 := by omega
        go_wp2_with fail
        go_roundw
        case rel => exact ⟨m - 1, _, _, _, n, ps, by omega, by go_num, by omega, hn9, C9.out.mono (by omega)⟩
        case measure => simp [intOf]; omega
    · obtain rfl : m = 0 := by omega
      have hB := CC.out.cs.1.1
      have HO := Lib.hid (CC.out.cs.blk HK1.out (by omega))
      have z0 := blkc HO.out (show _ = some (Value.slice none 0 0) from rfl) (j := 0)
      have z1 := blkc HO.out (show _ = some (Value.slice none 0 0) from rfl) (j := 1)
      have z2 := blkc HO.out (show _ = some (Value.slice none 0 0) from rfl) (j := 2)
      have f0 : wr.frozen? ⟨w.heap.size, 0, none⟩ = false := by have x2 := HO.out; simp only [World.frozen?, x2]; rfl
      have f1 : wr.frozen? ⟨w.heap.size, 1, none⟩ = false := by have x2 := HO.out; simp only [World.frozen?, x2]; rfl
      have f2 : wr.frozen? ⟨w.heap.size, 2, none⟩ = false := by have x2 := HO.out; simp only [World.frozen?, x2]; rfl
      have ap0 := blkc CC.out.box (show _ = some (Value.slice a1 n.ns.length c1) from rfl) (j := 0)
      have ap1 := blkc CC.out.box (show _ = some (Value.slice a2 n.fs.length c2) from rfl) (j := 1)
      have ap2 := blkc CC.out.box (show _ = some (Value.slice a3 ps.length c3) from rfl) (j := 2)
      go_wp2_with fail
      subst hNP
      have HH := PvB.done (m := 500) (K := K) (Z := planZ) CC.out HC1.out HZ1.out (by omega) ⟨hn9, by omega⟩
      exact bodyPost_ret (v := .agg #[.slice a1 n.ns.length c1, .slice a2 n.fs.length c2, .slice a3 ps.length c3]) (by simp [results, Tryz.results122, go_sem, z0, z1, z2]) rfl HH
end Go.Proofs.YtmkkdenhjfjmgaaGreat
