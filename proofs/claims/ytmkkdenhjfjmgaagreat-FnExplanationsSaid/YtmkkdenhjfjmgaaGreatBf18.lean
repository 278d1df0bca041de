/- Joined: XDrk XSlc. -/
import Derived.Test.YtmkkdenhjfjmgaaGreatBf17
import Derived.Test.YtmkkdenhjfjmgaaGreatBf14
namespace Go.Proofs.YtmkkdenhjfjmgaaGreat
open Go.RowKit Go.Sort
set_option maxRecDepth 100000

theorem Tryz.infoLgtD : (Tryz.prog.info? 94).map (fun i => (i.zero, i.size, i.bytes)) = some (some (.agg #[.int .i64 0, .int .i64 0, .slice none 0 0, .int .i64 0, .int .i64 0]), 5, 56) := by kernel_rfl
abbrev nilLV : Lgt × Value := (nilL, .slice none 0 0)
/-- The cells of one light. -/
theorem LtRow.at {w : World} {base m c : Nat} {a : Option Addr} {ps : List (Lgt × Value)} (h : LtRow w base (.slice a m c) ps) (i : Nat) (hi : i < ps.length) :
    ∃ g, a = some ⟨g, 0, none⟩ ∧ g < w.heap.size ∧ w.cell? ⟨g, i * 5, none⟩ = some (.int .i64 (ps[i]?.getD nilLV).1.id) ∧ w.cell? ⟨g, i * 5 + 1, none⟩ = some (.int .i64 (ps[i]?.getD nilLV).1.st) ∧ w.cell? ⟨g, i * 5 + 2, none⟩ = some (ps[i]?.getD nilLV).2 ∧ w.cell? ⟨g, i * 5 + 3, none⟩ = some (.int .i64 (ps[i]?.getD nilLV).1.fi) ∧ w.cell? ⟨g, i * 5 + 4, none⟩ = some (.int .i64 (ps[i]?.getD nilLV).1.ct) := by
  rcases h.row.2 with ⟨h1, h2⟩ | ⟨g, cap, cur, h1, h2, h3, _⟩
  · omega
  · cases h1
    have hc := World.ownsRow.cells h.row (g := g) rfl
    have hat : ∀ r, r < 5 → ∀ u, [Value.int .i64 (ps[i]?.getD nilLV).1.id, .int .i64 (ps[i]?.getD nilLV).1.st, (ps[i]?.getD nilLV).2, .int .i64 (ps[i]?.getD nilLV).1.fi, .int .i64 (ps[i]?.getD nilLV).1.ct][r]? = some u → w.cell? ⟨g, i * 5 + r, none⟩ = some u := fun r hr u hu => by
      have := hc (i * 5 + r) u (by rw [ltc_at ps i r hr, List.getElem?_eq_getElem hi]; rw [List.getElem?_eq_getElem hi] at hu; exact hu)
      rw [addr_add, Nat.zero_add] at this
      exact this
    exact ⟨g, rfl, (Array.getElem?_eq_some_iff.1 h3).1, hat 0 (by omega) _ rfl, hat 1 (by omega) _ rfl, hat 2 (by omega) _ rfl, hat 3 (by omega) _ rfl, hat 4 (by omega) _ rfl⟩
/-- A plan in rows of the call's own. -/
structure PlD (w : World) (base : Nat) (u1 u2 u3 : Value) (n : Net) (ps : List (Lgt × Value)) : Prop where
  n : NtD w base u1 u2 n
  l : LtRow w base u3 ps
  ap : Apt u1 u3 ∧ Apt u2 u3
  len : ps.length ≤ 30
theorem PlD.kept {w w' : World} {base : Nat} {u1 u2 u3 : Value} {n : Net} {ps : List (Lgt × Value)} (h : PlD w base u1 u2 u3 n ps) (hk : ∀ g, base ≤ g → g < w.heap.size → w'.heap[g]? = w.heap[g]?) : PlD w' base u1 u2 u3 n ps :=
  ⟨h.n.kept fun g h1 h2 => hk g h1 (h.n.lt g h2).2, h.l.kept hk, h.ap, h.len⟩
theorem PlD.below {w w' : World} {base : Nat} {u1 u2 u3 : Value} {n : Net} {ps : List (Lgt × Value)} (h : PlD w base u1 u2 u3 n ps) (hb : Below w.heap.size w w') : PlD w' base u1 u2 u3 n ps := h.kept fun g _ hg => hb.block g hg
theorem PlD.cs {w1 w2 : World} {base B K : Nat} {c u1 u2 u3 : Value} {n : Net} {ps : List (Lgt × Value)} (h : PlD w1 base u1 u2 u3 n ps) (hB : B < base) (hc : CS w1 B c K w2) : PlD w2 base u1 u2 u3 n ps :=
  h.kept fun g h1 h2 => hc.2.2.block g h2 fun e => by have := Option.some.inj e; omega
theorem PlD.base {w : World} {b b' : Nat} {u1 u2 u3 : Value} {n : Net} {ps : List (Lgt × Value)} (h : PlD w b u1 u2 u3 n ps) (hb : b' ≤ b) : PlD w b' u1 u2 u3 n ps := ⟨h.n.base hb, h.l.base hb, h.ap, h.len⟩
theorem PlD.rd {w : World} {base : Nat} {u1 u2 u3 : Value} {n : Net} {ps : List (Lgt × Value)} (h : PlD w base u1 u2 u3 n ps) : PlnR w (.agg #[u1, u2, u3]) ⟨n, ps.map Prod.fst⟩ := by
  obtain ⟨x1, x2, e, r1, r2, r3⟩ := h.n.rd
  simp only [Value.agg.injEq, Array.mk.injEq, List.cons.injEq, and_true] at e
  obtain ⟨rfl, rfl⟩ := e
  exact ⟨u1, u2, u3, rfl, r1, r2, h.l.rd, r3⟩
/-- What l9Own keeps. -/
structure OwL (w2 wr : World) (b3 : Nat) (v1 v2 v3 : Value) (n : Net) (qs : List (Lgt × Value)) : Prop where
  bel : Below w2.heap.size w2 wr
  hb : w2.heap.size ≤ b3
  box : wr.heap[b3]? = some (.cells #[v1, v2, v3] 38 (0, 0))
  nt : NtD wr w2.heap.size v1 v2 n
  lo : ∀ g, (v1.ownBlock = some g ∨ v2.ownBlock = some g) → g < b3
  lt : LtRow wr (b3 + 1) v3 qs
theorem OwL.below {w2 wr w' : World} {b3 : Nat} {v1 v2 v3 : Value} {n : Net} {qs : List (Lgt × Value)} (h : OwL w2 wr b3 v1 v2 v3 n qs) (hb : Below wr.heap.size wr w') : OwL w2 w' b3 v1 v2 v3 n qs :=
  ⟨h.bel.trans (hb.mono h.bel.size), h.hb, kept_o' h.box hb, h.nt.below hb, h.lo, h.lt.below hb⟩
theorem OwL.app {w2 wr w' : World} {b3 : Nat} {v1 v2 v3 v' s : Value} {n : Net} {x : Lgt} {qs : List (Lgt × Value)} (h : OwL w2 wr b3 v1 v2 v3 n qs) (hr : w'.ownsRow (b3 + 1) 94 5 v' (qs ++ [(x, s)]).length (ltc (qs ++ [(x, s)]))) (hg : wr.grownBy w' v3.ownBlock) (hl : v'.ownBlock = v3.ownBlock ∨ v'.ownBlock = some wr.heap.size) (hs : OwR wr (b3 + 1) s x.fb) (hs3 : Apt s v3) (hx : x.fb.length ≤ 1000) :
    OwL w2 (w'.setCell ⟨b3, 2, none⟩ v') b3 v1 v2 v' n (qs ++ [(x, s)]) := by
  have hb := h.hb
  have l3 := (Array.getElem?_eq_some_iff.1 h.box).1
  have h3 : ∀ q, v3.ownBlock = some q → b3 + 1 ≤ q := fun q hq => (h.lt.row.lt q hq).1
  have hk : ∀ g, g < wr.heap.size → v3.ownBlock ≠ some g → (w'.setCell ⟨b3, 2, none⟩ v').heap[g]? = (if g = b3 then (w'.setCell ⟨b3, 2, none⟩ v').heap[g]? else wr.heap[g]?) := fun g h1 h2 => by
    split
    · rfl
    · rename_i hne
      rw [heap_setCell_other w' ⟨b3, 2, none⟩ g v' hne]
      exact hg.block g h1 fun e => h2 e.symm
  have hk2 : ∀ g, g < wr.heap.size → v3.ownBlock ≠ some g → g ≠ b3 → (w'.setCell ⟨b3, 2, none⟩ v').heap[g]? = wr.heap[g]? := fun g h1 h2 h4 => by rw [hk g h1 h2, if_neg h4]
  have hap : ∀ u, Apt u v3 → (∀ q, u.ownBlock = some q → q < wr.heap.size) → Apt u v' := fun u hu hq q e1 e2 => by
    rcases hl with hl | hl
    · exact hu q e1 (hl.symm.trans e2)
    · have h1 := hq q e1
      rw [hl] at e2
      have := Option.some.inj e2
      omega
  have hbx : w'.heap[b3]? = some (.cells #[v1, v2, v3] 38 (0, 0)) := (hg.block b3 l3 fun e => by have := h3 b3 e.symm; omega).trans h.box
  refine ⟨(h.bel.grown hg h.bel.size fun q hq => by have := h3 q hq; omega).setCell (p := ⟨b3, 2, none⟩) hb v', hb, heap_setCell_same w' b3 2 _ _ v' hbx, h.nt.kept fun g _ hg' => ?_, h.lo, ⟨?_, fun p hp => ?_⟩⟩
  · have h1 := h.lo g hg'
    exact hk2 g (by omega) (fun e => by have := h3 g e; omega) (by omega)
  · refine row_kept0 hr fun g hg' => heap_setCell_other w' ⟨b3, 2, none⟩ g v' ?_
    have := (World.ownsRow.lt hr g hg').1
    show g ≠ b3
    omega
  · rcases List.mem_append.1 hp with hp | hp
    · obtain ⟨e1, e2, e3⟩ := h.lt.els p hp
      exact ⟨e1.kept fun g hg' => hk2 g (e1.lt g hg').2 (fun e => e3 g hg' e) (by have := (e1.lt g hg').1; omega), e2, hap _ e3 fun q hq => (e1.lt q hq).2⟩
    · rw [List.mem_singleton.1 hp]
      exact ⟨hs.kept fun g hg' => hk2 g (hs.lt g hg').2 (fun e => hs3 g hg' e) (by have := (hs.lt g hg').1; omega), hx, hap _ hs3 fun q hq => (hs.lt q hq).2⟩
def OwnPlP (n : Net) (xs : List Lgt) (w : World) (e : Ending) (w' : World) : Prop := ∃ v1 v2 v3 qs, e = .returned (.agg #[v1, v2, v3]) ∧ PlD w' w.heap.size v1 v2 v3 n qs ∧ qs.map Prod.fst = xs ∧ Below w.heap.size w w'
theorem OwL.done {w w2 wr : World} {b3 : Nat} {v1 v2 v3 : Value} {n : Net} {qs : List (Lgt × Value)} {xs : List Lgt} (h : OwL w2 wr b3 v1 v2 v3 n qs) (h2 : Below w.heap.size w w2) (hz : w2.heap.size = w.heap.size + 2) (hx : qs.map Prod.fst = xs) (hl : qs.length ≤ 30) :
    OwnPlP n xs w (.returned (.agg #[v1, v2, v3])) (((wr.setCell ⟨w.heap.size + 1, 0, none⟩ v1).setCell ⟨w.heap.size + 1, 1, none⟩ v2).setCell ⟨w.heap.size + 1, 2, none⟩ v3) := by
  have hb := h.hb
  have hd : PlD wr w2.heap.size v1 v2 v3 n qs := ⟨h.nt, h.lt.base (by omega), ⟨fun q e1 e2 => by have := h.lo q (.inl e1); have := (h.lt.row.lt q e2).1; omega, fun q e1 e2 => by have := h.lo q (.inr e1); have := (h.lt.row.lt q e2).1; omega⟩, hl⟩
  refine ⟨v1, v2, v3, qs, rfl, (hd.kept fun g h1 _ => ?_).base (by omega), hx, (((h2.trans (h.bel.mono h2.size)).setCell (p := ⟨w.heap.size + 1, 0, none⟩) (Nat.le_succ _) v1).setCell (p := ⟨w.heap.size + 1, 1, none⟩) (Nat.le_succ _) v2).setCell (p := ⟨w.heap.size + 1, 2, none⟩) (Nat.le_succ _) v3⟩
  rw [heap_setCell_other _ _ _ _ (show g ≠ w.heap.size + 1 by omega), heap_setCell_other _ _ _ _ (show g ≠ w.heap.size + 1 by omega), heap_setCell_other _ _ _ _ (show g ≠ w.heap.size + 1 by omega)]
set_option maxHeartbeats 12800000 in
theorem l9Own_any (b0 : Nat) (u1 u2 u3 : Value) (n : Net) (ps : List (Lgt × Value)) (w : World) (hp : PlD w b0 u1 u2 u3 n ps) :
    Calls Tryz.prog 192 #[.agg #[u1, u2, u3]] w (OwnPlP n (ps.map Prod.fst) w) := by
  obtain ⟨⟨a1, c1, rfl⟩, a2, c2, rfl⟩ := hp.n.slices
  obtain ⟨a3, c3, rfl⟩ := row_form0 hp.l.row
  obtain ⟨NP, hNP⟩ : ∃ NP, NP = OwnPlP n (ps.map Prod.fst) w := ⟨_, rfl⟩
  rw [← hNP]
  have b1 := (Below.refl w.heap.size w).alloc (Nat.le_refl _) (.cells #[.slice a1 n.ns.length c1, .slice a2 n.fs.length c2, .slice a3 ps.length c3] 38)
  have b2 := b1.alloc b1.size (.cells #[.slice none 0 0, .slice none 0 0, .slice none 0 0] 38)
  have HB2 := Lib.hid b2
  have HP2 := Lib.hid (hp.below b2)
  have hl30 := hp.len
  have HX1 := Lib.hid (show ((w.alloc (.cells #[.slice a1 n.ns.length c1, .slice a2 n.fs.length c2, .slice a3 ps.length c3] 38)).alloc (.cells #[.slice none 0 0, .slice none 0 0, .slice none 0 0] 38)).heap[w.heap.size]? = some (.cells #[.slice a1 n.ns.length c1, .slice a2 n.fs.length c2, .slice a3 ps.length c3] 38 (0, 0)) from (heap_alloc_old _ _ (by simp)).trans (heap_alloc_new w _))
  have HX2 := Lib.hid (show ((w.alloc (.cells #[.slice a1 n.ns.length c1, .slice a2 n.fs.length c2, .slice a3 ps.length c3] 38)).alloc (.cells #[.slice none 0 0, .slice none 0 0, .slice none 0 0] 38)).heap[w.heap.size + 1]? = some (.cells #[.slice none 0 0, .slice none 0 0, .slice none 0 0] 38 (0, 0)) from by have := heap_alloc_new (w.alloc (.cells #[.slice a1 n.ns.length c1, .slice a2 n.fs.length c2, .slice a3 ps.length c3] 38)) (.cells #[.slice none 0 0, .slice none 0 0, .slice none 0 0] 38); simpa using this)
  have HZ2 := Lib.hid (show ((w.alloc (.cells #[.slice a1 n.ns.length c1, .slice a2 n.fs.length c2, .slice a3 ps.length c3] 38)).alloc (.cells #[.slice none 0 0, .slice none 0 0, .slice none 0 0] 38)).heap.size = w.heap.size + 2 by simp)
  have q0 : ((w.alloc (.cells #[.slice a1 n.ns.length c1, .slice a2 n.fs.length c2, .slice a3 ps.length c3] 38)).alloc (.cells #[.slice none 0 0, .slice none 0 0, .slice none 0 0] 38)).cell? ⟨w.heap.size, 0, none⟩ = some (.slice a1 n.ns.length c1) := blkc HX1.out rfl
  have q1 : ((w.alloc (.cells #[.slice a1 n.ns.length c1, .slice a2 n.fs.length c2, .slice a3 ps.length c3] 38)).alloc (.cells #[.slice none 0 0, .slice none 0 0, .slice none 0 0] 38)).cell? ⟨w.heap.size, 1, none⟩ = some (.slice a2 n.fs.length c2) := blkc HX1.out rfl
  clear b1 b2 hp
  go_enter Tryz.func192, Tryz.ntmps192
  go_wp2_with fail
  generalize ((w.alloc (.cells #[.slice a1 n.ns.length c1, .slice a2 n.fs.length c2, .slice a3 ps.length c3] 38)).alloc (.cells #[.slice none 0 0, .slice none 0 0, .slice none 0 0] 38)) = w2 at *
  refine (l2OwnD_any b0 _ _ n w2 HP2.out.n).mono ?_
  rintro e w3 ⟨v1, v2, rfl, hd3, hb3⟩
  obtain ⟨⟨d1, e1, rfl⟩, d2, e2, rfl⟩ := hd3.slices
  have hz3 := hb3.size
  have CC := Lib.hid (show OwL w2 (w3.alloc (.cells #[.slice d1 n.ns.length e1, .slice d2 n.fs.length e2, .slice none 0 0] 38)) w3.heap.size (.slice d1 n.ns.length e1) (.slice d2 n.fs.length e2) (.slice none 0 0) n [] from
    ⟨hb3.alloc hz3 _, hz3, heap_alloc_new _ _, hd3.below ((Below.refl _ _).alloc (Nat.le_refl _) _), fun g hg => (hd3.lt g hg).2, ⟨⟨rfl, .inl ⟨rfl, rfl⟩⟩, fun p hp => by cases hp⟩⟩)
  clear hd3 hb3 q0 q1
  go_wp2_with fail
  generalize w3.heap.size = b3 at *
  generalize hm : ps.length = m at *
  have HM := Lib.hid hm
  clear hm
  have hzz := HZ2.out
  have hb3l := CC.out.hb
  go_loopw [4] (fun i wr => ∃ (k : Nat) (v3 : Value) (qs : List (Lgt × Value)), k ≤ m ∧ i = .int .i64 k ∧ qs.length = k ∧ Hid (qs.map Prod.fst = (ps.map Prod.fst).take k) ∧ Hid (OwL w2 wr b3 (.slice d1 n.ns.length e1) (.slice d2 n.fs.length e2) v3 n qs)) (fun i _ => m - (intOf i).toNat)
  case atStart => exact ⟨0, _, [], Nat.zero_le _, rfl, rfl, rfl, CC.out⟩
  case round =>
    clear CC
    obtain ⟨k, v3, qs, hk, rfl, hqk, HQM, CC⟩ := hrel
    obtain ⟨a9, c9, rfl⟩ := row_form0 CC.out.lt.row
    rw [hqk] at CC
    have HQK := Lib.hid hqk
    have t2 : wr.cell? ⟨w.heap.size, 2, none⟩ = some (.slice a3 m c3) := (CC.out.bel.cell (p := ⟨w.heap.size, 2, none⟩) (show w.heap.size < _ by omega)).trans (blkc HX1.out rfl)
    have y2 : wr.cell? ⟨b3, 2, none⟩ = some (.slice a9 k c9) := blkc CC.out.box rfl
    have HPW := Lib.hid (HP2.out.below CC.out.bel)
    by_cases hlt : k < m
    · have hltI : (k : Int) < (m : Int) := by omega
      have hwk : IntKind.i64.wrap ((k : Int) + 1) = (k : Int) + 1 := IntWalk.i64_in _ (by omega)
      have hlp : k < ps.length := by rw [HM.out]; exact hlt
      obtain ⟨g, rfl, hg, x0, x1, x2, x3, x4⟩ := HPW.out.l.at k hlp
      have hel := HPW.out.l.els (ps[k]?.getD nilLV) (by rw [List.getElem?_eq_getElem hlp]; exact List.getElem_mem hlp)
      have HTK := Lib.hid (show (ps.map Prod.fst).take (k + 1) = (ps.map Prod.fst).take k ++ [(ps[k]?.getD nilLV).1] by
        rw [List.take_add_one, List.getElem?_map, List.getElem?_eq_getElem hlp]; rfl)
      generalize ps[k]?.getD nilLV = y at *
      obtain ⟨x, vx⟩ := y
      simp only at x0 x1 x2 x3 x4 hel HTK
      obtain ⟨ax, cx, rfl⟩ := row_form0 hel.1
      have HLX := Lib.hid hel.2.1
      have hb0 := (Below.refl wr.heap.size wr).drew
      have HCP := Lib.hid (l9Copy_any x (.slice ax x.fb.length cx) wr.drew ((hel.1.below hb0).own.rd) (by have := hel.2.1; omega))
      have y2d : wr.drew.cell? ⟨b3, 2, none⟩ = some (.slice a9 k c9) := y2
      have hbw := (Array.getElem?_eq_some_iff.1 CC.out.box).1
      clear hel
      go_wp2_with fail
      go_region_law (first
        | ((refine step_of_list rfl ?_); (with_reducible show wpList _ _ _ (⟨some 25, _, _, _, _, _⟩ :: _) _ _); (go_loud (refine wpList_catG rfl (.tmp 17) (.tmp 24) 36 94 rfl Tryz.underlying36 (.agg #[.int .i64 0, .int .i64 0, .slice none 0 0, .int .i64 0, .int .i64 0]) 5 56 Tryz.infoLgtD rfl (by decide) (b3 + 1) (.slice a9 k c9) k (ltc qs) (by rfl) HR6.out (some ⟨_, 0, none⟩) 1 _ (ltc [(x, .slice g5 x.fb.length h5)]) (by rfl) rfl (fun e => by cases e) (fun ad e j u hu => by cases e; exact World.news_of_block (heap_alloc_new w5 (.cells #[.int .i64 x.id, .int .i64 x.st, .slice g5 x.fb.length h5, .int .i64 x.fi, .int .i64 x.ct] 94)) j u hu) HOC.out (by unfold maxLen; omega) (by omega) hs6 ?_)); (intro v8 w8 o8 g8 l8); (obtain ⟨a8, c8, rfl⟩ := row_form0 o8); (have HP8 := Lib.hid (CC6.out.app (qs := qs) (v' := .slice a8 (k + 1) c8) (by rw [List.length_append, HQK.out, ltc_app]; exact o8) g8 l8 HX6.out HA6.out HLX.out)); (have x8 := (g8.block b3 hb6 fun e => hn6 e).trans CC6.out.box); (have y8 := blkc x8 (show _ = some _ from rfl) (j := 2)); (have f8 : w8.frozen? ⟨b3, 2, none⟩ = false := (by simp only [World.frozen?, x8]; rfl)); (clear o8 g8 l8 x8); (unfold wpList); (refine ⟨rfl, ?_⟩))
        | (go_simp; go_at_call 193; (with_reducible refine HCP.out.mono ?_); rintro e w5 ⟨v5, rfl, o5, b5⟩; (obtain ⟨g5, h5, rfl⟩ := row_form0 o5); have CC5 := Lib.hid (CC.out.below (hb0.trans (b5.mono hb0.size))); have y5 := blkc CC5.out.box (show _ = some _ from rfl) (j := 2); have CC6 := Lib.hid (CC5.out.below ((Below.refl w5.heap.size w5).alloc (Nat.le_refl _) (.cells #[.int .i64 x.id, .int .i64 x.st, .slice g5 x.fb.length h5, .int .i64 x.fi, .int .i64 x.ct] 94))); have y6 := blkc CC6.out.box (show _ = some _ from rfl) (j := 2); have HR6 := Lib.hid (show (w5.alloc (.cells #[.int .i64 x.id, .int .i64 x.st, .slice g5 x.fb.length h5, .int .i64 x.fi, .int .i64 x.ct] 94)).ownsRow (b3 + 1) 94 5 (.slice a9 k c9) k (ltc qs) from by have := CC6.out.lt.row; rw [HQK.out] at this; exact this); have hs6 : b3 + 1 ≤ (w5.alloc (.cells #[.int .i64 x.id, .int .i64 x.st, .slice g5 x.fb.length h5, .int .i64 x.fi, .int .i64 x.ct] 94)).heap.size := (Array.getElem?_eq_some_iff.1 CC6.out.box).1; have hb6 := (Array.getElem?_eq_some_iff.1 CC6.out.box).1; have hn6 : ¬ some b3 = (Value.slice a9 k c9).ownBlock := (fun e => absurd (CC6.out.lt.row.lt b3 e.symm).1 (by omega)); have HX6 := Lib.hid (show OwR (w5.alloc (.cells #[.int .i64 x.id, .int .i64 x.st, .slice g5 x.fb.length h5, .int .i64 x.fi, .int .i64 x.ct] 94)) (b3 + 1) (.slice g5 x.fb.length h5) x.fb from (OwR.below o5 ((Below.refl w5.heap.size w5).alloc (Nat.le_refl _) (.cells #[.int .i64 x.id, .int .i64 x.st, .slice g5 x.fb.length h5, .int .i64 x.fi, .int .i64 x.ct] 94))).base hbw); have HA6 := Lib.hid (show Apt (.slice g5 x.fb.length h5) (.slice a9 k c9) from fun q h1 h2 => absurd (CC.out.lt.row.lt q h2).2 (Nat.not_lt.2 (OwR.lt o5 q h1).1)); have HOC := Lib.hid (show ∀ u ∈ ltc [(x, Value.slice g5 x.fb.length h5)], u.oneCell' = true from fun u hu => by simp [ltc] at hu; rcases hu with rfl | rfl | rfl | rfl | rfl <;> rfl)))
      all_goals
        have hq1 : (qs ++ [(x, Value.slice g5 x.fb.length h5)]).length = k + 1 := by rw [List.length_append, HQK.out]; rfl
        have HQ1 := Lib.hid (show (qs ++ [(x, Value.slice g5 x.fb.length h5)]).map Prod.fst = (ps.map Prod.fst).take (k + 1) by rw [List.map_append, HQM.out, HTK.out]; rfl)
        clear o5 b5 CC5 CC6 HR6 HX6 HA6 y5 y6 y8 f8 x0 x1 x2 x3 x4 t2 y2 y2d
        go_wp2_with fail
        go_roundw
        case rel => exact ⟨k + 1, _, _, by omega, by go_num, hq1, HQ1.out, HP8.out⟩
        case measure => simp [intOf]; omega
    · have hltI : ¬ (k : Int) < (m : Int) := by omega
      obtain rfl : k = m := by omega
      have hx2 := kept_o' HX2.out CC.out.bel
      have z0 := blkc hx2 (show _ = some (Value.slice none 0 0) from rfl) (j := 0)
      have z1 := blkc hx2 (show _ = some (Value.slice none 0 0) from rfl) (j := 1)
      have z2 := blkc hx2 (show _ = some (Value.slice none 0 0) from rfl) (j := 2)
      have f0 : wr.frozen? ⟨w.heap.size + 1, 0, none⟩ = false := by simp only [World.frozen?, hx2]; rfl
      have f1 : wr.frozen? ⟨w.heap.size + 1, 1, none⟩ = false := by simp only [World.frozen?, hx2]; rfl
      have f2 : wr.frozen? ⟨w.heap.size + 1, 2, none⟩ = false := by simp only [World.frozen?, hx2]; rfl
      have y0 := blkc CC.out.box (show _ = some (Value.slice d1 n.ns.length e1) from rfl) (j := 0)
      have y1 := blkc CC.out.box (show _ = some (Value.slice d2 n.fs.length e2) from rfl) (j := 1)
      clear hx2
      go_wp2_with fail
      subst hNP
      exact bodyPost_ret (v := .agg #[.slice d1 n.ns.length e1, .slice d2 n.fs.length e2, .slice a9 k c9]) (by simp [results, Tryz.results192, go_sem, z0, z1, z2]) rfl (CC.out.done HB2.out HZ2.out (by rw [HQM.out, ← HM.out, ← List.length_map (f := Prod.fst), List.take_length]) (by omega))
end Go.Proofs.YtmkkdenhjfjmgaaGreat
namespace Go.Proofs.YtmkkdenhjfjmgaaGreat
open Go.RowKit Go.Sort
set_option maxRecDepth 100000

theorem slcL_head (a : Option Addr) (m c k : Nat) (hk : k ≤ m) (hm : m ≤ c) (hc : c ≤ 9223372036854775807) (ha : ∀ x, a = some x → x.spot = none) (w : World) :
    (Instr.sliceAt 36 (.slice a m c) none (some (.int .i64 (k : Int))) none).run Tryz.prog w = .ok (.slice a k c) w := by
  have h1 : (0 : Int) ≤ (k : Int) := by omega
  have h2 : (k : Int) ≤ (c : Int) := by omega
  have h3 : ¬ (c : Int) < (k : Int) := by omega
  have h4 : ¬ c < k := by omega
  have h5 : k ≤ c := by omega
  go_simp
def slcT (a : Option Addr) (c k s : Nat) : Option Addr := if c = k then a else a.map (·.add (k * s))
theorem slcL_tail (a : Option Addr) (m c k : Nat) (hk : k ≤ m) (hm : m ≤ c) (hc : c ≤ 9223372036854775807) (w : World) :
    (Instr.sliceAt 36 (.slice a m c) (some (.int .i64 (k : Int))) none none).run Tryz.prog w = .ok (.slice (slcT a c k 5) (m - k) (c - k)) w := by
  have h1 : (0 : Int) ≤ (k : Int) := by omega
  have h2 : (k : Int) ≤ (m : Int) := by omega
  have h3 : ¬ (m : Int) < (k : Int) := by omega
  have h4 : ¬ m < k := by omega
  have h5 : k ≤ c := by omega
  have h6 : (m : Int) ≤ (c : Int) := by omega
  unfold slcT
  go_simp
theorem yields_slc {P : Program} {ρ : Operand → Value} {o : Oper} {t : TypeId} {x : Operand} {lo hi : Option Operand} {v : Value} {w : World} (ho : o.op = .slice t x lo hi none) (h : (Instr.sliceAt t (ρ x) (lo.map ρ) (hi.map ρ) none).run P w = .ok v w) : (execOp ρ o).run P w = .ok (.value v) w := by
  unfold execOp
  simp only [ho]
  simp only [Option.map_none]
  simp [h, go_sem]
/-- A row that lies apart from a growing one. -/
theorem put_keep {w w' : World} {base : Nat} {s v v' : Value} {xs : List Int} (h : OwR w base s xs) (ha : Apt s v) (hg : w.grownBy w' v.ownBlock) (hl : v'.ownBlock = v.ownBlock ∨ v'.ownBlock = some w.heap.size) : OwR w' base s xs ∧ Apt s v' :=
  ⟨h.kept fun q hq => hg.block q (h.lt q hq).2 fun e => ha q hq e.symm, fun q e1 e2 => by
    rcases hl with hl | hl
    · exact ha q e1 (hl.symm.trans e2)
    · have h1 := (h.lt q e1).2
      rw [hl] at e2
      have := Option.some.inj e2
      omega⟩
end Go.Proofs.YtmkkdenhjfjmgaaGreat
