/- Joined: XDrs XRaw XDrt XVin XFsP XFsL XFxP. -/
import Derived.Test.YtmkkdenhjfjmgaaGreatBf24
import Derived.Test.YtmkkdenhjfjmgaaGreatBf11
import Derived.Test.YtmkkdenhjfjmgaaGreatBf04
import Derived.Test.YtmkkdenhjfjmgaaGreatBf01
import Derived.Test.YtmkkdenhjfjmgaaGreatBf06
import Derived.Test.YtmkkdenhjfjmgaaGreatBf07
import Derived.Test.YtmkkdenhjfjmgaaGreatBf12
import Derived.Deep.RegionHeld3
import Derived.Test.YtmkkdenhjfjmgaaGreatBf14
import Derived.Test.YtmkkdenhjfjmgaaGreatBf13
namespace Go.Proofs.YtmkkdenhjfjmgaaGreat
open Go.RowKit Go.Sort
set_option maxRecDepth 100000

/-- What a draw of a list of integers hands back. -/
def IntP (L m : Nat) (w : World) (B : Nat) (c : Value) (K : Nat) (e : Ending) (w' : World) : Prop := ∃ v xs, e = .returned v ∧ Own w' w.heap.size v xs ∧ xs.length ≤ L ∧ CS w B c (K + m) w'
set_option maxHeartbeats 6400000 in
theorem failing_any (B : Nat) (c : Value) (K : Nat) (u1 u2 u3 : Value) (p : Pln) (w : World) (h : Cs w B c K) (hk : K ≤ 2000000000000000) (hp : PlnR w (.agg #[u1, u2, u3]) p) (hfs : p.n.fs.length ≤ 40) :
    Calls Tryz.prog 77 #[ptr B, .agg #[u1, u2, u3]] w (IntP 60 200 w B c K) := by
  have hBw := h.lt.1
  have HGG := Lib.hid (fun w' (hb : Below w.heap.size w w') => l2Groups_any u1 u2 p.n w' ((hp.net).behind hb) (by omega))
  have HGL := Lib.hid (show (grps p.n).length ≤ 49 by have := grps_len p.n; omega)
  obtain ⟨⟨a1, m1, c1, rfl⟩, a2, m2, c2, rfl⟩ := slice_of_net hp.net
  have hu3 : ∃ a3 m3 c3, u3 = .slice a3 m3 c3 := by
    obtain ⟨u1', u2', u3', e, r1, r2, r3, hsm⟩ := hp
    cases e
    obtain ⟨a3, m3, c3, e, -⟩ := lgt_opn r3
    exact ⟨a3, m3, c3, e⟩
  obtain ⟨a3, m3, c3, rfl⟩ := hu3
  have HB1 := Lib.hid ((Below.refl w.heap.size w).alloc (Nat.le_refl _) (.cells #[.slice a1 m1 c1, .slice a2 m2 c2, .slice a3 m3 c3] 38))
  have HX1 := Lib.hid (heap_alloc_new w (.cells #[.slice a1 m1 c1, .slice a2 m2 c2, .slice a3 m3 c3] 38))
  obtain ⟨NP, hNP⟩ : ∃ NP, NP = IntP 60 200 w B c K := ⟨_, rfl⟩
  rw [← hNP]
  have HC := Lib.hid h.here
  clear h hp
  go_enter Tryz.func77, Tryz.ntmps77
  go_upto_region 1 with fail
  generalize w.alloc (.cells #[.slice a1 m1 c1, .slice a2 m2 c2, .slice a3 m3 c3] 38) = w1 at *
  have hs1 := HB1.out.size
  have HB2 := Lib.hid (HB1.out.alloc hs1 (.cells #[] 3))
  have O2 := Lib.hid (show Own (w1.alloc (.cells #[] 3)) w.heap.size (.slice (some ⟨w1.heap.size, 0, none⟩) 0 0) [] from own_of_row (World.ownsRow_made w1 #[] 0 hs1 (Nat.zero_le _) (by simp)))
  have HX2 := Lib.hid ((heap_alloc_old w1 (.cells #[] 3) (Array.getElem?_eq_some_iff.1 HX1.out).1).trans HX1.out)
  go_upto_region 2 with fail
  generalize w1.alloc (.cells #[] 3) = w2 at *
  generalize (some (⟨w1.heap.size, 0, none⟩ : Addr)) = a5 at *
  have t0 := blkc HX2.out (show _ = some (Value.slice a1 m1 c1) from rfl) (j := 0)
  have t1 := blkc HX2.out (show _ = some (Value.slice a2 m2 c2) from rfl) (j := 1)
  go_wp2_with fail
  refine (HGG.out w2 HB2.out).mono ?_
  rintro e w3 ⟨vg, rfl, og, hb3⟩
  obtain ⟨ag, ng, cg, rfl, HNG, -, -, -⟩ := ssD_opn og.rd
  have hng : ng ≤ 49 := by have := HGL.out; have := HNG.out; omega
  have hs2 := HB2.out.size
  have O3 := Lib.hid (O2.out.belowAll hb3)
  have C3 := Lib.hid (HC.out.below (HB2.out.trans (hb3.mono hs2)))
  clear HGG HNG HGL og hb3 t0 t1 HX1 HX2 HB1 HB2 O2 HC
  go_upto_region 4 with fail
  go_loopw [5, 7] (fun s5 s7 wr => ∃ (i : Nat) (xs : List Int), i ≤ ng ∧ s7 = .int .i64 i ∧ xs.length ≤ i ∧ Hid (Own wr w.heap.size s5 xs) ∧ Hid (CS w B c (K + 2 * i) wr)) (fun _ s7 _ => ng - (intOf s7).toNat)
  case atStart => exact ⟨0, [], Nat.zero_le _, rfl, Nat.zero_le _, O3.out, C3.out⟩
  case round =>
    clear O3 C3
    obtain ⟨i, xs, hi, rfl, hx, OO, CC⟩ := hrel
    have hsw := CC.out.size
    by_cases hlt : i < ng
    · have hltI : (i : Int) < (ng : Int) := by omega
      have hwi : IntKind.i64.wrap ((i : Int) + 1) = (i : Int) + 1 := IntWalk.i64_in _ (by omega)
      go_wp2_with fail
      refine (oneC B c _ 4 wr CC.out.st (by omega) (by omega) (by omega)).mono ?_
      rintro e w4 ⟨b, rfl, hc4, -⟩
      have C4 := Lib.hid (CC.out.call hc4)
      have O4 := Lib.hid (Own.kept OO.out fun g hg => hc4.2.2.block g (OO.out.lt g hg).2 fun e => by have := (OO.out.lt g hg).1; have := Option.some.inj e; omega)
      have hs4 := C4.out.size
      clear OO CC hc4
      cases b
      · go_wp2_with fail
        go_roundw
        case rel => exact ⟨i + 1, xs, by omega, by go_num, by omega, O4.out, C4.out.mono (by omega)⟩
        case measure => simp [intOf]; omega
      · go_wp2_with (at_builtin; (refine wpList_pushI rfl (.tmp 20) (.tmp 22) 29 rfl Tryz.underlying29 Tryz.infoInt w.heap.size _ xs rfl O4.out rfl (by omega) hs4 ?_); (intro v8 w8 o8 g8 l8); (have C8 := Lib.hid (C4.out.grown g8 fun g hg => (O4.out.lt g hg).1)); (have O8 := Lib.hid o8); (clear o8 g8 l8))
        go_roundw
        case rel => exact ⟨i + 1, _, by omega, by go_num, by rw [List.length_append, List.length_singleton]; omega, O8.out, C8.out.mono (by omega)⟩
        case measure => simp [intOf]; omega
    · obtain rfl : i = ng := by omega
      go_wp2_with fail
      refine (oneC B c _ 40 wr CC.out.st (by omega) (by omega) (by omega)).mono ?_
      rintro e w4 ⟨b, rfl, hc4, -⟩
      have C4 := Lib.hid (CC.out.call hc4)
      have O4 := Lib.hid (Own.kept OO.out fun g hg => hc4.2.2.block g (OO.out.lt g hg).2 fun e => by have := (OO.out.lt g hg).1; have := Option.some.inj e; omega)
      have hs4 := C4.out.size
      clear OO CC hc4
      cases b
      · go_wp2_with fail
        subst hNP
        exact ⟨_, xs, rfl, O4.out, by omega, C4.out.mono (by omega)⟩
      · go_wp2_with fail
        refine (pickC B c _ 16 w4 C4.out.st (by omega) (by omega) (by omega)).mono ?_
        rintro e w5 ⟨y, y0, y1, rfl, hc5, -⟩
        have C5 := Lib.hid (C4.out.call hc5)
        have O5 := Lib.hid (Own.kept O4.out fun g hg => hc5.2.2.block g (O4.out.lt g hg).2 fun e => by have := (O4.out.lt g hg).1; have := Option.some.inj e; omega)
        have hs5 := C5.out.size
        have hwy : IntKind.i64.wrap (y - 1) = y - 1 := IntWalk.i64_in _ (by omega)
        clear C4 O4 hc5
        go_wp2_with (at_builtin; (refine wpList_pushI rfl (.tmp 26) (.tmp 30) 29 rfl Tryz.underlying29 Tryz.infoInt w.heap.size _ xs rfl O5.out rfl (by omega) hs5 ?_); (intro v8 w8 o8 g8 l8); (have C8 := Lib.hid (C5.out.grown g8 fun g hg => (O5.out.lt g hg).1)); (have O8 := Lib.hid o8); (clear o8 g8 l8))
        subst hNP
        exact ⟨_, _, rfl, O8.out, by rw [List.length_append, List.length_singleton]; omega, C8.out.mono (by omega)⟩
theorem Own.cut1 {w : World} {base g off n cap : Nat} {xs : List Int} (h : Own w base (.slice (some ⟨g, off, none⟩) n cap) xs) (hn : 1 ≤ n) : Own w base (.slice (some ⟨g, off + 1, none⟩) (n - 1) (cap - 1)) (xs.drop 1) := by
  rcases h with ⟨e, _⟩ | ⟨g', off', cap', cur, e, hb, hT, hl, hm, hs, ht⟩
  · cases e
  · simp only [Value.slice.injEq, Option.some.injEq, Addr.mk.injEq, and_true] at e
    obtain ⟨⟨rfl, rfl⟩, rfl, rfl⟩ := e
    refine .inr ⟨g, off + 1, cap - 1, cur, by rw [List.length_drop], hb, hT, by rw [List.length_drop]; omega, by omega, by omega, ?_⟩
    have := congrArg (List.drop 1) ht
    rw [List.drop_take, List.drop_drop] at this
    rw [List.length_drop, this]
    unfold ints
    rw [List.map_drop]
theorem PlD.fbs {w : World} {base : Nat} {u1 u2 u3 : Value} {n : Net} {ps : List (Lgt × Value)} (h : PlD w base u1 u2 u3 n ps) : ∀ i : Nat, (lgA ⟨n, ps.map Prod.fst⟩ i).fb.length ≤ 1000 := fun i => by
  unfold lgA
  by_cases hi : i < ps.length
  · simp only [List.getElem?_map, List.getElem?_eq_getElem hi, Option.map_some, Option.getD_some]
    exact (h.l.els _ (List.getElem_mem hi)).2.1
  · simp only [List.getElem?_map, List.getElem?_eq_none (Nat.le_of_not_lt hi), Option.map_none, Option.getD_none]
    simp [nilL]
set_option maxHeartbeats 6400000 in
theorem downOf_any (B b0 : Nat) (c : Value) (K : Nat) (u1 u2 u3 : Value) (n : Net) (ps : List (Lgt × Value)) (w : World) (h : Cs w B c K) (hk : K ≤ 2000000000000000) (hd : PlD w b0 u1 u2 u3 n ps) (hB0 : B < b0) :
    Calls Tryz.prog 76 #[ptr B, .agg #[u1, u2, u3]] w (IntP 60 300 w B c K) := by
  have hBw := h.lt.1
  have HFA := Lib.hid (fun w' KQ (hK : KQ ≤ 2000000000000000) (hc : Cs w' B c KQ) (hq : PlD w' b0 u1 u2 u3 n ps) => failing_any B c KQ u1 u2 u3 ⟨n, ps.map Prod.fst⟩ w' hc hK hq.rd hq.n.fl)
  have HHI := Lib.hid (fun w' vg gs (hq : PlD w' b0 u1 u2 u3 n ps) (hv : Rd w' vg gs) => specHit_any _ vg ⟨n, ps.map Prod.fst⟩ gs w' hq.rd hv (fun i => Nat.le_trans (hq.fbs i) (by omega)))
  have HP := Lib.hid hd
  obtain ⟨⟨a1, c1, rfl⟩, a2, c2, rfl⟩ := hd.n.slices
  obtain ⟨a3, c3, rfl⟩ := row_form0 hd.l.row
  generalize n.ns.length = m1 at *
  generalize n.fs.length = m2 at *
  generalize ps.length = m3 at *
  have HB1 := Lib.hid ((Below.refl w.heap.size w).alloc (Nat.le_refl _) (.cells #[.slice a1 m1 c1, .slice a2 m2 c2, .slice a3 m3 c3] 38))
  have HX1 := Lib.hid (heap_alloc_new w (.cells #[.slice a1 m1 c1, .slice a2 m2 c2, .slice a3 m3 c3] 38))
  obtain ⟨NP, hNP⟩ : ∃ NP, NP = IntP 60 300 w B c K := ⟨_, rfl⟩
  rw [← hNP]
  have HC := Lib.hid h.here
  clear h hd
  go_enter Tryz.func76, Tryz.ntmps76
  go_upto_region 1 with fail
  generalize w.alloc (.cells #[.slice a1 m1 c1, .slice a2 m2 c2, .slice a3 m3 c3] 38) = w1 at *
  have hs1 := HB1.out.size
  have C1 := Lib.hid (HC.out.below HB1.out)
  have P1 := Lib.hid (HP.out.below HB1.out)
  have HSS := Lib.hid (fun (W : World) (hx : W.heap[w.heap.size]? = some (.cells #[.slice a1 m1 c1, .slice a2 m2 c2, .slice a3 m3 c3] 38 (0, 0))) => show W.cell? ⟨w.heap.size, 0, none⟩ = some (.slice a1 m1 c1) ∧ W.cell? ⟨w.heap.size, 1, none⟩ = some (.slice a2 m2 c2) ∧ W.cell? ⟨w.heap.size, 2, none⟩ = some (.slice a3 m3 c3) from
    ⟨blkc hx rfl, blkc hx rfl, blkc hx rfl⟩)
  refine wp_region_L [0, 1, 2, 3, 4, 5, 6, 7, 8, 9] (S := fun W => W.cell? ⟨w.heap.size, 0, none⟩ = some (.slice a1 m1 c1) ∧ W.cell? ⟨w.heap.size, 1, none⟩ = some (.slice a2 m2 c2) ∧ W.cell? ⟨w.heap.size, 2, none⟩ = some (.slice a3 m3 c3)) (by kernel_rfl) (HSS.out _ HX1.out) (fun hH => ?_)
  have C2 := Lib.hid C1.out.drew
  have P2 := Lib.hid (P1.out.below (Below.refl _ _).drew)
  have x2 : w1.drew.heap[w.heap.size]? = _ := HX1.out
  refine hlTake 0 (v := ?v1) rfl (by kernel_rfl) (by kernel_rfl) (by kernel_rfl) (by kernel_rfl) (fun _ _ _ h => h) (by rfl) ?hy1 hH ?rest1
  case hy1 => ((intro w hSw); (try dsimp only at hSw); go_simp); try with_reducible rfl
  try simp only [Act.put, List.setIfInBounds_toArray, List.set_cons_zero, List.set_cons_succ]
  refine hlTake 1 (v := ?v2) rfl (by kernel_rfl) (by kernel_rfl) (by kernel_rfl) (by kernel_rfl) (fun _ _ _ h => h) (by rfl) ?hy2 hH ?rest2
  case hy2 => ((intro w hSw); (try dsimp only at hSw); go_simp); try with_reducible rfl
  try simp only [Act.put, List.setIfInBounds_toArray, List.set_cons_zero, List.set_cons_succ]
  refine hlTake 2 (v := ?v3) rfl (by kernel_rfl) (by kernel_rfl) (by kernel_rfl) (by kernel_rfl) (fun _ _ _ h => h) (by rfl) ?hy3 hH ?rest3
  case hy3 => ((intro w hSw); (try dsimp only at hSw); go_simp); try with_reducible rfl
  try simp only [Act.put, List.setIfInBounds_toArray, List.set_cons_zero, List.set_cons_succ]
  refine hlReady (rs := [3]) (by kernel_rfl) (by simp) ?_
  refine AllReadyL.cons rfl (fun KK hKK => ?_) AllReadyL.nil
  -- order 3
  go_simp
  go_at_call 77
  refine (HFA.out _ K (by omega) C2.out.st P2.out).mono ?_
  rintro e w3 ⟨v3, xs3, rfl, o3, hl3, hc3⟩
  have C3 := Lib.hid (C2.out.call hc3)
  have P3 := Lib.hid (P2.out.cs hB0 hc3)
  have x3 := hc3.blk x2 (show w.heap.size ≠ B by omega)
  refine hKK.out _ _ (HSS.out _ x3) (fun hH => ?_)
  clear hKK KK
  try simp only [Act.put, List.setIfInBounds_toArray, List.set_cons_zero, List.set_cons_succ]
  refine hlReady (rs := [4]) (by kernel_rfl) (by simp) ?_
  refine AllReadyL.cons rfl (fun KK hKK => ?_) AllReadyL.nil
  -- order 3 4
  go_simp
  go_at_call 23
  refine (HHI.out w3 _ xs3 P3.out o3.rd).mono ?_
  rintro e w4 ⟨v4, rfl, o4, hb4⟩
  have C4 := Lib.hid (C3.out.below hb4)
  have x4 := kept_o' x3 hb4
  have O4 := Lib.hid (o4.own)
  have C3s := Lib.hid C3.out.size
  have hl4 := htR_len (p := ⟨n, ps.map Prod.fst⟩) (gs := xs3)
  generalize gsetOk ⟨n, ps.map Prod.fst⟩ xs3 = ok at *
  generalize htR ⟨n, ps.map Prod.fst⟩ xs3 = ys at *
  refine hKK.out _ _ (HSS.out _ x4) (fun hH => ?_)
  clear hKK KK
  try simp only [Act.put, List.setIfInBounds_toArray, List.set_cons_zero, List.set_cons_succ]
  refine hlTake 5 (v := ?v4) rfl (by kernel_rfl) (by kernel_rfl) (by kernel_rfl) (by kernel_rfl) (fun _ _ _ h => h) (by rfl) ?hy4 hH ?rest4
  case hy4 => ((intro w hSw); (try dsimp only at hSw); go_simp); try with_reducible rfl
  try simp only [Act.put, List.setIfInBounds_toArray, List.set_cons_zero, List.set_cons_succ]
  refine hlTake 6 (v := ?v5) rfl (by kernel_rfl) (by kernel_rfl) (by kernel_rfl) (by kernel_rfl) (fun _ _ _ h => h) (by rfl) ?hy5 hH ?rest5
  case hy5 => ((intro w hSw); (try dsimp only at hSw); go_simp); try with_reducible rfl
  try simp only [Act.put, List.setIfInBounds_toArray, List.set_cons_zero, List.set_cons_succ]
  refine hlTake 7 (v := ?v6) rfl (by kernel_rfl) (by kernel_rfl) (by kernel_rfl) (by kernel_rfl) (fun _ _ _ h => h) (by rfl) ?hy6 hH ?rest6
  case hy6 => ((intro w hSw); (try dsimp only at hSw); go_simp); try with_reducible rfl
  try simp only [Act.put, List.setIfInBounds_toArray, List.set_cons_zero, List.set_cons_succ]
  refine hlTake 8 (v := ?v7) rfl (by kernel_rfl) (by kernel_rfl) (by kernel_rfl) (by kernel_rfl) (fun _ _ _ h => h) (by rfl) ?hy7 hH ?rest7
  case hy7 => ((intro w hSw); (try dsimp only at hSw); go_simp); try with_reducible rfl
  try simp only [Act.put, List.setIfInBounds_toArray, List.set_cons_zero, List.set_cons_succ]
  refine hlStep 9 rfl (by kernel_rfl) (by kernel_rfl) (fun KK hKK => ?_)
  go_simp
  refine hKK.out _ _ ?_
  clear hKK KK
  try simp only [Act.put, List.setIfInBounds_toArray, List.set_cons_zero, List.set_cons_succ]
  refine hlDone (by kernel_rfl) ?_ _
  rotate_left 1
  clear C2 P2 x2 C3 P3 x3 o3 hc3 o4 hb4 HFA HHI HP P1 C1 hH HSS x4
  have hl12 : ys.length ≤ 12 := hl4
  cases ok
  · have OL := Lib.hid (own_of_row (OwR.lit1 (w := w4) (base := w.heap.size) 1 C4.out.size))
    go_wp2_with fail
    subst hNP
    exact ⟨_, [1], rfl, OL.out, by simp, (C4.out.alloc _).mono (by omega)⟩
  · go_wp2_with fail
    refine (oneC B c _ 4 w4 C4.out.st (by omega) (by omega) (by omega)).mono ?_
    rintro e w5 ⟨b, rfl, hc5, -⟩
    have C5 := Lib.hid (C4.out.call hc5)
    have O5 := Lib.hid (Own.kept (O4.out.mono (by have := C3s.out; omega)) fun g hg => hc5.2.2.block g (O4.out.lt g hg).2 fun e => by have := (O4.out.lt g hg).1; have := C3s.out; have := Option.some.inj e; omega)
    clear C4 O4 hc5
    obtain ⟨ay, cy, ny, HNY, rfl, hcy, hny, hay⟩ := O5.out.rd.opn
    have hn12 : ny ≤ 12 := by have := HNY.out; omega
    cases b
    · skip
      go_wp2_with fail
      refine (oneC B c _ 30 _ C5.out.st (by omega) (by omega) (by omega)).mono ?_
      rintro e wT ⟨b2, rfl, hcT, -⟩
      have CT := Lib.hid (C5.out.call hcT)
      have OT := Lib.hid (Own.kept O5.out fun g hg => hcT.2.2.block g (O5.out.lt g hg).2 fun e => by have := (O5.out.lt g hg).1; have := Option.some.inj e; omega)
      have hsT := CT.out.size
      clear hcT
      cases b2
      · go_wp2_with fail
        subst hNP
        exact ⟨_, _, rfl, OT.out, by omega, CT.out.mono (by omega)⟩
      · have CA := Lib.hid (CT.out.alloc (.cells #[.int .i64 0, .int .i64 999, .int .i64 1000] 3))
        have HR := Lib.hid (lit_rng (n := 3) (lo := 0) (hi := 1000) (heap_alloc_new wT (.cells #[.int .i64 0, .int .i64 999, .int .i64 1000] 3)) (by
          intro j hj
          rcases j with _ | _ | _ | j
          · exact ⟨0, by omega, by omega, rfl⟩
          · exact ⟨999, by omega, by omega, rfl⟩
          · exact ⟨1000, by omega, by omega, rfl⟩
          · omega))
        go_wp2_with fail
        refine (amongC B c _ wT.heap.size 3 3 0 1000 _ CA.out.st (by omega) (by omega) (by omega) (by omega) HR.out).mono ?_
        rintro e wU ⟨y, y0, y1, rfl, hcU, hsU⟩
        have CU := Lib.hid (CA.out.call hcU)
        have OU := Lib.hid (Own.kept (OT.out.belowAll ((Below.refl _ _).alloc (Nat.le_refl _) _)) fun g hg => hcU.2.2.block g (by have := (OT.out.lt g hg).2; simp; omega) fun e => by have := (OT.out.lt g hg).1; have := Option.some.inj e; omega)
        have hsU2 := CU.out.size
        clear CA HR hcU hsU CT OT
        go_wp2_with (at_builtin; (refine wpList_pushI rfl (.tmp 29) (.tmp 33) 29 rfl Tryz.underlying29 Tryz.infoInt w.heap.size _ _ rfl OU.out rfl (by omega) hsU2 ?_); (intro v8 w8 o8 g8 l8); (have C8 := Lib.hid (CU.out.grown g8 fun g hg => (OU.out.lt g hg).1)); (have O8 := Lib.hid o8); (clear o8 g8 l8))
        subst hNP
        exact ⟨_, _, rfl, O8.out, by rw [List.length_append, List.length_singleton]; omega, C8.out.mono (by omega)⟩
    · by_cases hn1 : 1 < ny
      · have hn1I : (1 : Int) < (ny : Int) := by omega
        obtain ⟨g, off, rfl, -, -⟩ := hay (by omega)
        have O6 := Lib.hid (O5.out.cut1 (by omega))
        have hck : ¬ cy = 1 := by omega
        have i1 : (1 : Int) ≤ (ny : Int) := by omega
        have i2 : (1 : Int) ≤ (cy : Int) := by omega
        have hly : (ys.drop 1).length ≤ 12 := by rw [List.length_drop]; omega
        go_wp2_with fail
        refine (oneC B c _ 30 _ C5.out.st (by omega) (by omega) (by omega)).mono ?_
        rintro e wT ⟨b2, rfl, hcT, -⟩
        have CT := Lib.hid (C5.out.call hcT)
        have OT := Lib.hid (Own.kept O6.out fun g hg => hcT.2.2.block g (O6.out.lt g hg).2 fun e => by have := (O6.out.lt g hg).1; have := Option.some.inj e; omega)
        have hsT := CT.out.size
        clear hcT
        cases b2
        · go_wp2_with fail
          subst hNP
          exact ⟨_, _, rfl, OT.out, by omega, CT.out.mono (by omega)⟩
        · have CA := Lib.hid (CT.out.alloc (.cells #[.int .i64 0, .int .i64 999, .int .i64 1000] 3))
          have HR := Lib.hid (lit_rng (n := 3) (lo := 0) (hi := 1000) (heap_alloc_new wT (.cells #[.int .i64 0, .int .i64 999, .int .i64 1000] 3)) (by
            intro j hj
            rcases j with _ | _ | _ | j
            · exact ⟨0, by omega, by omega, rfl⟩
            · exact ⟨999, by omega, by omega, rfl⟩
            · exact ⟨1000, by omega, by omega, rfl⟩
            · omega))
          go_wp2_with fail
          refine (amongC B c _ wT.heap.size 3 3 0 1000 _ CA.out.st (by omega) (by omega) (by omega) (by omega) HR.out).mono ?_
          rintro e wU ⟨y, y0, y1, rfl, hcU, hsU⟩
          have CU := Lib.hid (CA.out.call hcU)
          have OU := Lib.hid (Own.kept (OT.out.belowAll ((Below.refl _ _).alloc (Nat.le_refl _) _)) fun g hg => hcU.2.2.block g (by have := (OT.out.lt g hg).2; simp; omega) fun e => by have := (OT.out.lt g hg).1; have := Option.some.inj e; omega)
          have hsU2 := CU.out.size
          clear CA HR hcU hsU CT OT
          go_wp2_with (at_builtin; (refine wpList_pushI rfl (.tmp 29) (.tmp 33) 29 rfl Tryz.underlying29 Tryz.infoInt w.heap.size _ _ rfl OU.out rfl (by omega) hsU2 ?_); (intro v8 w8 o8 g8 l8); (have C8 := Lib.hid (CU.out.grown g8 fun g hg => (OU.out.lt g hg).1)); (have O8 := Lib.hid o8); (clear o8 g8 l8))
          subst hNP
          exact ⟨_, _, rfl, O8.out, by rw [List.length_append, List.length_singleton]; omega, C8.out.mono (by omega)⟩
      · have hn1I : ¬ (1 : Int) < (ny : Int) := by omega
        go_wp2_with fail
        refine (oneC B c _ 30 _ C5.out.st (by omega) (by omega) (by omega)).mono ?_
        rintro e wT ⟨b2, rfl, hcT, -⟩
        have CT := Lib.hid (C5.out.call hcT)
        have OT := Lib.hid (Own.kept O5.out fun g hg => hcT.2.2.block g (O5.out.lt g hg).2 fun e => by have := (O5.out.lt g hg).1; have := Option.some.inj e; omega)
        have hsT := CT.out.size
        clear hcT
        cases b2
        · go_wp2_with fail
          subst hNP
          exact ⟨_, _, rfl, OT.out, by omega, CT.out.mono (by omega)⟩
        · have CA := Lib.hid (CT.out.alloc (.cells #[.int .i64 0, .int .i64 999, .int .i64 1000] 3))
          have HR := Lib.hid (lit_rng (n := 3) (lo := 0) (hi := 1000) (heap_alloc_new wT (.cells #[.int .i64 0, .int .i64 999, .int .i64 1000] 3)) (by
            intro j hj
            rcases j with _ | _ | _ | j
            · exact ⟨0, by omega, by omega, rfl⟩
            · exact ⟨999, by omega, by omega, rfl⟩
            · exact ⟨1000, by omega, by omega, rfl⟩
            · omega))
          go_wp2_with fail
          refine (amongC B c _ wT.heap.size 3 3 0 1000 _ CA.out.st (by omega) (by omega) (by omega) (by omega) HR.out).mono ?_
          rintro e wU ⟨y, y0, y1, rfl, hcU, hsU⟩
          have CU := Lib.hid (CA.out.call hcU)
          have OU := Lib.hid (Own.kept (OT.out.belowAll ((Below.refl _ _).alloc (Nat.le_refl _) _)) fun g hg => hcU.2.2.block g (by have := (OT.out.lt g hg).2; simp; omega) fun e => by have := (OT.out.lt g hg).1; have := Option.some.inj e; omega)
          have hsU2 := CU.out.size
          clear CA HR hcU hsU CT OT
          go_wp2_with (at_builtin; (refine wpList_pushI rfl (.tmp 29) (.tmp 33) 29 rfl Tryz.underlying29 Tryz.infoInt w.heap.size _ _ rfl OU.out rfl (by omega) hsU2 ?_); (intro v8 w8 o8 g8 l8); (have C8 := Lib.hid (CU.out.grown g8 fun g hg => (OU.out.lt g hg).1)); (have O8 := Lib.hid o8); (clear o8 g8 l8))
          subst hNP
          exact ⟨_, _, rfl, O8.out, by rw [List.length_append, List.length_singleton]; omega, C8.out.mono (by omega)⟩
end Go.Proofs.YtmkkdenhjfjmgaaGreat
namespace Go.Proofs.YtmkkdenhjfjmgaaGreat
open Go.RowKit

/-- Bytes that came in. -/
def RawB (w : World) (a : Option Addr) (len cap : Nat) (zs : List Int) : Prop :=
  (a = none ∧ len = 0 ∧ cap = 0 ∧ zs = []) ∨
  ∃ x, a = some x ∧ len ≤ cap ∧ cap ≤ maxLen ∧ zs.length = cap ∧ (∀ i, i < zs.length → w.cell? (x.add i) = some (.int .u8 (zs.getD i 0))) ∧ ∀ n ∈ zs, (Lit.int .u8 n).wf = true

theorem RawB.rd {w : World} {a : Option Addr} {len cap : Nat} {zs : List Int} (h : RawB w a len cap zs) (hl : len ≤ 281474976710656) : RdB w (.slice a len cap) := by
  rcases h with ⟨rfl, rfl, rfl, rfl⟩ | ⟨x, rfl, h1, h2, h3, h4, h5⟩
  · exact ⟨none, 0, 0, rfl, by omega, by omega, by omega⟩
  · refine ⟨some x, len, cap, rfl, h1, hl, fun hp => ?_⟩
    obtain ⟨b, off, spot⟩ := x
    have hc := h4 0 (by omega)
    have hspot : spot = none := by simpa [Addr.add] using World.cell?_spot hc
    subst hspot
    refine ⟨b, off, rfl, World.block_lt_of_cell? w _ (show w.cell? ⟨b, off, none⟩ = some (.int .u8 (zs.getD 0 0)) by simpa [Addr.add] using hc), fun j hj => ?_⟩
    have hj2 : j < zs.length := by omega
    have hw := h5 (zs.getD j 0) (by simp [List.getD, hj2])
    have hb := bounds_u8 hw
    refine ⟨zs.getD j 0, hb.1, by omega, ?_⟩
    have := h4 j hj2
    rw [← this]
    by_cases h0 : j = 0 <;> simp [Addr.add, h0]

theorem vBig_any (a : Option Addr) (len cap : Nat) (w : World) :
    Calls Tryz.prog 30 #[.slice a len cap] w fun e w' => e = .returned (.bool (decide (65536 < (len : Int)))) ∧ w = w' := by
  go_enter Tryz.func30, Tryz.ntmps30
  go_wp2
  go_ret
  exact ⟨rfl, rfl⟩
theorem RdB.behind {w w' : World} {v : Value} (h : RdB w v) (hb : Below w.heap.size w w') : RdB w' v := h.kept hb.size (fun j hj => hb.block j (h.lt j hj))
end Go.Proofs.YtmkkdenhjfjmgaaGreat
namespace Go.Proofs.YtmkkdenhjfjmgaaGreat
open Go.RowKit Go.Sort
set_option maxRecDepth 100000

/-- The draw's memory: the result's variable (block r), the cursor (block B), the plan's variable (block bP). -/
structure DrB (w wr : World) (B : Nat) (c : Value) (K bP : Nat) (u1 u2 u3 : Value) (n : Net) (ps : List (Lgt × Value)) : Prop where
  bel : Below w.heap.size w wr
  cs : Cs wr B c K
  hB : w.heap.size < B ∧ B < bP
  out : wr.heap[w.heap.size]? = some (.cells #[.slice none 0 0, .slice none 0 0, .slice none 0 0] 38 (0, 0))
  box : wr.heap[bP]? = some (.cells #[u1, u2, u3] 38 (0, 0))
  d : PlD wr (B + 1) u1 u2 u3 n ps
section
variable {w wr w' : World} {B K K' bP : Nat} {c u1 u2 u3 : Value} {n : Net} {ps : List (Lgt × Value)}
theorem DrB.call (h : DrB w wr B c K bP u1 u2 u3 n ps) (hc : CS wr B c K' w') : DrB w w' B c K' bP u1 u2 u3 n ps := by
  have hB := h.hB
  exact ⟨hc.belowAll h.bel (by omega), hc.st, h.hB, hc.blk h.out (by omega), hc.blk h.box (by omega), h.d.cs (by omega) hc⟩
theorem DrB.below (h : DrB w wr B c K bP u1 u2 u3 n ps) (hb : Below wr.heap.size wr w') : DrB w w' B c K bP u1 u2 u3 n ps :=
  ⟨h.bel.trans (hb.mono h.bel.size), (h.cs.here.below hb).st, h.hB, kept_o' h.out hb, kept_o' h.box hb, h.d.below hb⟩
/-- The plan is stored into the result. -/
theorem DrB.res (h : DrB w wr B c K bP u1 u2 u3 n ps) : PlD (((wr.setCell ⟨w.heap.size, 0, none⟩ u1).setCell ⟨w.heap.size, 1, none⟩ u2).setCell ⟨w.heap.size, 2, none⟩ u3) (B + 1) u1 u2 u3 n ps ∧ Below w.heap.size w (((wr.setCell ⟨w.heap.size, 0, none⟩ u1).setCell ⟨w.heap.size, 1, none⟩ u2).setCell ⟨w.heap.size, 2, none⟩ u3) := by
  have hB := h.hB
  refine ⟨h.d.kept fun g hg _ => ?_, ((h.bel.setCell (p := ⟨w.heap.size, 0, none⟩) (Nat.le_refl _) u1).setCell (p := ⟨w.heap.size, 1, none⟩) (Nat.le_refl _) u2).setCell (p := ⟨w.heap.size, 2, none⟩) (Nat.le_refl _) u3⟩
  rw [heap_setCell_other _ ⟨w.heap.size, 2, none⟩ g _ (show g ≠ w.heap.size by omega), heap_setCell_other _ ⟨w.heap.size, 1, none⟩ g _ (show g ≠ w.heap.size by omega), heap_setCell_other _ ⟨w.heap.size, 0, none⟩ g _ (show g ≠ w.heap.size by omega)]
end
def DrS (w : World) (e : Ending) (w' : World) : Prop := ∃ u1 u2 u3 v n ps xs, e = .returned (.tuple #[.agg #[u1, u2, u3], v]) ∧ PlD w' w.heap.size u1 u2 u3 n ps ∧ Own w' w.heap.size v xs ∧ xs.length ≤ 60 ∧ Below w.heap.size w w'
set_option maxHeartbeats 6400000 in
theorem drawSG_any (a : Option Addr) (len cap : Nat) (w : World) (h : RdB w (.slice a len cap)) :
    Calls Tryz.prog 31 #[.slice a len cap] w (DrS w) := by
  obtain ⟨NP, hNP⟩ : ∃ NP, NP = DrS w := ⟨_, rfl⟩
  rw [← hNP]
  have B1 := (Below.refl w.heap.size w).alloc (Nat.le_refl _) (.cells #[.slice none 0 0, .slice none 0 0, .slice none 0 0] 38)
  have hs1 : (w.alloc (.cells #[.slice none 0 0, .slice none 0 0, .slice none 0 0] 38)).heap.size = w.heap.size + 1 := by simp
  have HC2 := Lib.hid (show Cs ((w.alloc (.cells #[.slice none 0 0, .slice none 0 0, .slice none 0 0] 38)).alloc (.cells #[.slice a len cap, .int .i64 0, .int .u64 0] 107)) (w.heap.size + 1) (.slice a len cap) 0 from by
    have := curN (RdB.behind h B1)
    rw [hs1] at this
    exact this)
  have HX1 := Lib.hid ((heap_alloc_old (w.alloc (.cells #[.slice none 0 0, .slice none 0 0, .slice none 0 0] 38)) (.cells #[.slice a len cap, .int .i64 0, .int .u64 0] 107) (by simp)).trans (heap_alloc_new w (.cells #[.slice none 0 0, .slice none 0 0, .slice none 0 0] 38)))
  have HB2 := Lib.hid (B1.alloc B1.size (.cells #[.slice a len cap, .int .i64 0, .int .u64 0] 107))
  have HZ2 := Lib.hid (show ((w.alloc (.cells #[.slice none 0 0, .slice none 0 0, .slice none 0 0] 38)).alloc (.cells #[.slice a len cap, .int .i64 0, .int .u64 0] 107)).heap.size = w.heap.size + 2 by simp)
  clear B1 hs1 h
  go_enter Tryz.func31, Tryz.ntmps31
  go_upto_region 2 with fail
  generalize (w.alloc (.cells #[.slice none 0 0, .slice none 0 0, .slice none 0 0] 38)).alloc (.cells #[.slice a len cap, .int .i64 0, .int .u64 0] 107) = w2 at *
  go_wp2_with fail
  refine (anyPlan_any (w.heap.size + 1) _ 0 w2 HC2.out (by omega)).mono ?_
  rintro e w3 ⟨u1, u2, u3, n, ps, rfl, hpl, hd, hc3⟩
  obtain ⟨⟨a1, c1, rfl⟩, ⟨a2, c2, rfl⟩⟩ := hd.n.slices
  obtain ⟨a3, c3, rfl⟩ := row_form0 hd.l.row
  have hz2 := HZ2.out
  have hs3 := hc3.size
  have D4 := Lib.hid (show DrB w (w3.alloc (.cells #[.slice a1 n.ns.length c1, .slice a2 n.fs.length c2, .slice a3 ps.length c3] 38)) (w.heap.size + 1) (.slice a len cap) (0 + 900) w3.heap.size (.slice a1 n.ns.length c1) (.slice a2 n.fs.length c2) (.slice a3 ps.length c3) n ps from
    ⟨(hc3.belowAll HB2.out (by omega)).alloc (by omega) _, (hc3.alloc _).st, ⟨by omega, by omega⟩, (heap_alloc_old w3 _ (by omega)).trans (hc3.blk HX1.out (by omega)), heap_alloc_new w3 _, (hd.below ((Below.refl _ _).alloc (Nat.le_refl _) _)).base (by omega)⟩)
  clear hd hc3 HX1 HC2 HB2
  go_upto_region 3 with fail
  generalize w3.alloc (.cells #[.slice a1 n.ns.length c1, .slice a2 n.fs.length c2, .slice a3 ps.length c3] 38) = w4 at *
  generalize w3.heap.size = bP at *
  have hhB := D4.out.hB
  have HSS := Lib.hid (fun (W : World) (KQ : Nat) (hx : DrB w W (w.heap.size + 1) (.slice a len cap) KQ bP (.slice a1 n.ns.length c1) (.slice a2 n.fs.length c2) (.slice a3 ps.length c3) n ps) => show W.cell? ⟨bP, 0, none⟩ = some (.slice a1 n.ns.length c1) ∧ W.cell? ⟨bP, 1, none⟩ = some (.slice a2 n.fs.length c2) ∧ W.cell? ⟨bP, 2, none⟩ = some (.slice a3 ps.length c3) from
    ⟨blkc hx.box rfl, blkc hx.box rfl, blkc hx.box rfl⟩)
  have D5 := Lib.hid (D4.out.below (Below.refl _ _).drew)
  refine wp_region_L [0, 1, 2, 3, 4] (S := fun W => W.cell? ⟨bP, 0, none⟩ = some (.slice a1 n.ns.length c1) ∧ W.cell? ⟨bP, 1, none⟩ = some (.slice a2 n.fs.length c2) ∧ W.cell? ⟨bP, 2, none⟩ = some (.slice a3 ps.length c3)) (by kernel_rfl) (HSS.out _ _ D5.out) (fun hH => ?_)
  refine hlTake 0 (v := ?v1) rfl (by kernel_rfl) (by kernel_rfl) (by kernel_rfl) (by kernel_rfl) (fun _ _ _ h => h) (by rfl) ?hy1 hH ?rest1
  case hy1 => ((intro w hSw); (try dsimp only at hSw); go_simp); try with_reducible rfl
  try simp only [Act.put, List.setIfInBounds_toArray, List.set_cons_zero, List.set_cons_succ]
  refine hlTake 1 (v := ?v2) rfl (by kernel_rfl) (by kernel_rfl) (by kernel_rfl) (by kernel_rfl) (fun _ _ _ h => h) (by rfl) ?hy2 hH ?rest2
  case hy2 => ((intro w hSw); (try dsimp only at hSw); go_simp); try with_reducible rfl
  try simp only [Act.put, List.setIfInBounds_toArray, List.set_cons_zero, List.set_cons_succ]
  refine hlTake 2 (v := ?v3) rfl (by kernel_rfl) (by kernel_rfl) (by kernel_rfl) (by kernel_rfl) (fun _ _ _ h => h) (by rfl) ?hy3 hH ?rest3
  case hy3 => ((intro w hSw); (try dsimp only at hSw); go_simp); try with_reducible rfl
  try simp only [Act.put, List.setIfInBounds_toArray, List.set_cons_zero, List.set_cons_succ]
  refine hlReady (rs := [3]) (by kernel_rfl) (by simp) ?_
  refine AllReadyL.cons rfl (fun KK hKK => ?_) AllReadyL.nil
  -- order 3
  go_simp
  go_at_call 76
  refine (downOf_any (w.heap.size + 1) (w.heap.size + 2) _ _ _ _ _ n ps _ D5.out.cs (by omega) D5.out.d (by omega)).mono ?_
  rintro e w6 ⟨v6, xs, rfl, o6, hl6, hc6⟩
  have hs5 := D5.out.bel.size
  have D6 := Lib.hid (D5.out.call hc6)
  have O6 := Lib.hid (Own.mono o6 (show w.heap.size + 1 ≤ _ by have := D5.out.cs.lt.1; omega))
  have z0 := blkc D6.out.out (show _ = some (Value.slice none 0 0) from rfl) (j := 0)
  have z1 := blkc D6.out.out (show _ = some (Value.slice none 0 0) from rfl) (j := 1)
  have z2 := blkc D6.out.out (show _ = some (Value.slice none 0 0) from rfl) (j := 2)
  have f0 : (w6).frozen? ⟨w.heap.size, 0, none⟩ = false := by have x2 := D6.out.out; simp only [World.frozen?, x2]; rfl
  have f1 : (w6).frozen? ⟨w.heap.size, 1, none⟩ = false := by have x2 := D6.out.out; simp only [World.frozen?, x2]; rfl
  have f2 : (w6).frozen? ⟨w.heap.size, 2, none⟩ = false := by have x2 := D6.out.out; simp only [World.frozen?, x2]; rfl
  refine hKK.out _ _ (HSS.out _ _ D6.out) (fun hH => ?_)
  clear hKK KK
  try simp only [Act.put, List.setIfInBounds_toArray, List.set_cons_zero, List.set_cons_succ]
  refine hlStep 4 rfl (by kernel_rfl) (by kernel_rfl) (fun KK hKK => ?_)
  go_simp
  refine hKK.out _ _ ?_
  clear hKK KK
  try simp only [Act.put, List.setIfInBounds_toArray, List.set_cons_zero, List.set_cons_succ]
  refine hlStep 5 rfl (by kernel_rfl) (by kernel_rfl) (fun KK hKK => ?_)
  go_simp
  refine hKK.out _ _ ?_
  clear hKK KK
  try simp only [Act.put, List.setIfInBounds_toArray, List.set_cons_zero, List.set_cons_succ]
  refine hlDone (by kernel_rfl) ?_ _
  rotate_left 1
  go_wp2_with fail
  subst hNP
  have HR := D6.out.res
  have hn : ∀ g, v6.ownBlock = some g → g ≠ w.heap.size := fun g hg => by have := (O6.out.lt g hg).1; omega
  exact bodyPost_ret (v := .tuple #[.agg #[.slice a1 n.ns.length c1, .slice a2 n.fs.length c2, .slice a3 ps.length c3], v6]) (by simp [results, Tryz.results31, go_sem, z0, z1, z2]) rfl
    ⟨_, _, _, v6, n, ps, xs, rfl, HR.1.base (by omega), (Own.kept O6.out fun g hg => by rw [heap_setCell_other _ ⟨w.heap.size, 2, none⟩ g _ (hn g hg), heap_setCell_other _ ⟨w.heap.size, 1, none⟩ g _ (hn g hg), heap_setCell_other _ ⟨w.heap.size, 0, none⟩ g _ (hn g hg)]).mono (by omega), hl6, HR.2⟩
set_option maxHeartbeats 6400000 in
theorem drawME_any (a : Option Addr) (len cap : Nat) (w : World) (h : RdB w (.slice a len cap)) :
    Calls Tryz.prog 50 #[.slice a len cap] w (DrS w) := by
  obtain ⟨NP, hNP⟩ : ∃ NP, NP = DrS w := ⟨_, rfl⟩
  rw [← hNP]
  have B1 := (Below.refl w.heap.size w).alloc (Nat.le_refl _) (.cells #[.slice none 0 0, .slice none 0 0, .slice none 0 0] 38)
  have hs1 : (w.alloc (.cells #[.slice none 0 0, .slice none 0 0, .slice none 0 0] 38)).heap.size = w.heap.size + 1 := by simp
  have HR1 := Lib.hid (drawSG_any a len cap _ (RdB.behind h B1))
  have HX1 := Lib.hid (heap_alloc_new w (.cells #[.slice none 0 0, .slice none 0 0, .slice none 0 0] 38))
  have HB1 := Lib.hid B1
  have HS1 := Lib.hid hs1
  clear B1 hs1 h
  go_enter Tryz.func50, Tryz.ntmps50
  go_upto_region 1 with fail
  generalize w.alloc (.cells #[.slice none 0 0, .slice none 0 0, .slice none 0 0] 38) = w1 at *
  go_wp2_with fail
  refine HR1.out.mono ?_
  rintro e w2 ⟨u1, u2, u3, v, n, ps, xs, rfl, hd, ho, hl, hb⟩
  obtain ⟨⟨a1, c1, rfl⟩, ⟨a2, c2, rfl⟩⟩ := hd.n.slices
  obtain ⟨a3, c3, rfl⟩ := row_form0 hd.l.row
  have hs1 := HS1.out
  have hx2 := kept_o' HX1.out hb
  have z0 := blkc hx2 (show _ = some (Value.slice none 0 0) from rfl) (j := 0)
  have z1 := blkc hx2 (show _ = some (Value.slice none 0 0) from rfl) (j := 1)
  have z2 := blkc hx2 (show _ = some (Value.slice none 0 0) from rfl) (j := 2)
  have f0 : w2.frozen? ⟨w.heap.size, 0, none⟩ = false := by simp only [World.frozen?, hx2]; rfl
  have f1 : w2.frozen? ⟨w.heap.size, 1, none⟩ = false := by simp only [World.frozen?, hx2]; rfl
  have f2 : w2.frozen? ⟨w.heap.size, 2, none⟩ = false := by simp only [World.frozen?, hx2]; rfl
  have HD := Lib.hid hd
  have HO := Lib.hid ho
  have HB := Lib.hid hb
  clear hd ho hb hx2
  go_wp2_with fail
  subst hNP
  have hn : ∀ g, v.ownBlock = some g → g ≠ w.heap.size := fun g hg => by have := (HO.out.lt g hg).1; omega
  exact bodyPost_ret (v := .tuple #[.agg #[.slice a1 n.ns.length c1, .slice a2 n.fs.length c2, .slice a3 ps.length c3], v]) (by simp [results, Tryz.results50, go_sem, z0, z1, z2]) rfl
    ⟨_, _, _, v, n, ps, xs, rfl, (HD.out.kept fun g hg _ => by rw [heap_setCell_other _ ⟨w.heap.size, 2, none⟩ g _ (show g ≠ w.heap.size by omega), heap_setCell_other _ ⟨w.heap.size, 1, none⟩ g _ (show g ≠ w.heap.size by omega), heap_setCell_other _ ⟨w.heap.size, 0, none⟩ g _ (show g ≠ w.heap.size by omega)]).base (by omega), (Own.kept HO.out fun g hg => by rw [heap_setCell_other _ ⟨w.heap.size, 2, none⟩ g _ (hn g hg), heap_setCell_other _ ⟨w.heap.size, 1, none⟩ g _ (hn g hg), heap_setCell_other _ ⟨w.heap.size, 0, none⟩ g _ (hn g hg)]).mono (by omega), hl,
      (((HB1.out.trans (HB.out.mono (by omega))).setCell (p := ⟨w.heap.size, 0, none⟩) (Nat.le_refl _) _).setCell (p := ⟨w.heap.size, 1, none⟩) (Nat.le_refl _) _).setCell (p := ⟨w.heap.size, 2, none⟩) (Nat.le_refl _) _⟩
end Go.Proofs.YtmkkdenhjfjmgaaGreat
namespace Go.Proofs.YtmkkdenhjfjmgaaGreat
open Go.RowKit
set_option maxRecDepth 100000

set_option maxHeartbeats 800000 in
theorem vInts_any (va vb : Value) (xs ys : List Int) (w : World) (ha : Rd w va xs) (hb : Rd w vb ys) :
    Calls Tryz.prog 32 #[va, vb] w fun e w' => e = .returned (.bool (eqL xs ys)) ∧ Dr w w' := by
  obtain ⟨a, capa, n, HX, rfl, _, hla, ha⟩ := ha.opn
  obtain ⟨b, capb, m, HY, rfl, _, hlb, hb⟩ := hb.opn
  by_cases hn : n = m
  · subst hn
    have hne : ((n : Int) != (n : Int)) = false := by simp
    have HR := Lib.hid (show xs = ys → eqL xs ys = true from eqL_of)
    have HN := Lib.hid (show xs ≠ ys → eqL xs ys = false from fun h => by simp [eqL, h])
    generalize eqL xs ys = r at *
    go_enter Tryz.func32, Tryz.ntmps32
    go_wp2
    go_loopw [5] (fun i wr => ∃ k : Nat, k ≤ n ∧ i = .int .i64 k ∧ Hid (xs.take k = ys.take k) ∧ Dr w wr) (fun i _ => n - (intOf i).toNat)
    case atStart => exact ⟨0, by omega, rfl, by simp [Hid], Dr.refl _⟩
    case round =>
      obtain ⟨k, hk, rfl, HT, m, rfl⟩ := hrel
      by_cases hlt : k < n
      · obtain ⟨b1, o1, rfl, hs1, hc1⟩ := ha (by omega)
        obtain ⟨b2, o2, rfl, hs2, hc2⟩ := hb (by omega)
        have c1 := hc1 k hlt
        have c2 := hc2 k hlt
        clear hc1 hc2
        by_cases he : (xs[k]?.getD 0) = (ys[k]?.getD 0)
        · have hne2 : ((xs[k]?.getD 0) != (ys[k]?.getD 0)) = false := by simpa using he
          have HE := Lib.hid he
          clear he
          go_wp2
          go_quiet (fail)
          go_wp2
          go_roundw
          case rel => exact ⟨k + 1, by omega, by go_num, take_eq_step (by rw [HX.out]; exact hlt) (by rw [HY.out]; exact hlt) HT.out HE.out, ⟨_, rfl⟩⟩
          case measure => simp [intOf]; omega
        · have hne2 : ((xs[k]?.getD 0) != (ys[k]?.getD 0)) = true := by simpa using he
          have HE := Lib.hid he
          clear he
          go_wp2
          go_quiet (fail)
          go_wp2
          go_ret
          exact ⟨by rw [HN.out (fun h => HE.out (by rw [h]))]; rfl, Dr.drewN ⟨_, rfl⟩ _⟩
      · obtain rfl : k = n := by omega
        go_wp2
        go_ret
        have hh := HT.out
        rw [← HX.out, List.take_length, HX.out, ← HY.out, List.take_length] at hh
        exact ⟨by rw [HR.out hh]; rfl, ⟨_, rfl⟩⟩
  · have hne : ((n : Int) != (m : Int)) = true := by rw [bne_iff_ne]; omega
    have he : eqL xs ys = false := by simp only [eqL, decide_eq_false_iff_not]; exact fun h => hn (by rw [← HX.out, ← HY.out, h])
    have HE := Lib.hid he
    clear he
    go_enter Tryz.func32, Tryz.ntmps32
    go_wp2
    go_ret
    exact ⟨by rw [HE.out]; rfl, Dr.refl _⟩

set_option maxHeartbeats 3200000 in
theorem vHas_any (v : Value) (xs : List Int) (x : Int) (w : World) (h : Rd w v xs) :
    Calls Tryz.prog 33 #[v, .int .i64 x] w fun e w' => e = .returned (.bool (xs.contains x)) ∧ w = w' := by
  obtain ⟨a, cap, n, HN, rfl, _, hnl, ha⟩ := h.opn
  have HA := Lib.hid ha
  have HP := Lib.hid (fun k (hk : k < xs.length) => @hasI_yes xs x k hk)
  have HM := Lib.hid (fun k (hk : k < xs.length) => @anyI_more xs x k hk)
  have HO := Lib.hid (@hasI_no xs x)
  clear ha h
  generalize xs.contains x = r at *
  go_enter Tryz.func33, Tryz.ntmps33
  go_wp2
  go_loop [5] (fun i => ∃ k : Nat, k ≤ n ∧ i = .int .i64 k ∧ Hid ((xs.take k).any (fun s => s == x) = false)) (fun i => n - (intOf i).toNat)
  case atStart => exact ⟨0, Nat.zero_le _, rfl, by simp [Hid]⟩
  case round =>
    obtain ⟨k, hk, rfl, HT⟩ := hrel
    by_cases hlt : k < n
    · have hltI : (k : Int) < (n : Int) := by omega
      have hkx : k < xs.length := by rw [HN.out]; exact hlt
      obtain ⟨b, off, rfl, hbs, hcs⟩ := HA.out (by omega)
      have hc0 := hcs k hlt
      have HP1 := Lib.hid (HP.out k hkx)
      have HM1 := Lib.hid (HM.out k hkx HT.out)
      clear hcs hkx
      generalize xs[k]?.getD 0 = y at *
      by_cases he : y = x
      · have HE := Lib.hid (HP1.out he)
        have hb2 : (y == x) = true := by simp [he]
        clear he
        go_wp2
        go_ret
        exact ⟨by rw [HE.out]; rfl, rfl⟩
      · have HE := Lib.hid (HM1.out he)
        have hb2 : (y == x) = false := by simp [he]
        clear he
        go_wp2
        go_round
        case rel => exact ⟨k + 1, by omega, by go_num, HE.out⟩
        case measure => simp [intOf]; omega
    · obtain rfl : k = n := by omega
      have hall := HT.out
      rw [← HN.out, List.take_length] at hall
      have HE := Lib.hid (HO.out hall)
      clear hall
      go_wp2
      go_ret
      exact ⟨by rw [HE.out]; rfl, rfl⟩
end Go.Proofs.YtmkkdenhjfjmgaaGreat
namespace Go.Proofs.YtmkkdenhjfjmgaaGreat

theorem htR_yes {p : Pln} {gs : List Int} (h : gsetOk p gs = true) : htR p gs = hts p gs := by unfold htR; rw [if_pos h]
end Go.Proofs.YtmkkdenhjfjmgaaGreat
namespace Go.Proofs.YtmkkdenhjfjmgaaGreat
open Go.RowKit Go.Sort
set_option maxRecDepth 100000

/-- A plan in a law's variable. -/
structure Mm (w W : World) (bP : Nat) (u1 u2 u3 : Value) (p : Pln) : Prop where
  bel : Below w.heap.size w W
  box : W.heap[bP]? = some (.cells #[u1, u2, u3] 38 (0, 0))
  pr : PlnR W (.agg #[u1, u2, u3]) p
  fb : ∀ i : Nat, (lgA p i).fb.length ≤ 1100000
theorem Mm.below {w W W' : World} {bP : Nat} {u1 u2 u3 : Value} {p : Pln} (h : Mm w W bP u1 u2 u3 p) (hb : Below W.heap.size W W') : Mm w W' bP u1 u2 u3 p :=
  ⟨h.bel.trans (hb.mono h.bel.size), kept_o' h.box hb, h.pr.behind hb, h.fb⟩
theorem Mm.mk' {w w1 : World} {u1 u2 u3 : Value} {n : Net} {ps : List (Lgt × Value)} {b : Nat} (hd : PlD w1 b u1 u2 u3 n ps) (hb : Below w.heap.size w w1) : Mm w (w1.alloc (.cells #[u1, u2, u3] 38)) w1.heap.size u1 u2 u3 ⟨n, ps.map Prod.fst⟩ :=
  ⟨hb.alloc hb.size _, heap_alloc_new _ _, (hd.below ((Below.refl _ _).alloc (Nat.le_refl _) _)).rd, fun i => Nat.le_trans (hd.fbs i) (by omega)⟩
theorem drewN_bel {w : World} {m : Nat} : Below w.heap.size w (w.drewN m) := ⟨rfl, rfl, rfl, Nat.le_refl _, fun _ _ => rfl⟩
def LawP (w : World) (e : Ending) (w' : World) : Prop := e = .returned (.bool true) ∧ Below w.heap.size w w'
end Go.Proofs.YtmkkdenhjfjmgaaGreat
namespace Go.Proofs.YtmkkdenhjfjmgaaGreat

theorem frm_in {g : Nat → List (List Int)} {x : List Int} : ∀ {m f k : Nat}, f ≤ k → k < f + m → x ∈ g k → x ∈ frm g m f
  | 0, f, k, h1, h2, _ => by omega
  | m + 1, f, k, h1, h2, h => by
    show x ∈ g f ++ frm g m (f + 1)
    by_cases e : f = k
    · subst e; exact List.mem_append_left _ h
    · exact List.mem_append_right _ (frm_in (by omega) (by omega) h)
theorem sub_cons_at {y : Int} {s : List Int} : ∀ {L : List Int}, (y :: s).Sublist L → ∃ i, i < L.length ∧ L[i]?.getD 0 = y ∧ s.Sublist (L.drop (i + 1))
  | [], h => by cases h
  | a :: L, h => by
    cases h with
    | cons _ h =>
      obtain ⟨i, h1, h2, h3⟩ := sub_cons_at h
      exact ⟨i + 1, by simp; omega, by simpa using h2, by simpa using h3⟩
    | cons_cons _ h => exact ⟨0, by simp, by simp, by simpa using h⟩
theorem chv_sub {sus : List Int} : ∀ {c f : Nat} {l x : List Int}, x ∈ chv sus c f l → ∃ s : List Int, s.Sublist (sus.drop f) ∧ s.length = c ∧ x = l ++ s
  | 0, f, l, x, h => by
    have : x = l := by simpa [chv] using h
    exact ⟨[], List.nil_sublist _, rfl, by rw [this]; simp⟩
  | c + 1, f, l, x, h => by
    obtain ⟨k, h1, h2, h3⟩ := frm_mem (show x ∈ frm _ _ _ from h)
    obtain ⟨s, hs, hl, rfl⟩ := chv_sub h3
    have hk : k < sus.length := by omega
    refine ⟨sus[k]?.getD 0 :: s, ?_, by simp [hl], by simp⟩
    rw [List.getElem?_eq_getElem hk]
    have e1 : sus.drop k = sus[k] :: sus.drop (k + 1) := List.drop_eq_getElem_cons hk
    have e2 : (sus.drop k).Sublist (sus.drop f) := by
      have : sus.drop k = (sus.drop f).drop (k - f) := by rw [List.drop_drop]; congr 1; omega
      rw [this]; exact List.drop_sublist _ _
    refine List.Sublist.trans ?_ e2
    rw [e1]
    exact List.Sublist.cons_cons _ hs
theorem sub_chv {sus : List Int} : ∀ {c f : Nat} {l s : List Int}, s.Sublist (sus.drop f) → s.length = c → l ++ s ∈ chv sus c f l
  | 0, f, l, s, _, hl => by
    have : s = [] := List.eq_nil_of_length_eq_zero hl
    subst this; simp [chv]
  | c + 1, f, l, s, hs, hl => by
    cases s with
    | nil => simp at hl
    | cons y s =>
      obtain ⟨i, h1, h2, h3⟩ := sub_cons_at hs
      rw [List.length_drop] at h1
      rw [List.getElem?_drop] at h2
      rw [List.drop_drop] at h3
      show l ++ y :: s ∈ frm (fun k => chv sus c (k + 1) (l ++ [sus[k]?.getD 0])) (sus.length - f) f
      refine frm_in (k := f + i) (by omega) (by omega) ?_
      have := sub_chv (l := l ++ [sus[f + i]?.getD 0]) (s := s) (c := c) (f := f + i + 1) (by rw [Nat.add_assoc]; exact h3) (by simpa using hl)
      rw [h2] at this ⊢
      simpa using this
theorem exl_iff {p : Pln} {d x : List Int} {c : Nat} : x ∈ exl p d c ↔ x.Sublist (sps p d) ∧ x.length = c ∧ expB p d x = true := by
  unfold exl
  rw [List.mem_filter]
  constructor
  · rintro ⟨h1, h2⟩
    obtain ⟨s, hs, hl, rfl⟩ := chv_sub h1
    exact ⟨by simpa using hs, by simpa using hl, by simpa using h2⟩
  · rintro ⟨h1, h2, h3⟩
    exact ⟨by have := sub_chv (sus := sps p d) (c := c) (f := 0) (l := []) (s := x) (by simpa using h1) h2; simpa using this, h3⟩
theorem exA_iff {p : Pln} {d x : List Int} : x ∈ exA p d ↔ x.Sublist (sps p d) ∧ expB p d x = true := by
  unfold exA exTo
  rw [List.mem_flatMap]
  constructor
  · rintro ⟨k, -, h⟩
    obtain ⟨h1, -, h2⟩ := exl_iff.1 h
    exact ⟨h1, h2⟩
  · rintro ⟨h1, h2⟩
    exact ⟨x.length, List.mem_range.2 (by have := h1.length_le; omega), exl_iff.2 ⟨h1, rfl, h2⟩⟩
theorem sps_asc (p : Pln) (d : List Int) : (sps p d).Pairwise (· < ·) := rng_asc _ _
theorem setOk_of {xs : List Int} {m : Nat} (h : xs.Pairwise (· < ·)) (hb : ∀ y ∈ xs, ∃ k : Nat, y = (k : Int) ∧ k < m) : setOk xs m = true := setOk_all fun i hi => by
  unfold seAt inB
  obtain ⟨k, hk, hkm⟩ := hb _ (List.getElem_mem hi)
  rw [List.getElem?_eq_getElem hi]
  by_cases h0 : 0 < i
  · have hlt := (List.pairwise_iff_getElem.1 h) (i - 1) i (by omega) hi (by omega)
    rw [List.getElem?_eq_getElem (show i - 1 < xs.length by omega)]
    simp only [Option.getD_some]
    simp
    omega
  · simp only [Option.getD_some]
    simp
    omega
theorem sub_set {p : Pln} {d x : List Int} (h : x.Sublist (sps p d)) : setOk x (grps p.n).length = true :=
  setOk_of ((sps_asc p d).sublist h) fun y hy => by
    obtain ⟨k, rfl, hk, -⟩ := sps_mem (h.subset hy)
    exact ⟨k, rfl, hk⟩
theorem sub_ieOk {p : Pln} {d x : List Int} (hd : dwOk p d = true) (h : x.Sublist (sps p d)) : ieOk p d x = true ∧ gsetOk p x = true := by
  have hg : gsetOk p x = true := by unfold gsetOk; rw [(dwOk_parts hd).1, sub_set h]; rfl
  exact ⟨by unfold ieOk; rw [hd, hg]; rfl, hg⟩
theorem exTo_lt {p : Pln} {d x : List Int} {k : Nat} (h : x ∈ exTo p d k) : x.length < k := by
  unfold exTo at h
  obtain ⟨c, hc, hx⟩ := List.mem_flatMap.1 h
  have := (exl_iff.1 hx).2.1
  have := List.mem_range.1 hc
  omega
theorem exTo_head {p : Pln} {d : List Int} : ∀ {k : Nat} {x : List Int}, (exTo p d k).head? = some x → ∀ y ∈ exTo p d k, x.length ≤ y.length
  | 0, x, h, y, hy => by cases hy
  | k + 1, x, h, y, hy => by
    rw [exTo_succ] at h hy
    cases he : exTo p d k with
    | nil =>
      rw [he] at h hy
      simp only [List.nil_append] at h hy
      have h1 := (exl_iff.1 (List.mem_of_mem_head? h)).2.1
      have h2 := (exl_iff.1 hy).2.1
      omega
    | cons z zs =>
      rw [he] at h
      simp only [List.cons_append, List.head?_cons, Option.some.injEq] at h
      subst h
      have hh : (exTo p d k).head? = some z := by rw [he]; rfl
      rcases List.mem_append.1 hy with h | h
      · exact exTo_head hh y h
      · have h1 := exTo_lt (List.mem_of_mem_head? hh)
        have h2 := (exl_iff.1 h).2.1
        omega
theorem few_some {p : Pln} {d x : List Int} (h : fewO p d = some x) : x ∈ exA p d ∧ ∀ y ∈ exA p d, x.length ≤ y.length := ⟨List.mem_of_mem_head? h, exTo_head h⟩
theorem few_need {p : Pln} {d x : List Int} (h : fewO p d = some x) : needB p d x = true := needB_yes fun k hk => by
  obtain ⟨h1, h2⟩ := few_some h
  cases he : expB p d (x.eraseIdx k) with
  | false => rfl
  | true =>
    have := h2 (x.eraseIdx k) (exA_iff.2 ⟨(List.eraseIdx_sublist x k).trans (exA_iff.1 h1).1, he⟩)
    rw [List.length_eraseIdx_of_lt hk] at this
    omega
theorem minA_mem {p : Pln} {d x : List Int} (h : x ∈ minA p d) : x.Sublist (sps p d) ∧ expB p d x = true ∧ ∀ k, k < x.length → expB p d (x.eraseIdx k) = false := by
  unfold minA at h
  obtain ⟨h1, h2⟩ := List.mem_filter.1 h
  obtain ⟨h3, h4⟩ := exA_iff.1 h1
  refine ⟨h3, h4, fun k hk => ?_⟩
  cases he : expB p d (x.eraseIdx k) with
  | false => rfl
  | true => rw [needB_no hk he] at h2; cases h2
theorem minA_pos {p : Pln} {d : List Int} : decide (0 < (minA p d).length) = fewB p d := by
  unfold fewB
  cases h : fewO p d with
  | none =>
    have : exA p d = [] := by unfold fewO at h; exact List.head?_eq_none_iff.1 h
    unfold minA; rw [this]; simp
  | some x =>
    have : x ∈ minA p d := List.mem_filter.2 ⟨(few_some h).1, few_need h⟩
    simp [List.length_pos_of_mem this]
theorem ieR_yes {p : Pln} {d x : List Int} (hd : dwOk p d = true) (h : x.Sublist (sps p d)) (he : expB p d x = true) : ieR p d x = true ∧ ieOk p d x = true := by
  have := (sub_ieOk hd h).1
  exact ⟨by unfold ieR; rw [this, he]; rfl, this⟩
theorem ieR_no {p : Pln} {d x : List Int} (hd : dwOk p d = true) (h : x.Sublist (sps p d)) (he : expB p d x = false) : ieR p d x = false ∧ ieOk p d x = true := by
  have := (sub_ieOk hd h).1
  exact ⟨by unfold ieR; rw [he]; simp, this⟩
theorem few_hits {p : Pln} {d : List Int} (hd : dwOk p d = true) (h : fewB p d = true) : gsetOk p (fewL p d) = true ∧ hts p (fewL p d) = d := by
  unfold fewB at h
  cases hf : fewO p d with
  | none => rw [hf] at h; cases h
  | some x =>
    have e : fewL p d = x := by unfold fewL; rw [hf]; rfl
    obtain ⟨h1, h2⟩ := exA_iff.1 (few_some hf).1
    rw [e]
    refine ⟨(sub_ieOk hd h1).2, ?_⟩
    unfold expB at h2
    simp only [Bool.and_eq_true, decide_eq_true_eq] at h2
    exact h2.1
theorem minR_at {p : Pln} {d : List Int} (hm : minOk p d = true) {i : Nat} (hi : i < (minR p d).length) :
    ((ieR p d ((minR p d)[i]?.getD []) = true ∧ ieOk p d ((minR p d)[i]?.getD []) = true) ∧ (fewL p d).length ≤ ((minR p d)[i]?.getD []).length) ∧
    (∀ k, k < ((minR p d)[i]?.getD []).length → (ieR p d (((minR p d)[i]?.getD []).eraseIdx k) = false ∧ ieOk p d (((minR p d)[i]?.getD []).eraseIdx k) = true) ∧ (cgP p d).contains (((minR p d)[i]?.getD [])[k]?.getD 0) = true) ∧
    ∀ y ∈ cgC p d, ((minR p d)[i]?.getD []).contains y = true := by
  have hd : dwOk p d = true := by
    cases h : dwOk p d with
    | true => rfl
    | false => unfold minOk at hm; rw [h] at hm; cases hm
  have hmem := List.getElem_mem hi
  rw [List.getElem?_eq_getElem hi]
  simp only [Option.getD_some]
  generalize hx : (minR p d)[i] = x at *
  have hmr := hmem
  have e : minR p d = minA p d := by unfold minR; rw [if_pos hm]
  rw [e] at hmem
  obtain ⟨h1, h2, h3⟩ := minA_mem hmem
  refine ⟨⟨ieR_yes hd h1 h2, ?_⟩, fun k hk => ⟨ieR_no hd ((List.eraseIdx_sublist x k).trans h1) (h3 k hk), ?_⟩, fun y hy => ?_⟩
  · cases hf : fewO p d with
    | none => unfold fewL; rw [hf]; simp
    | some z =>
      have : fewL p d = z := by unfold fewL; rw [hf]; rfl
      rw [this]
      exact (few_some hf).2 x (List.mem_filter.1 hmem).1
  · rw [List.getElem?_eq_getElem hk]
    simp only [Option.getD_some]
    obtain ⟨g, hg, hgl⟩ := minR_mem x hmr _ (List.getElem_mem hk)
    rw [List.contains_iff_mem]
    refine rng_mem.2 ⟨g, hgl, ?_, hg.symm⟩
    rw [List.any_eq_true]
    exact ⟨x, hmr, by rw [List.contains_iff_mem, ← hg]; exact List.getElem_mem hk⟩
  · obtain ⟨g, -, hg, rfl⟩ := rng_mem.1 hy
    simp only [Bool.and_eq_true, List.all_eq_true] at hg
    exact hg.2 x hmr
end Go.Proofs.YtmkkdenhjfjmgaaGreat
