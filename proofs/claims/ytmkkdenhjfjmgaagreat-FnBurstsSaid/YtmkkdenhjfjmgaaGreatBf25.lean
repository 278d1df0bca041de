/- Draws of alarms; walks: DrawAlarmBursts, DrawProbableCauses. -/
import Derived.Test.YtmkkdenhjfjmgaaGreatBf24
namespace Go.Proofs.YtmkkdenhjfjmgaaGreat
open Go.RowKit Go.Sort
set_option maxRecDepth 100000

def DrA (w : World) (e : Ending) (w' : World) : Prop := ∃ v zs g, e = .returned (.tuple #[v, .int .i64 g]) ∧ AmR w' w.heap.size v zs ∧ zs.length ≤ 60 ∧ Below w.heap.size w w'
theorem seven_rng : ∀ j, j < 6 → ∃ x : Int, -1 ≤ x ∧ x ≤ 1000001 ∧ (#[.int .i64 0, .int .i64 1, .int .i64 2, .int .i64 5, .int .i64 100, .int .i64 (-1), .int .i64 1000001] : Array Value)[j]? = some (.int .i64 x) := fun j hj => by
  rcases j with _ | _ | _ | _ | _ | _ | j
  · exact ⟨0, by omega, by omega, rfl⟩
  · exact ⟨1, by omega, by omega, rfl⟩
  · exact ⟨2, by omega, by omega, rfl⟩
  · exact ⟨5, by omega, by omega, rfl⟩
  · exact ⟨100, by omega, by omega, rfl⟩
  · exact ⟨-1, by omega, by omega, rfl⟩
  · omega
set_option maxHeartbeats 6400000 in
theorem drawAB_any (a : Option Addr) (len cap : Nat) (w : World) (h : RdB w (.slice a len cap)) :
    Calls Tryz.prog 37 #[.slice a len cap] w (DrA w) := by
  obtain ⟨NP, hNP⟩ : ∃ NP, NP = DrA w := ⟨_, rfl⟩
  rw [← hNP]
  have C1 := Lib.hid (curN h)
  have B1 := Lib.hid ((Below.refl w.heap.size w).alloc (Nat.le_refl _) (.cells #[.slice a len cap, .int .i64 0, .int .u64 0] 107))
  clear h
  go_enter Tryz.func37, Tryz.ntmps37
  go_upto_region 2 with fail
  generalize w.alloc (.cells #[.slice a len cap, .int .i64 0, .int .u64 0] 107) = w1 at *
  have hs1 := B1.out.size
  have hl1 := C1.out.lt.1
  have B2 := Lib.hid (B1.out.alloc hs1 (.cells #[.int .i64 1, .int .i64 2, .int .i64 3, .int .i64 7, .int .i64 999] 3))
  have C2 := Lib.hid (C1.out.here.alloc (.cells #[.int .i64 1, .int .i64 2, .int .i64 3, .int .i64 7, .int .i64 999] 3)).st
  have I2 := Lib.hid (show Own (w1.alloc (.cells #[.int .i64 1, .int .i64 2, .int .i64 3, .int .i64 7, .int .i64 999] 3)) (w.heap.size + 1) (.slice (some ⟨w1.heap.size, 0, none⟩) 5 5) [1, 2, 3, 7, 999] from
    .inr ⟨w1.heap.size, 0, 5, _, rfl, by omega, ⟨_, heap_alloc_new _ _⟩, Nat.le_refl _, by unfold maxLen; omega, by simp, rfl⟩)
  go_wp2_with fail
  refine (alarms_any w.heap.size (w.heap.size + 1) _ 0 _ _ _ C2.out (by omega) I2.out (by omega) (by simp)).mono ?_
  rintro e w4 ⟨v4, zs, rfl, r4, hz4, hc4⟩
  have B4 := Lib.hid (hc4.belowAll B2.out (Nat.le_refl _))
  have hpl0 : ∀ g, v4.ownBlock = some g → g ≠ w.heap.size := fun g hg => by have := (World.ownsRow.lt r4 g hg).1; have := C2.out.lt.1; omega
  have R4 := Lib.hid (r4.base B2.out.size)
  have C4 := Lib.hid hc4.st
  have hs4 := B4.out.size
  have hs2 := B2.out.size
  have hl2 := C2.out.lt.1
  clear r4 hc4 C1 B1 B2 C2 I2
  obtain ⟨a4, c4, rfl⟩ := row_form0 R4.out
  have hpl := hpl0
  clear hpl0
  have HPL := Lib.hid hpl
  clear hpl
  have B5 := Lib.hid (B4.out.alloc hs4 (.cells #[.int .i64 0, .int .i64 1, .int .i64 2, .int .i64 5, .int .i64 100, .int .i64 (-1), .int .i64 1000001] 3))
  have C5 := Lib.hid (C4.out.here.alloc (.cells #[.int .i64 0, .int .i64 1, .int .i64 2, .int .i64 5, .int .i64 100, .int .i64 (-1), .int .i64 1000001] 3))
  have R5 := Lib.hid (R4.out.below ((Below.refl _ _).alloc (Nat.le_refl _) (.cells #[.int .i64 0, .int .i64 1, .int .i64 2, .int .i64 5, .int .i64 100, .int .i64 (-1), .int .i64 1000001] 3)))
  have G5 := Lib.hid (heap_alloc_new w4 (.cells #[.int .i64 0, .int .i64 1, .int .i64 2, .int .i64 5, .int .i64 100, .int .i64 (-1), .int .i64 1000001] 3))
  have hl4 := C4.out.lt.1
  go_wp2_with fail
  refine (pickC w.heap.size _ _ 40 _ C5.out.st (by omega) (by omega) (by omega)).mono ?_
  rintro e w6 ⟨y, y0, y1, rfl, hc6, -⟩
  have hn4 : w4.heap.size ≠ w.heap.size := by omega
  have G6 := Lib.hid (hc6.blk G5.out hn4)
  have B6 := Lib.hid (hc6.belowAll B5.out (Nat.le_refl _))
  have R6 := Lib.hid (show AmR w6 w.heap.size (.slice a4 zs.length c4) zs from R5.out.kept fun g hg => hc6.2.2.block g (World.ownsRow.lt R5.out g hg).2 fun e => HPL.out g hg (Option.some.inj e))
  have C6 := Lib.hid hc6.st
  clear C5 R5 G5 B5 hc6 C4 R4 B4
  have hq : y.tdiv 20 = y / 20 := Int.tdiv_eq_ediv_of_nonneg y0
  have hq2 : y / 20 = 0 ∨ y / 20 = 1 := by omega
  obtain ⟨q, hqq, hq01⟩ : ∃ q : Nat, y.tdiv 20 = (q : Int) ∧ q ≤ 1 := by
    rcases hq2 with h | h
    · exact ⟨0, by rw [hq, h]; rfl, by omega⟩
    · exact ⟨1, by rw [hq, h]; rfl, by omega⟩
  have hw0 : IntKind.i64.wrap (q : Int) = (q : Int) := IntWalk.i64_in _ (by omega)
  have hw1 : IntKind.i64.wrap (5 + (q : Int)) = ((5 + q : Nat) : Int) := by rw [IntWalk.i64_in _ (by omega)]; omega
  have i1 : (0 : Int) ≤ ((5 + q : Nat) : Int) := by omega
  have i2 : ((5 + q : Nat) : Int) ≤ 7 := by omega
  have HR := Lib.hid (lit_rng (n := 5 + q) (lo := -1) (hi := 1000001) G6.out (fun j hj => seven_rng j (by omega)))
  clear hq hq2 G6
  go_wp2_with fail
  refine (amongC w.heap.size _ _ w4.heap.size (5 + q) 7 (-1) 1000001 _ C6.out (by omega) (by omega) (by omega) hn4 HR.out).mono ?_
  rintro e w7 ⟨z, z0, z1, rfl, hc7, -⟩
  have B7 := Lib.hid (hc7.belowAll B6.out (Nat.le_refl _))
  have R7 := Lib.hid (show AmR w7 w.heap.size (.slice a4 zs.length c4) zs from R6.out.kept fun g hg => hc7.2.2.block g (World.ownsRow.lt R6.out g hg).2 fun e => HPL.out g hg (Option.some.inj e))
  clear hc7
  go_wp2_with fail
  subst hNP
  first
    | exact ⟨_, zs, z, rfl, R7.out, hz4, B7.out⟩
    | exact bodyPost_ret (v := .tuple #[.slice a4 zs.length c4, .int .i64 z]) (by simp [results, Tryz.results37, go_sem]) rfl ⟨_, zs, z, rfl, R7.out, hz4, B7.out⟩
def DrPc (w : World) (e : Ending) (w' : World) : Prop := ∃ u1 u2 u3 v n ps zs g, e = .returned (.tuple #[.agg #[u1, u2, u3], v, .int .i64 g]) ∧ PlD w' w.heap.size u1 u2 u3 n ps ∧ AmR w' w.heap.size v zs ∧ zs.length ≤ 60 ∧ Below w.heap.size w w'
theorem four_rng : ∀ j, j < 4 → ∃ x : Int, 0 ≤ x ∧ x ≤ 5 ∧ (#[.int .i64 0, .int .i64 1, .int .i64 2, .int .i64 5] : Array Value)[j]? = some (.int .i64 x) := fun j hj => by
  rcases j with _ | _ | _ | _ | j
  · exact ⟨0, by omega, by omega, rfl⟩
  · exact ⟨1, by omega, by omega, rfl⟩
  · exact ⟨2, by omega, by omega, rfl⟩
  · exact ⟨5, by omega, by omega, rfl⟩
  · omega
set_option maxHeartbeats 6400000 in
theorem drawPC_any (a : Option Addr) (len cap : Nat) (w : World) (h : RdB w (.slice a len cap)) :
    Calls Tryz.prog 40 #[.slice a len cap] w (DrPc w) := by
  obtain ⟨NP, hNP⟩ : ∃ NP, NP = DrPc w := ⟨_, rfl⟩
  rw [← hNP]
  have B1 := (Below.refl w.heap.size w).alloc (Nat.le_refl _) (.cells #[.slice none 0 0, .slice none 0 0, .slice none 0 0] 38)
  have hs1 : (w.alloc (.cells #[.slice none 0 0, .slice none 0 0, .slice none 0 0] 38)).heap.size = w.heap.size + 1 := by simp
  have HC2 := Lib.hid (show Cs ((w.alloc (.cells #[.slice none 0 0, .slice none 0 0, .slice none 0 0] 38)).alloc (.cells #[.slice a len cap, .int .i64 0, .int .u64 0] 107)) (w.heap.size + 1) (.slice a len cap) 0 from by
    have := curN (RdB.behind h B1)
    rw [hs1] at this
    exact this)
  have HX1 := Lib.hid ((heap_alloc_old (w.alloc (.cells #[.slice none 0 0, .slice none 0 0, .slice none 0 0] 38)) (.cells #[.slice a len cap, .int .i64 0, .int .u64 0] 107) (by simp)).trans (heap_alloc_new w (.cells #[.slice none 0 0, .slice none 0 0, .slice none 0 0] 38)))
  have HB2 := Lib.hid (B1.alloc B1.size (.cells #[.slice a len cap, .int .i64 0, .int .u64 0] 107))
  have HZ2 := Lib.hid (show ((w.alloc (.cells #[.slice none 0 0, .slice none 0 0, .slice none 0 0] 38)).alloc (.cells #[.slice a len cap, .int .i64 0, .int .u64 0] 107)).heap.size = w.heap.size + 2 by simp)
  clear B1 hs1 h
  go_enter Tryz.func40, Tryz.ntmps40
  go_upto_region 2 with fail
  generalize (w.alloc (.cells #[.slice none 0 0, .slice none 0 0, .slice none 0 0] 38)).alloc (.cells #[.slice a len cap, .int .i64 0, .int .u64 0] 107) = w2 at *
  go_wp2_with fail
  refine (anyPlan_any (w.heap.size + 1) _ 0 w2 HC2.out (by omega)).mono ?_
  rintro e w3 ⟨u1, u2, u3, n, ps, rfl, hpl, hd, hc3⟩
  obtain ⟨⟨a1, c1, rfl⟩, ⟨a2, c2, rfl⟩⟩ := hd.n.slices
  obtain ⟨a3, c3, rfl⟩ := row_form0 hd.l.row
  have hz2 := HZ2.out
  have hs3 := hc3.size
  have D4 := Lib.hid (show DrB w (w3.alloc (.cells #[.slice a1 n.ns.length c1, .slice a2 n.fs.length c2, .slice a3 ps.length c3] 38)) (w.heap.size + 1) (.slice a len cap) (0 + 900) w3.heap.size (.slice a1 n.ns.length c1) (.slice a2 n.fs.length c2) (.slice a3 ps.length c3) n ps from
    ⟨(hc3.belowAll HB2.out (by omega)).alloc (by omega) _, (hc3.alloc _).st, ⟨by omega, by omega⟩, (heap_alloc_old w3 _ (by omega)).trans (hc3.blk HX1.out (by omega)), heap_alloc_new w3 _, (hd.below ((Below.refl _ _).alloc (Nat.le_refl _) _)).base (by omega)⟩)
  clear hd hc3 HX1 HC2 HB2
  go_upto_region 3 with fail
  generalize w3.alloc (.cells #[.slice a1 n.ns.length c1, .slice a2 n.fs.length c2, .slice a3 ps.length c3] 38) = w4 at *
  generalize w3.heap.size = bP at *
  have hhB := D4.out.hB
  have HSS := Lib.hid (fun (W : World) (KQ : Nat) (hx : DrB w W (w.heap.size + 1) (.slice a len cap) KQ bP (.slice a1 n.ns.length c1) (.slice a2 n.fs.length c2) (.slice a3 ps.length c3) n ps) => show W.cell? ⟨bP, 0, none⟩ = some (.slice a1 n.ns.length c1) ∧ W.cell? ⟨bP, 1, none⟩ = some (.slice a2 n.fs.length c2) ∧ W.cell? ⟨bP, 2, none⟩ = some (.slice a3 ps.length c3) from
    ⟨blkc hx.box rfl, blkc hx.box rfl, blkc hx.box rfl⟩)
  have hpl30 : ps.length ≤ 30 := hpl
  have hs4 := D4.out.bel.size
  have hl4 := D4.out.cs.lt.1
  have HB0 := Lib.hid ((Below.refl w4.heap.size w4).alloc (Nat.le_refl _) (.cells #[] 3))
  have O0 := Lib.hid (show Own (w4.alloc (.cells #[] 3)) w4.heap.size (.slice (some ⟨w4.heap.size, 0, none⟩) 0 0) [] from own_of_row (World.ownsRow_made w4 #[] 0 (Nat.le_refl _) (Nat.zero_le _) (by simp)))
  go_upto_region 5 with fail
  generalize w4.alloc (.cells #[] 3) = w5 at *
  go_loopw [7, 8] (fun s7 s8 wr => ∃ (i : Nat) (xs : List Int), i ≤ ps.length ∧ s8 = .int .i64 i ∧ xs.length ≤ i ∧ Hid (Own wr w4.heap.size s7 xs) ∧ Hid (Below w4.heap.size w4 wr)) (fun _ s8 _ => ps.length - (intOf s8).toNat)
  case atStart => exact ⟨0, [], Nat.zero_le _, rfl, Nat.zero_le _, O0.out, HB0.out⟩
  case round =>
    clear O0 HB0
    obtain ⟨i, xs, hi, rfl, hx, OO, BB⟩ := hrel
    have DD := Lib.hid (D4.out.below BB.out)
    obtain ⟨y0, y1, y2⟩ := HSS.out _ _ DD.out
    have hsw := BB.out.size
    by_cases hlt : i < ps.length
    · have hltI : (i : Int) < (ps.length : Int) := by omega
      have hwi : IntKind.i64.wrap ((i : Int) + 1) = (i : Int) + 1 := IntWalk.i64_in _ (by omega)
      obtain ⟨g3, rfl, hg3, r0, -⟩ := DD.out.d.l.at i hlt
      generalize (ps[i]?.getD nilLV).1.id = yid at *
      go_wp2_with (at_builtin; (refine wpList_pushI rfl (.tmp 22) (.tmp 29) 29 rfl Tryz.underlying29 Tryz.infoInt w4.heap.size _ xs rfl OO.out rfl (by omega) hsw ?_); (intro v8 w8 o8 g8 l8); (have B8 := Lib.hid (BB.out.grown g8 hsw fun g hg => (OO.out.lt g hg).1)); (have O8 := Lib.hid o8); (clear o8 g8 l8))
      go_roundw
      case rel => exact ⟨i + 1, _, by omega, by go_num, by rw [List.length_append, List.length_singleton]; omega, O8.out, B8.out⟩
      case measure => simp [intOf]; omega
    · have hltI : ¬ (i : Int) < (ps.length : Int) := by omega
      clear y0 y1
      go_upto_region 8 with fail
      have D5 := Lib.hid (DD.out.below (Below.refl _ _).drew)
      have O5 := Lib.hid (OO.out.belowAll (Below.refl _ _).drew)
      have hbs : w.heap.size + 1 < w4.heap.size := hl4
      clear y2
      refine wp_region_L [0, 1, 2, 3, 4, 5, 6, 7] (S := fun W => W.cell? ⟨bP, 0, none⟩ = some (.slice a1 n.ns.length c1) ∧ W.cell? ⟨bP, 1, none⟩ = some (.slice a2 n.fs.length c2) ∧ W.cell? ⟨bP, 2, none⟩ = some (.slice a3 ps.length c3)) (by kernel_rfl) (HSS.out _ _ D5.out) (fun hH => ?_)
      refine hlTake 0 (v := ?v1) rfl (by kernel_rfl) (by kernel_rfl) (by kernel_rfl) (by kernel_rfl) (fun _ _ _ h => h) (by rfl) ?hy1 hH ?rest1
      case hy1 => ((intro w hSw); (try dsimp only at hSw); go_simp); try with_reducible rfl
      try simp only [Act.put, List.setIfInBounds_toArray, List.set_cons_zero, List.set_cons_succ]
      refine hlTake 1 (v := ?v2) rfl (by kernel_rfl) (by kernel_rfl) (by kernel_rfl) (by kernel_rfl) (fun _ _ _ h => h) (by rfl) ?hy2 hH ?rest2
      case hy2 => ((intro w hSw); (try dsimp only at hSw); go_simp); try with_reducible rfl
      try simp only [Act.put, List.setIfInBounds_toArray, List.set_cons_zero, List.set_cons_succ]
      refine hlTake 2 (v := ?v3) rfl (by kernel_rfl) (by kernel_rfl) (by kernel_rfl) (by kernel_rfl) (fun _ _ _ h => h) (by rfl) ?hy3 hH ?rest3
      case hy3 => ((intro w hSw); (try dsimp only at hSw); go_simp); try with_reducible rfl
      try simp only [Act.put, List.setIfInBounds_toArray, List.set_cons_zero, List.set_cons_succ]
      refine hlTake 4 (v := ?v4) rfl (by kernel_rfl) (by kernel_rfl) (by kernel_rfl) (by kernel_rfl) (fun _ _ _ h => h) (by rfl) ?hy4 hH ?rest4
      case hy4 => ((intro w hSw); (try dsimp only at hSw); go_simp); try with_reducible rfl
      try simp only [Act.put, List.setIfInBounds_toArray, List.set_cons_zero, List.set_cons_succ]
      refine hlReady (rs := [3, 5]) (by kernel_rfl) (by simp) ?_
      refine AllReadyL.cons rfl (fun KK hKK => ?_) (AllReadyL.cons rfl (fun KK hKK => ?_) AllReadyL.nil)
      -- order 3
      go_simp
      go_at_call 80
      refine (alarms_any (w.heap.size + 1) w4.heap.size _ _ _ xs _ D5.out.cs (by omega) O5.out hbs (by omega)).mono ?_
      rintro e w6 ⟨v6, zs, rfl, r6, hz6, hc6⟩
      have hs5 := D5.out.bel.size
      have hl5 := D5.out.cs.lt.1
      have D5 := Lib.hid (D5.out.call hc6)
      have R6 := Lib.hid (AmR.base r6 (show w.heap.size + 2 ≤ _ by omega))
      skip
      clear r6 hc6
      refine hKK.out _ _ (HSS.out _ _ D5.out) (fun hH => ?_)
      clear hKK KK
      try simp only [Act.put, List.setIfInBounds_toArray, List.set_cons_zero, List.set_cons_succ]
      refine hlReady (rs := [5]) (by kernel_rfl) (by simp) ?_
      refine AllReadyL.cons rfl (fun KK hKK => ?_) AllReadyL.nil
      -- order 3 5
      go_simp
      have G6 := Lib.hid (heap_alloc_new w6 (.cells #[.int .i64 0, .int .i64 1, .int .i64 2, .int .i64 5] 3))
      have R6 := Lib.hid (AmR.below R6.out ((Below.refl _ _).alloc (Nat.le_refl _) (.cells #[.int .i64 0, .int .i64 1, .int .i64 2, .int .i64 5] 3)))
      have hgs : w.heap.size + 2 ≤ w6.heap.size := (by have := D5.out.cs.lt.1; have := D5.out.hB; have := (Array.getElem?_eq_some_iff.1 D5.out.box).1; omega)
      have D5 := Lib.hid (D5.out.below ((Below.refl _ _).alloc (Nat.le_refl _) (.cells #[.int .i64 0, .int .i64 1, .int .i64 2, .int .i64 5] 3)))
      refine hKK.out _ _ (HSS.out _ _ D5.out) (fun hH => ?_)
      clear hKK KK
      try simp only [Act.put, List.setIfInBounds_toArray, List.set_cons_zero, List.set_cons_succ]
      refine hlReady (rs := [6]) (by kernel_rfl) (by simp) ?_
      refine AllReadyL.cons rfl (fun KK hKK => ?_) AllReadyL.nil
      -- order 3 5 6
      go_simp
      go_at_call 81
      refine (amongC (w.heap.size + 1) _ _ _ 4 4 0 5 _ D5.out.cs (by omega) (by omega) (by omega) (by omega) (lit_rng (n := 4) G6.out four_rng)).mono ?_
      rintro e w7 ⟨z, z0, z1, rfl, hc7, -⟩
      have D6 := Lib.hid (D5.out.call hc7)
      have R7 := Lib.hid (AmR.cs R6.out (show w.heap.size + 1 < w.heap.size + 2 by omega) hc7)
      have D5 := D6
      have z0 := blkc D6.out.out (show _ = some (Value.slice none 0 0) from rfl) (j := 0)
      have z1 := blkc D6.out.out (show _ = some (Value.slice none 0 0) from rfl) (j := 1)
      have z2 := blkc D6.out.out (show _ = some (Value.slice none 0 0) from rfl) (j := 2)
      have f0 : (w7).frozen? ⟨w.heap.size, 0, none⟩ = false := by have x2 := D6.out.out; simp only [World.frozen?, x2]; rfl
      have f1 : (w7).frozen? ⟨w.heap.size, 1, none⟩ = false := by have x2 := D6.out.out; simp only [World.frozen?, x2]; rfl
      have f2 : (w7).frozen? ⟨w.heap.size, 2, none⟩ = false := by have x2 := D6.out.out; simp only [World.frozen?, x2]; rfl
      refine hKK.out _ _ (HSS.out _ _ D5.out) (fun hH => ?_)
      clear hKK KK
      try simp only [Act.put, List.setIfInBounds_toArray, List.set_cons_zero, List.set_cons_succ]
      refine hlStep 7 rfl (by kernel_rfl) (by kernel_rfl) (fun KK hKK => ?_)
      go_simp
      refine hKK.out _ _ ?_
      clear hKK KK
      try simp only [Act.put, List.setIfInBounds_toArray, List.set_cons_zero, List.set_cons_succ]
      refine hlStep 8 rfl (by kernel_rfl) (by kernel_rfl) (fun KK hKK => ?_)
      go_simp
      refine hKK.out _ _ ?_
      clear hKK KK
      try simp only [Act.put, List.setIfInBounds_toArray, List.set_cons_zero, List.set_cons_succ]
      refine hlStep 9 rfl (by kernel_rfl) (by kernel_rfl) (fun KK hKK => ?_)
      go_simp
      refine hKK.out _ _ ?_
      clear hKK KK
      try simp only [Act.put, List.setIfInBounds_toArray, List.set_cons_zero, List.set_cons_succ]
      refine hlDone (by kernel_rfl) ?_ _
      rotate_left 1
      -- order 5
      go_simp
      have G6 := Lib.hid (heap_alloc_new wr.drew (.cells #[.int .i64 0, .int .i64 1, .int .i64 2, .int .i64 5] 3))
      have O5 := Lib.hid (O5.out.belowAll ((Below.refl _ _).alloc (Nat.le_refl _) (.cells #[.int .i64 0, .int .i64 1, .int .i64 2, .int .i64 5] 3)))
      have hgs : w.heap.size + 2 ≤ wr.drew.heap.size := (show w.heap.size + 2 ≤ wr.heap.size by omega)
      have D5 := Lib.hid (D5.out.below ((Below.refl _ _).alloc (Nat.le_refl _) (.cells #[.int .i64 0, .int .i64 1, .int .i64 2, .int .i64 5] 3)))
      refine hKK.out _ _ (HSS.out _ _ D5.out) (fun hH => ?_)
      clear hKK KK
      try simp only [Act.put, List.setIfInBounds_toArray, List.set_cons_zero, List.set_cons_succ]
      refine hlReady (rs := [3]) (by kernel_rfl) (by simp) ?_
      refine AllReadyL.cons rfl (fun KK hKK => ?_) AllReadyL.nil
      -- order 5 3
      go_simp
      go_at_call 80
      refine (alarms_any (w.heap.size + 1) w4.heap.size _ _ _ xs _ D5.out.cs (by omega) O5.out hbs (by omega)).mono ?_
      rintro e w6 ⟨v6, zs, rfl, r6, hz6, hc6⟩
      have hs5 := D5.out.bel.size
      have hl5 := D5.out.cs.lt.1
      have D5 := Lib.hid (D5.out.call hc6)
      have R6 := Lib.hid (AmR.base r6 (show w.heap.size + 2 ≤ _ by omega))
      have G6 := Lib.hid (hc6.blk G6.out (show _ ≠ w.heap.size + 1 by omega))
      clear r6 hc6
      refine hKK.out _ _ (HSS.out _ _ D5.out) (fun hH => ?_)
      clear hKK KK
      try simp only [Act.put, List.setIfInBounds_toArray, List.set_cons_zero, List.set_cons_succ]
      refine hlReady (rs := [6]) (by kernel_rfl) (by simp) ?_
      refine AllReadyL.cons rfl (fun KK hKK => ?_) AllReadyL.nil
      -- order 5 3 6
      go_simp
      go_at_call 81
      refine (amongC (w.heap.size + 1) _ _ _ 4 4 0 5 _ D5.out.cs (by omega) (by omega) (by omega) (by omega) (lit_rng (n := 4) G6.out four_rng)).mono ?_
      rintro e w7 ⟨z, z0, z1, rfl, hc7, -⟩
      have D6 := Lib.hid (D5.out.call hc7)
      have R7 := Lib.hid (AmR.cs R6.out (show w.heap.size + 1 < w.heap.size + 2 by omega) hc7)
      have D5 := D6
      have z0 := blkc D6.out.out (show _ = some (Value.slice none 0 0) from rfl) (j := 0)
      have z1 := blkc D6.out.out (show _ = some (Value.slice none 0 0) from rfl) (j := 1)
      have z2 := blkc D6.out.out (show _ = some (Value.slice none 0 0) from rfl) (j := 2)
      have f0 : (w7).frozen? ⟨w.heap.size, 0, none⟩ = false := by have x2 := D6.out.out; simp only [World.frozen?, x2]; rfl
      have f1 : (w7).frozen? ⟨w.heap.size, 1, none⟩ = false := by have x2 := D6.out.out; simp only [World.frozen?, x2]; rfl
      have f2 : (w7).frozen? ⟨w.heap.size, 2, none⟩ = false := by have x2 := D6.out.out; simp only [World.frozen?, x2]; rfl
      refine hKK.out _ _ (HSS.out _ _ D5.out) (fun hH => ?_)
      clear hKK KK
      try simp only [Act.put, List.setIfInBounds_toArray, List.set_cons_zero, List.set_cons_succ]
      refine hlStep 7 rfl (by kernel_rfl) (by kernel_rfl) (fun KK hKK => ?_)
      go_simp
      refine hKK.out _ _ ?_
      clear hKK KK
      try simp only [Act.put, List.setIfInBounds_toArray, List.set_cons_zero, List.set_cons_succ]
      refine hlStep 8 rfl (by kernel_rfl) (by kernel_rfl) (fun KK hKK => ?_)
      go_simp
      refine hKK.out _ _ ?_
      clear hKK KK
      try simp only [Act.put, List.setIfInBounds_toArray, List.set_cons_zero, List.set_cons_succ]
      refine hlStep 9 rfl (by kernel_rfl) (by kernel_rfl) (fun KK hKK => ?_)
      go_simp
      refine hKK.out _ _ ?_
      clear hKK KK
      try simp only [Act.put, List.setIfInBounds_toArray, List.set_cons_zero, List.set_cons_succ]
      refine hlDone (by kernel_rfl) ?_ _
      rotate_left 1
      all_goals
        obtain ⟨a6, c6, hv6⟩ := row_form0 R7.out
        subst hv6
        go_wp2_with fail
        subst hNP
        have HR := D6.out.res
        have hn : ∀ g, (Value.slice a6 zs.length c6).ownBlock = some g → g ≠ w.heap.size := fun g hg => by have := (World.ownsRow.lt R7.out g hg).1; omega
        exact bodyPost_ret (v := .tuple #[.agg #[.slice a1 n.ns.length c1, .slice a2 n.fs.length c2, .slice a3 ps.length c3], .slice a6 zs.length c6, .int .i64 z]) (by simp [results, Tryz.results40, go_sem, z0, z1, z2]) rfl
          ⟨_, _, _, _, n, ps, zs, z, rfl, HR.1.base (by omega), AmR.base (R7.out.kept fun g hg => by rw [heap_setCell_other _ ⟨w.heap.size, 2, none⟩ g _ (hn g hg), heap_setCell_other _ ⟨w.heap.size, 1, none⟩ g _ (hn g hg), heap_setCell_other _ ⟨w.heap.size, 0, none⟩ g _ (hn g hg)]) (by omega), hz6, HR.2⟩
end Go.Proofs.YtmkkdenhjfjmgaaGreat
