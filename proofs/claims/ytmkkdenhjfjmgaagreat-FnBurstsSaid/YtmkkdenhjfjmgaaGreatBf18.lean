/- Draws: routes that may be invalid; walk: anyRoute. -/
import Derived.Test.YtmkkdenhjfjmgaaGreatBf15
import Derived.Test.YtmkkdenhjfjmgaaGreatBf17
namespace Go.Proofs.YtmkkdenhjfjmgaaGreat
open Go.RowKit Go.Sort
set_option maxRecDepth 100000

/-- What anyRoute keeps: the cursor, and the route's variable (block b5). -/
structure RtB (w wr : World) (B : Nat) (c : Value) (K b5 : Nat) (st : Int) (v : Value) (xs : List Int) : Prop where
  cs : CS w B c K wr
  out : wr.heap[w.heap.size + 1]? = some (.cells #[.int .i64 0, .slice none 0 0] 90 (0, 0))
  box : wr.heap[b5]? = some (.cells #[.int .i64 st, v] 90 (0, 0))
  hb : w.heap.size + 2 ≤ b5
  x : OwR wr (w.heap.size + 2) v xs
  ne : v.ownBlock ≠ some b5
section
variable {w wr w' : World} {B K K' b5 : Nat} {c v : Value} {st : Int} {xs : List Int}
theorem RtB.mono (h : RtB w wr B c K b5 st v xs) (hk : K ≤ K') : RtB w wr B c K' b5 st v xs := ⟨h.cs.mono hk, h.out, h.box, h.hb, h.x, h.ne⟩
theorem RtB.below (h : RtB w wr B c K b5 st v xs) (hb : Below wr.heap.size wr w') : RtB w w' B c K b5 st v xs :=
  ⟨h.cs.below hb, kept_o' h.out hb, kept_o' h.box hb, h.hb, h.x.below hb, h.ne⟩
theorem RtB.call (h : RtB w wr B c K b5 st v xs) (hc : CS wr B c K' w') : RtB w w' B c K' b5 st v xs := by
  have hB := h.cs.1.1
  have hb := h.hb
  exact ⟨h.cs.call hc, hc.blk h.out (by omega), hc.blk h.box (by omega), h.hb, h.x.cs (by omega) hc, h.ne⟩
theorem RtB.lt (h : RtB w wr B c K b5 st v xs) : b5 < wr.heap.size := (Array.getElem?_eq_some_iff.1 h.box).1
/-- Another start is stored. -/
theorem RtB.setSt (h : RtB w wr B c K b5 st v xs) (s' : Int) : RtB w (wr.setCell ⟨b5, 0, none⟩ (.int .i64 s')) B c K b5 s' v xs := by
  have hb := h.hb
  refine ⟨h.cs.set (by omega) _, ?_, heap_setCell_same wr b5 0 _ _ _ h.box, h.hb, h.x.oth fun k hk e => h.ne (by rw [hk, e]), h.ne⟩
  rw [heap_setCell_other wr ⟨b5, 0, none⟩ (w.heap.size + 1) _ (show w.heap.size + 1 ≠ b5 by omega)]
  exact h.out
/-- Another row of fibers is stored. -/
theorem RtB.setV {ys : List Int} {v' : Value} {row : Option Nat} (h : RtB w wr B c K b5 st v xs) (hg : wr.grownBy w' row) (hr : ∀ q, row = some q → w.heap.size + 2 ≤ q ∧ q ≠ b5) (hx : OwR w' (w.heap.size + 2) v' ys) (hn : v'.ownBlock ≠ some b5) : RtB w (w'.setCell ⟨b5, 1, none⟩ v') B c K b5 st v' ys := by
  have hb := h.hb
  have hbx := (hg.block b5 h.lt fun e => (hr _ e.symm).2 rfl).trans h.box
  refine ⟨(h.cs.grown hg fun q e => by have := (hr q e).1; omega).set (by omega) _, ?_, heap_setCell_same w' b5 1 _ _ _ hbx, h.hb, hx.oth fun k hk e => hn (by rw [hk, e]), hn⟩
  rw [heap_setCell_other w' ⟨b5, 1, none⟩ (w.heap.size + 1) _ (show w.heap.size + 1 ≠ b5 by omega)]
  exact (hg.block _ (Array.getElem?_eq_some_iff.1 h.out).1 fun e => by have := (hr _ e.symm).1; omega).trans h.out
def AnyRtP (w : World) (B : Nat) (c : Value) (K : Nat) (e : Ending) (w' : World) : Prop := ∃ st v xs, e = .returned (.agg #[.int .i64 st, v]) ∧ xs.length ≤ 7 ∧ OwR w' w.heap.size v xs ∧ CS w B c (K + 30) w'
theorem RtB.done (h : RtB w wr B c K' b5 st v xs) (hk : K' ≤ K + 30) (hl : xs.length ≤ 7) :
    AnyRtP w B c K (.returned (.agg #[.int .i64 st, v])) ((wr.setCell ⟨w.heap.size + 1, 0, none⟩ (.int .i64 st)).setCell ⟨w.heap.size + 1, 1, none⟩ v) := by
  refine ⟨st, v, xs, rfl, hl, ?_, ((h.cs.mono hk).set (Nat.le_succ _) _).set (Nat.le_succ _) _⟩
  have hn : ∀ k, v.ownBlock = some k → k ≠ w.heap.size + 1 := fun k hk => by have := (h.x.lt k hk).1; omega
  exact ((h.x.oth hn).oth hn).base (by omega)
/-- A number more is appended. -/
theorem RtB.app {y : Int} {v' : Value} (h : RtB w wr B c K b5 st v xs) (hr : w'.ownsRow (w.heap.size + 2) 3 1 v' (xs.length + 1) (ints xs ++ [.int .i64 y])) (hg : wr.grownBy w' v.ownBlock) (hl : v'.ownBlock = v.ownBlock ∨ v'.ownBlock = some wr.heap.size) : RtB w (w'.setCell ⟨b5, 1, none⟩ v') B c K b5 st v' (xs ++ [y]) :=
  h.setV hg (fun q hq => ⟨(h.x.lt q hq).1, fun e => h.ne (by rw [hq, e])⟩) (by show w'.ownsRow _ _ _ _ _ _; rw [List.length_append]; unfold ints; rw [List.map_append]; exact hr) fun e => by
    rcases hl with hl | hl
    · exact h.ne (hl.symm.trans e)
    · have := h.lt
      rw [hl] at e
      have := Option.some.inj e
      omega
end
set_option maxHeartbeats 6400000 in
theorem anyRoute_any (B b0 : Nat) (c : Value) (K : Nat) (u1 u2 : Value) (n : Net) (w : World) (h : Cs w B c K) (hk : K ≤ 3000000000000000) (hd : NtD w b0 u1 u2 n) (hB0 : B < b0) :
    Calls Tryz.prog 124 #[ptr B, .agg #[u1, u2]] w (AnyRtP w B c K) := by
  have hBw := h.lt.1
  obtain ⟨⟨a1, c1, rfl⟩, a2, c2, rfl⟩ := hd.slices
  obtain ⟨NP, hNP⟩ : ∃ NP, NP = AnyRtP w B c K := ⟨_, rfl⟩
  rw [← hNP]
  have b1 := (Below.refl w.heap.size w).alloc (Nat.le_refl _) (.cells #[.slice a1 n.ns.length c1, .slice a2 n.fs.length c2] 35)
  have b2 := b1.alloc b1.size (.cells #[.int .i64 0, .slice none 0 0] 90)
  have HC2 := Lib.hid (h.here.below b2)
  have HD2 := Lib.hid (hd.below b2)
  have HX1 := Lib.hid (show ((w.alloc (.cells #[.slice a1 n.ns.length c1, .slice a2 n.fs.length c2] 35)).alloc (.cells #[.int .i64 0, .slice none 0 0] 90)).heap[w.heap.size]? = some (.cells #[.slice a1 n.ns.length c1, .slice a2 n.fs.length c2] 35 (0, 0)) from (heap_alloc_old _ _ (by simp)).trans (heap_alloc_new w _))
  have HX2 := Lib.hid (show ((w.alloc (.cells #[.slice a1 n.ns.length c1, .slice a2 n.fs.length c2] 35)).alloc (.cells #[.int .i64 0, .slice none 0 0] 90)).heap[w.heap.size + 1]? = some (.cells #[.int .i64 0, .slice none 0 0] 90 (0, 0)) from by have := heap_alloc_new (w.alloc (.cells #[.slice a1 n.ns.length c1, .slice a2 n.fs.length c2] 35)) (.cells #[.int .i64 0, .slice none 0 0] 90); simpa using this)
  have HZ2 := Lib.hid (show ((w.alloc (.cells #[.slice a1 n.ns.length c1, .slice a2 n.fs.length c2] 35)).alloc (.cells #[.int .i64 0, .slice none 0 0] 90)).heap.size = w.heap.size + 2 by simp)
  have q0 : ((w.alloc (.cells #[.slice a1 n.ns.length c1, .slice a2 n.fs.length c2] 35)).alloc (.cells #[.int .i64 0, .slice none 0 0] 90)).cell? ⟨w.heap.size, 0, none⟩ = some (.slice a1 n.ns.length c1) := blkc HX1.out rfl
  have q1 : ((w.alloc (.cells #[.slice a1 n.ns.length c1, .slice a2 n.fs.length c2] 35)).alloc (.cells #[.int .i64 0, .slice none 0 0] 90)).cell? ⟨w.heap.size, 1, none⟩ = some (.slice a2 n.fs.length c2) := blkc HX1.out rfl
  clear b1 b2 h hd
  go_enter Tryz.func124, Tryz.ntmps124
  go_wp2_with fail
  generalize (w.alloc (.cells #[.slice a1 n.ns.length c1, .slice a2 n.fs.length c2] 35)).alloc (.cells #[.int .i64 0, .slice none 0 0] 90) = w2 at *
  refine (route_any B b0 c K _ _ n w2 HC2.out.st hk HD2.out hB0).mono ?_
  rintro e w3 ⟨st, v, rfl, xs, hl, hx, hc3⟩
  have hs3 := hc3.size
  have hz2 := HZ2.out
  obtain ⟨ax, cx, rfl⟩ := row_form0 hx
  have x2 := hc3.blk HX2.out (by omega)
  have CC := Lib.hid (show RtB w (w3.alloc (.cells #[.int .i64 st, .slice ax xs.length cx] 90)) B c (K + 20) w3.heap.size st (.slice ax xs.length cx) xs from
    ⟨(HC2.out.call hc3).alloc _, (heap_alloc_old w3 _ (by omega)).trans x2, heap_alloc_new w3 _, by omega, (hx.below ((Below.refl _ _).alloc (Nat.le_refl _) _)).base (by omega), fun e => by have := (hx.lt _ e).2; omega⟩)
  clear hc3 hx x2 q0 q1 HX1 HX2 HC2 HD2
  go_upto_region 2 with fail
  generalize w3.alloc (.cells #[.int .i64 st, .slice ax xs.length cx] 90) = w4 at *
  generalize w3.heap.size = b5 at *
  have hhb := CC.out.hb
  go_wp2_with fail
  refine (pickC B c (K + 20) 16 w4 CC.out.cs.st (by omega) (by omega) (by omega)).mono ?_
  rintro e w5 ⟨k, k0, k1, rfl, hc5, -⟩
  have CC := Lib.hid (CC.out.call hc5)
  clear hc5
  have HXL := Lib.hid hl
  have hl6 : xs.length ≤ 6 := by omega
  have hmx : (xs.length : Int) ≤ 6 := by omega
  have hge : b5 < w5.heap.size := CC.out.lt
  by_cases e0 : k = 0
  · subst e0
    go_wp2_with fail
    refine (pickC B c (K + 22) 8 w5 CC.out.cs.st (by omega) (by omega) (by omega)).mono ?_
    rintro e w6 ⟨y, y0, y1, rfl, hc6, -⟩
    have CC6 := Lib.hid (CC.out.call hc6)
    clear hc6
    have hwy : IntKind.i64.wrap (y - 1) = y - 1 := IntWalk.i64_in _ (by omega)
    have CC7 := Lib.hid (CC6.out.setSt (y - 1))
    have g0 : w6.frozen? ⟨b5, 0, none⟩ = false := by have x2 := CC6.out.box; simp only [World.frozen?, x2]; rfl
    have c0 := blkc CC6.out.box (show _ = some (Value.int .i64 st) from rfl) (j := 0)
    go_upto_region 12 with fail
    generalize w6.setCell ⟨b5, 0, none⟩ (.int .i64 (y - 1)) = w7 at *
    have b50 := blkc CC7.out.box (show _ = some (Value.int .i64 (y - 1)) from rfl) (j := 0)
    have b51 := blkc CC7.out.box (show _ = some (.slice ax xs.length cx) from rfl) (j := 1)
    have z0 := blkc CC7.out.out (show _ = some (Value.int .i64 0) from rfl) (j := 0)
    have z1 := blkc CC7.out.out (show _ = some (Value.slice none 0 0) from rfl) (j := 1)
    have f0 : (w7).frozen? ⟨w.heap.size + 1, 0, none⟩ = false := by have x2 := CC7.out.out; simp only [World.frozen?, x2]; rfl
    have f1 : (w7).frozen? ⟨w.heap.size + 1, 1, none⟩ = false := by have x2 := CC7.out.out; simp only [World.frozen?, x2]; rfl
    go_wp2_with fail
    subst hNP
    have HH := CC7.out.done (K := K) (by omega) (by have := HXL.out; first | omega | (simp only [List.length_append, List.length_singleton]; omega) | simp)
    exact bodyPost_ret (v := .agg #[.int .i64 (y - 1), .slice ax xs.length cx]) (by simp [results, Tryz.results124, go_sem, z0, z1]) rfl HH
  by_cases e1 : k = 1
  · subst e1
    clear e0
    have HSS := Lib.hid (fun (w' : World) (hb : w'.heap[b5]? = some (.cells #[.int .i64 st, .slice ax xs.length cx] 90 (0, 0))) => show w'.cell? ⟨b5, 1, none⟩ = some (.slice ax xs.length cx) from blkc hb rfl)
    go_upto_region 6 with fail
    refine wp_region_L [0, 1, 2, 3, 4, 5, 6] (S := fun w' => w'.cell? ⟨b5, 1, none⟩ = some (.slice ax xs.length cx)) (by kernel_rfl) (HSS.out _ CC.out.box) (fun hH => ?_)
    refine hlTake 0 (v := ?v1) rfl (by kernel_rfl) (by kernel_rfl) (by kernel_rfl) (by kernel_rfl) (fun _ _ _ h => h) (by rfl) ?hy1 hH ?rest1
    case hy1 => ((intro w hSw); (try dsimp only at hSw); go_simp); try with_reducible rfl
    try simp only [Act.put, List.setIfInBounds_toArray, List.set_cons_zero, List.set_cons_succ]
    refine hlTake 1 (v := ?v2) rfl (by kernel_rfl) (by kernel_rfl) (by kernel_rfl) (by kernel_rfl) (fun _ _ _ h => h) (by rfl) ?hy2 hH ?rest2
    case hy2 => ((intro w hSw); (try dsimp only at hSw); go_simp); try with_reducible rfl
    try simp only [Act.put, List.setIfInBounds_toArray, List.set_cons_zero, List.set_cons_succ]
    refine hlTake 2 (v := ?v3) rfl (by kernel_rfl) (by kernel_rfl) (by kernel_rfl) (by kernel_rfl) (fun _ _ _ h => h) (by rfl) ?hy3 hH ?rest3
    case hy3 => ((intro w hSw); (try dsimp only at hSw); go_simp); try with_reducible rfl
    try simp only [Act.put, List.setIfInBounds_toArray, List.set_cons_zero, List.set_cons_succ]
    refine hlReady (rs := [3]) (by kernel_rfl) (by simp) ?_
    refine AllReadyL.cons rfl (fun KK hKK => ?_) AllReadyL.nil
    -- order 3
    go_simp
    go_at_call 82
    refine (pickC B c (K + 22) 8 _ (CC.out.below (Below.refl _ _).drew).cs.st (by omega) (by omega) (by omega)).mono ?_
    rintro e w6 ⟨y, y0, y1, rfl, hc6, -⟩
    have CC6 := Lib.hid ((CC.out.below (Below.refl _ _).drew).call hc6)
    have hwy : IntKind.i64.wrap (y - 1) = y - 1 := IntWalk.i64_in _ (by omega)
    refine hKK.out _ _ (HSS.out _ CC6.out.box) (fun hH => ?_)
    clear hKK KK
    try simp only [Act.put, List.setIfInBounds_toArray, List.set_cons_zero, List.set_cons_succ]
    refine hlTake 4 (v := ?v4) rfl (by kernel_rfl) (by kernel_rfl) (by kernel_rfl) (by kernel_rfl) (fun _ _ _ h => h) (by rfl) ?hy4 hH ?rest4
    case hy4 => ((intro w hSw); (try dsimp only at hSw); go_simp); try with_reducible rfl
    try simp only [Act.put, List.setIfInBounds_toArray, List.set_cons_zero, List.set_cons_succ]
    refine hlReady (rs := [5]) (by kernel_rfl) (by simp) ?_
    refine AllReadyL.cons rfl (fun KK hKK => ?_) AllReadyL.nil
    -- order 3 5
    go_simp
    have CC7 := Lib.hid (CC6.out.below ((Below.refl _ _).alloc (Nat.le_refl _) (.cells #[.int .i64 (y - 1)] 3)))
    refine hKK.out _ _ (HSS.out _ CC7.out.box) (fun hH => ?_)
    clear hKK KK
    try simp only [Act.put, List.setIfInBounds_toArray, List.set_cons_zero, List.set_cons_succ]
    refine hlStep 6 rfl (by kernel_rfl) (by kernel_rfl) (fun KK hKK => ?_)
    refine step_of_list rfl ?_
    refine wpList_catG rfl (.tmp 20) (.tmp 24) 29 3 rfl Tryz.underlying29 (.int .i64 0) 1 8 Tryz.infoInt rfl (by decide) (w.heap.size + 2) (.slice ax xs.length cx) xs.length (ints xs) (by rfl) CC7.out.x (some ⟨w6.heap.size, 0, none⟩) 1 1 [.int .i64 (y - 1)] (by rfl) rfl (fun e => by cases e) (fun ad e j u hu => by cases e; exact World.news_of_block (heap_alloc_new w6 (.cells #[.int .i64 (y - 1)] 3)) j u hu) (fun u hu => by simp at hu; subst hu; rfl) (by unfold maxLen; omega) (by omega) (Nat.le_of_lt (Nat.lt_of_le_of_lt CC7.out.hb CC7.out.lt)) ?_
    intro v8 w8 o8 g8 l8
    obtain ⟨a8, c8, rfl⟩ := row_form0 o8
    have CC9 := Lib.hid (CC7.out.app (y := y - 1) o8 g8 l8)
    have x8 := (g8.block b5 CC7.out.lt fun e => CC7.out.ne e.symm).trans CC7.out.box
    have y8 := blkc x8 (show _ = some (Value.slice ax xs.length cx) from rfl) (j := 1)
    have f8 : w8.frozen? ⟨b5, 1, none⟩ = false := by simp only [World.frozen?, x8]; rfl
    unfold wpList
    refine ⟨rfl, ?_⟩
    refine hKK.out _ _ ?_
    clear hKK KK
    try simp only [Act.put, List.setIfInBounds_toArray, List.set_cons_zero, List.set_cons_succ]
    refine hlStep 7 rfl (by kernel_rfl) (by kernel_rfl) (fun KK hKK => ?_)
    go_simp
    refine hKK.out _ _ ?_
    clear hKK KK
    try simp only [Act.put, List.setIfInBounds_toArray, List.set_cons_zero, List.set_cons_succ]
    refine hlStep 8 rfl (by kernel_rfl) (by kernel_rfl) (fun KK hKK => ?_)
    go_simp
    refine hKK.out _ _ ?_
    clear hKK KK
    try simp only [Act.put, List.setIfInBounds_toArray, List.set_cons_zero, List.set_cons_succ]
    refine hlDone (by kernel_rfl) ?_ _
    generalize w8.setCell ⟨b5, 1, none⟩ (.slice a8 (xs.length + 1) c8) = w9 at *
    clear CC CC6 CC7 HSS o8 g8 l8 x8 y8 f8
    have b50 := blkc CC9.out.box (show _ = some (Value.int .i64 (st)) from rfl) (j := 0)
    have b51 := blkc CC9.out.box (show _ = some (.slice a8 (xs.length + 1) c8) from rfl) (j := 1)
    have z0 := blkc CC9.out.out (show _ = some (Value.int .i64 0) from rfl) (j := 0)
    have z1 := blkc CC9.out.out (show _ = some (Value.slice none 0 0) from rfl) (j := 1)
    have f0 : (w9).frozen? ⟨w.heap.size + 1, 0, none⟩ = false := by have x2 := CC9.out.out; simp only [World.frozen?, x2]; rfl
    have f1 : (w9).frozen? ⟨w.heap.size + 1, 1, none⟩ = false := by have x2 := CC9.out.out; simp only [World.frozen?, x2]; rfl
    go_wp2_with fail
    subst hNP
    have HH := CC9.out.done (K := K) (by omega) (by have := HXL.out; first | omega | (simp only [List.length_append, List.length_singleton]; omega) | simp)
    exact bodyPost_ret (v := .agg #[.int .i64 (st), .slice a8 (xs.length + 1) c8]) (by simp [results, Tryz.results124, go_sem, z0, z1]) rfl HH
  by_cases e2 : k = 2
  · subst e2
    clear e0 e1
    have hbA := (Below.refl w5.heap.size w5).alloc (Nat.le_refl _) (.cells #[] 3)
    have CC7 := Lib.hid (CC.out.setV (w' := w5.alloc (.cells #[] 3)) (v' := .slice (some ⟨w5.heap.size, 0, none⟩) 0 0) (row := none) (ys := []) ⟨hbA.os, hbA.tape, hbA.output, hbA.size, fun k hk _ => hbA.block k hk⟩ (fun q e => by cases e) (World.ownsRow_made w5 #[] 0 (by omega) (Nat.zero_le _) (by simp)) (fun e => by have : w5.heap.size = b5 := Option.some.inj e; omega))
    have x8 := (heap_alloc_old w5 (.cells #[] 3) hge).trans CC.out.box
    have y8 := blkc x8 (show _ = some (Value.slice ax xs.length cx) from rfl) (j := 1)
    have f8 : (w5.alloc (.cells #[] 3)).frozen? ⟨b5, 1, none⟩ = false := by simp only [World.frozen?, x8]; rfl
    go_upto_region 12 with fail
    rw [World.setCell_alloc_past _ _ _ _ hge] at CC7
    generalize (w5.setCell ⟨b5, 1, none⟩ (.slice (some ⟨w5.heap.size, 0, none⟩) 0 0)).alloc (.cells #[] 3) = w9 at *
    generalize (some (⟨w5.heap.size, 0, none⟩ : Addr)) = a9 at *
    clear x8 y8 f8 hbA
    have b50 := blkc CC7.out.box (show _ = some (Value.int .i64 (st)) from rfl) (j := 0)
    have b51 := blkc CC7.out.box (show _ = some (.slice a9 0 0) from rfl) (j := 1)
    have z0 := blkc CC7.out.out (show _ = some (Value.int .i64 0) from rfl) (j := 0)
    have z1 := blkc CC7.out.out (show _ = some (Value.slice none 0 0) from rfl) (j := 1)
    have f0 : (w9).frozen? ⟨w.heap.size + 1, 0, none⟩ = false := by have x2 := CC7.out.out; simp only [World.frozen?, x2]; rfl
    have f1 : (w9).frozen? ⟨w.heap.size + 1, 1, none⟩ = false := by have x2 := CC7.out.out; simp only [World.frozen?, x2]; rfl
    go_wp2_with fail
    subst hNP
    have HH := CC7.out.done (K := K) (by omega) (by have := HXL.out; first | omega | (simp only [List.length_append, List.length_singleton]; omega) | simp)
    exact bodyPost_ret (v := .agg #[.int .i64 (st), .slice a9 0 0]) (by simp [results, Tryz.results124, go_sem, z0, z1]) rfl HH
  by_cases e3 : k = 3
  · subst e3
    clear e0 e1 e2
    have b51 := blkc CC.out.box (show _ = some (Value.slice ax xs.length cx) from rfl) (j := 1)
    by_cases h1 : 1 < xs.length
    · have h1I : (1 : Int) < (xs.length : Int) := by omega
      obtain ⟨g, rfl⟩ : ∃ g, ax = some ⟨g, 0, none⟩ := by
        rcases CC.out.x.2 with ⟨e, e2⟩ | ⟨g, cap, cur, e, _⟩
        · omega
        · cases e; exact ⟨g, rfl⟩
      obtain ⟨y, hy⟩ : ∃ y, y = xs[xs.length - 1]?.getD 0 := ⟨_, rfl⟩
      have yc : ∀ W : World, OwR W (w.heap.size + 2) (.slice (some ⟨g, 0, none⟩) xs.length cx) xs → W.cell? ⟨g, xs.length - 1, none⟩ = some (.int .i64 y) := fun W hW => by
        have := World.ownsRow.cells hW (g := g) rfl (xs.length - 1) (.int .i64 y) (by simp [ints, hy, List.getElem?_eq_getElem (show xs.length - 1 < xs.length by omega)])
        rw [addr_add, Nat.zero_add] at this
        exact this
      have HYC := Lib.hid yc
      clear yc hy
      have HSS := Lib.hid (fun (w' : World) (hb : w'.heap[b5]? = some (.cells #[.int .i64 st, .slice (some ⟨g, 0, none⟩) xs.length cx] 90 (0, 0))) (hx : OwR w' (w.heap.size + 2) (.slice (some ⟨g, 0, none⟩) xs.length cx) xs) => show w'.cell? ⟨b5, 1, none⟩ = some (.slice (some ⟨g, 0, none⟩) xs.length cx) ∧ w'.cell? ⟨g, xs.length - 1, none⟩ = some (.int .i64 y) from ⟨blkc hb rfl, HYC.out w' hx⟩)
      have q1 : (0 : Int) ≤ (xs.length : Int) - 1 := by omega
      have q2 : (1 : Int) ≤ (xs.length : Int) := by omega
      have q3 : (xs.length : Int) - 1 < (xs.length : Int) := by omega
      have q4 : IntKind.i64.wrap ((xs.length : Int) - 1) = (xs.length : Int) - 1 := IntWalk.i64_in _ (by omega)
      have q5 : ((xs.length : Int) - 1).toNat = xs.length - 1 := by omega
      have q6 : xs.length - 1 < xs.length := by omega
      have CC6 := Lib.hid (CC.out.below (Below.refl _ _).drew)
      go_upto_region 11 with fail
      refine wp_region_L [0, 1, 2, 3, 4, 5, 6, 7, 8, 9, 10, 11] (S := fun w' => w'.cell? ⟨b5, 1, none⟩ = some (.slice (some ⟨g, 0, none⟩) xs.length cx) ∧ w'.cell? ⟨g, xs.length - 1, none⟩ = some (.int .i64 y)) (by kernel_rfl) (HSS.out _ CC6.out.box CC6.out.x) (fun hH => ?_)
      refine hlTake 0 (v := ?v5) rfl (by kernel_rfl) (by kernel_rfl) (by kernel_rfl) (by kernel_rfl) (fun _ _ _ h => h) (by rfl) ?hy5 hH ?rest5
      case hy5 => ((intro w hSw); (try dsimp only at hSw); go_simp); try with_reducible rfl
      try simp only [Act.put, List.setIfInBounds_toArray, List.set_cons_zero, List.set_cons_succ]
      refine hlTake 1 (v := ?v6) rfl (by kernel_rfl) (by kernel_rfl) (by kernel_rfl) (by kernel_rfl) (fun _ _ _ h => h) (by rfl) ?hy6 hH ?rest6
      case hy6 => ((intro w hSw); (try dsimp only at hSw); go_simp); try with_reducible rfl
      try simp only [Act.put, List.setIfInBounds_toArray, List.set_cons_zero, List.set_cons_succ]
      refine hlTake 2 (v := ?v7) rfl (by kernel_rfl) (by kernel_rfl) (by kernel_rfl) (by kernel_rfl) (fun _ _ _ h => h) (by rfl) ?hy7 hH ?rest7
      case hy7 => ((intro w hSw); (try dsimp only at hSw); go_simp); try with_reducible rfl
      try simp only [Act.put, List.setIfInBounds_toArray, List.set_cons_zero, List.set_cons_succ]
      refine hlTake 3 (v := ?v8) rfl (by kernel_rfl) (by kernel_rfl) (by kernel_rfl) (by kernel_rfl) (fun _ _ _ h => h) (by rfl) ?hy8 hH ?rest8
      case hy8 => ((intro w hSw); (try dsimp only at hSw); go_simp); try with_reducible rfl
      try simp only [Act.put, List.setIfInBounds_toArray, List.set_cons_zero, List.set_cons_succ]
      refine hlTake 4 (v := ?v9) rfl (by kernel_rfl) (by kernel_rfl) (by kernel_rfl) (by kernel_rfl) (fun _ _ _ h => h) (by rfl) ?hy9 hH ?rest9
      case hy9 => ((intro w hSw); (try dsimp only at hSw); go_simp); try with_reducible rfl
      try simp only [Act.put, List.setIfInBounds_toArray, List.set_cons_zero, List.set_cons_succ]
      refine hlTake 5 (v := ?v10) rfl (by kernel_rfl) (by kernel_rfl) (by kernel_rfl) (by kernel_rfl) (fun _ _ _ h => h) (by rfl) ?hy10 hH ?rest10
      case hy10 => ((intro w hSw); (try dsimp only at hSw); go_simp); try with_reducible rfl
      try simp only [Act.put, List.setIfInBounds_toArray, List.set_cons_zero, List.set_cons_succ]
      refine hlTake 6 (v := ?v11) rfl (by kernel_rfl) (by kernel_rfl) (by kernel_rfl) (by kernel_rfl) (fun _ _ _ h => h) (by rfl) ?hy11 hH ?rest11
      case hy11 => ((intro w hSw); (try dsimp only at hSw); go_simp); try with_reducible rfl
      try simp only [Act.put, List.setIfInBounds_toArray, List.set_cons_zero, List.set_cons_succ]
      refine hlTake 7 (v := ?v12) rfl (by kernel_rfl) (by kernel_rfl) (by kernel_rfl) (by kernel_rfl) (fun _ _ _ h => h) (by rfl) ?hy12 hH ?rest12
      case hy12 => ((intro w hSw); (try dsimp only at hSw); go_simp); try with_reducible rfl
      try simp only [Act.put, List.setIfInBounds_toArray, List.set_cons_zero, List.set_cons_succ]
      refine hlTake 8 (v := ?v13) rfl (by kernel_rfl) (by kernel_rfl) (by kernel_rfl) (by kernel_rfl) (fun _ _ _ h => h) (by rfl) ?hy13 hH ?rest13
      case hy13 => ((intro w hSw); (try dsimp only at hSw); go_simp); try with_reducible rfl
      try simp only [Act.put, List.setIfInBounds_toArray, List.set_cons_zero, List.set_cons_succ]
      refine hlTake 9 (v := ?v14) rfl (by kernel_rfl) (by kernel_rfl) (by kernel_rfl) (by kernel_rfl) (fun _ _ _ h => h) (by rfl) ?hy14 hH ?rest14
      case hy14 => ((intro w hSw); (try dsimp only at hSw); go_simp); try with_reducible rfl
      try simp only [Act.put, List.setIfInBounds_toArray, List.set_cons_zero, List.set_cons_succ]
      refine hlReady (rs := [10]) (by kernel_rfl) (by simp) ?_
      refine AllReadyL.cons rfl (fun KK hKK => ?_) AllReadyL.nil
      -- order 10
      go_simp
      have CC7 := Lib.hid (CC6.out.below ((Below.refl _ _).alloc (Nat.le_refl _) (.cells #[.int .i64 y] 3)))
      refine hKK.out _ _ (HSS.out _ CC7.out.box CC7.out.x) (fun hH => ?_)
      clear hKK KK
      try simp only [Act.put, List.setIfInBounds_toArray, List.set_cons_zero, List.set_cons_succ]
      refine hlStep 11 rfl (by kernel_rfl) (by kernel_rfl) (fun KK hKK => ?_)
      refine step_of_list rfl ?_
      refine wpList_catG rfl (.tmp 38) (.tmp 47) 29 3 rfl Tryz.underlying29 (.int .i64 0) 1 8 Tryz.infoInt rfl (by decide) (w.heap.size + 2) (.slice (some ⟨g, 0, none⟩) xs.length cx) xs.length (ints xs) (by rfl) CC7.out.x (some ⟨w5.drew.heap.size, 0, none⟩) 1 1 [.int .i64 (y)] (by rfl) rfl (fun e => by cases e) (fun ad e j u hu => by cases e; exact World.news_of_block (heap_alloc_new w5.drew (.cells #[.int .i64 (y)] 3)) j u hu) (fun u hu => by simp at hu; subst hu; rfl) (by unfold maxLen; omega) (by omega) (Nat.le_of_lt (Nat.lt_of_le_of_lt CC7.out.hb CC7.out.lt)) ?_
      intro v8 w8 o8 g8 l8
      obtain ⟨a8, c8, rfl⟩ := row_form0 o8
      have CC9 := Lib.hid (CC7.out.app (y := y) o8 g8 l8)
      have x8 := (g8.block b5 CC7.out.lt fun e => CC7.out.ne e.symm).trans CC7.out.box
      have y8 := blkc x8 (show _ = some (Value.slice (some ⟨g, 0, none⟩) xs.length cx) from rfl) (j := 1)
      have f8 : w8.frozen? ⟨b5, 1, none⟩ = false := by simp only [World.frozen?, x8]; rfl
      unfold wpList
      refine ⟨rfl, ?_⟩
      refine hKK.out _ _ ?_
      clear hKK KK
      try simp only [Act.put, List.setIfInBounds_toArray, List.set_cons_zero, List.set_cons_succ]
      refine hlStep 12 rfl (by kernel_rfl) (by kernel_rfl) (fun KK hKK => ?_)
      go_simp
      refine hKK.out _ _ ?_
      clear hKK KK
      try simp only [Act.put, List.setIfInBounds_toArray, List.set_cons_zero, List.set_cons_succ]
      refine hlStep 13 rfl (by kernel_rfl) (by kernel_rfl) (fun KK hKK => ?_)
      go_simp
      refine hKK.out _ _ ?_
      clear hKK KK
      try simp only [Act.put, List.setIfInBounds_toArray, List.set_cons_zero, List.set_cons_succ]
      refine hlDone (by kernel_rfl) ?_ _
      generalize w8.setCell ⟨b5, 1, none⟩ (.slice a8 (xs.length + 1) c8) = w9 at *
      clear CC CC6 CC7 HSS o8 g8 l8 x8 y8 f8 HYC b51
      have b50 := blkc CC9.out.box (show _ = some (Value.int .i64 (st)) from rfl) (j := 0)
      have b51 := blkc CC9.out.box (show _ = some (.slice a8 (xs.length + 1) c8) from rfl) (j := 1)
      have z0 := blkc CC9.out.out (show _ = some (Value.int .i64 0) from rfl) (j := 0)
      have z1 := blkc CC9.out.out (show _ = some (Value.slice none 0 0) from rfl) (j := 1)
      have f0 : (w9).frozen? ⟨w.heap.size + 1, 0, none⟩ = false := by have x2 := CC9.out.out; simp only [World.frozen?, x2]; rfl
      have f1 : (w9).frozen? ⟨w.heap.size + 1, 1, none⟩ = false := by have x2 := CC9.out.out; simp only [World.frozen?, x2]; rfl
      go_wp2_with fail
      subst hNP
      have HH := CC9.out.done (K := K) (by omega) (by have := HXL.out; first | omega | (simp only [List.length_append, List.length_singleton]; omega) | simp)
      exact bodyPost_ret (v := .agg #[.int .i64 (st), .slice a8 (xs.length + 1) c8]) (by simp [results, Tryz.results124, go_sem, z0, z1]) rfl HH
    · have h1I : ¬ (1 : Int) < (xs.length : Int) := by omega
      go_upto_region 12 with fail
      clear b51
      have b50 := blkc CC.out.box (show _ = some (Value.int .i64 (st)) from rfl) (j := 0)
      have b51 := blkc CC.out.box (show _ = some (.slice ax xs.length cx) from rfl) (j := 1)
      have z0 := blkc CC.out.out (show _ = some (Value.int .i64 0) from rfl) (j := 0)
      have z1 := blkc CC.out.out (show _ = some (Value.slice none 0 0) from rfl) (j := 1)
      have f0 : (w5).frozen? ⟨w.heap.size + 1, 0, none⟩ = false := by have x2 := CC.out.out; simp only [World.frozen?, x2]; rfl
      have f1 : (w5).frozen? ⟨w.heap.size + 1, 1, none⟩ = false := by have x2 := CC.out.out; simp only [World.frozen?, x2]; rfl
      go_wp2_with fail
      subst hNP
      have HH := CC.out.done (K := K) (by omega) (by have := HXL.out; first | omega | (simp only [List.length_append, List.length_singleton]; omega) | simp)
      exact bodyPost_ret (v := .agg #[.int .i64 (st), .slice ax xs.length cx]) (by simp [results, Tryz.results124, go_sem, z0, z1]) rfl HH
  · skip
    have b50 := blkc CC.out.box (show _ = some (Value.int .i64 (st)) from rfl) (j := 0)
    have b51 := blkc CC.out.box (show _ = some (.slice ax xs.length cx) from rfl) (j := 1)
    have z0 := blkc CC.out.out (show _ = some (Value.int .i64 0) from rfl) (j := 0)
    have z1 := blkc CC.out.out (show _ = some (Value.slice none 0 0) from rfl) (j := 1)
    have f0 : (w5).frozen? ⟨w.heap.size + 1, 0, none⟩ = false := by have x2 := CC.out.out; simp only [World.frozen?, x2]; rfl
    have f1 : (w5).frozen? ⟨w.heap.size + 1, 1, none⟩ = false := by have x2 := CC.out.out; simp only [World.frozen?, x2]; rfl
    go_wp2_with fail
    subst hNP
    have HH := CC.out.done (K := K) (by omega) (by have := HXL.out; first | omega | (simp only [List.length_append, List.length_singleton]; omega) | simp)
    exact bodyPost_ret (v := .agg #[.int .i64 (st), .slice ax xs.length cx]) (by simp [results, Tryz.results124, go_sem, z0, z1]) rfl HH
end Go.Proofs.YtmkkdenhjfjmgaaGreat
