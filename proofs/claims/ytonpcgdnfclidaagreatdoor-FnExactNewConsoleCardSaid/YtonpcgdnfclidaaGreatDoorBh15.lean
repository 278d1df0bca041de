/- Joined: XNcoQ XNcoS XNcoW. -/
import Derived.Test.YtonpcgdnfclidaaGreatDoorBh14
namespace Go.Proofs.YtonpcgdnfclidaaGreatDoor
open Go.RowKit Go.Sort
set_option maxRecDepth 100000
open Cpy

def ConP (c : Con) (w : World) (e : Ending) (w' : World) : Prop := ∃ v fp, e = .returned v ∧ ConO w' c v fp ∧ fp.Nodup ∧ (∀ k ∈ fp, w.heap.size ≤ k ∧ k < w'.heap.size) ∧ Below w.heap.size w w'
theorem set7 {w : World} {b : Nat} {p : Addr} (hp : p.block ≠ b) (v0 v1 v2 v3 v4 v5 v6 : Value) : (((((((w.setCell ⟨b, 0, none⟩ v0).setCell ⟨b, 1, none⟩ v1).setCell ⟨b, 2, none⟩ v2).setCell ⟨b, 3, none⟩ v3).setCell ⟨b, 4, none⟩ v4).setCell ⟨b, 5, none⟩ v5).setCell ⟨b, 6, none⟩ v6).cell? p = w.cell? p := by
  have h : ∀ (x : World) (j : Nat) (v : Value), (x.setCell ⟨b, j, none⟩ v).cell? p = x.cell? p := fun x j v => by
    unfold World.cell?
    rw [heap_setCell_other _ _ _ _ hp]
  rw [h, h, h, h, h, h, h]
theorem stx7 {w : World} {b : Nat} {cur : Array Value} {T : TypeId} (hg : w.heap[b]? = some (.cells cur T (0, 0))) (v0 v1 v2 v3 v4 v5 v6 : Value) : Stx w (((((((w.setCell ⟨b, 0, none⟩ v0).setCell ⟨b, 1, none⟩ v1).setCell ⟨b, 2, none⟩ v2).setCell ⟨b, 3, none⟩ v3).setCell ⟨b, 4, none⟩ v4).setCell ⟨b, 5, none⟩ v5).setCell ⟨b, 6, none⟩ v6) b (putA cur 0 [v0, v1, v2, v3, v4, v5, v6]) T :=
  ⟨blk_put [v0, v1, v2, v3, v4, v5, v6] 0 hg, fun k hk => blk_put_other hk [v0, v1, v2, v3, v4, v5, v6] w 0, blk_put_size [v0, v1, v2, v3, v4, v5, v6] w 0, fun B u hB hb => below_put hB [v0, v1, v2, v3, v4, v5, v6] 0 hb⟩
theorem ConP.of {w w2 wE : World} {n : Net} {fs : List Fmt} {x1 x2 x4 : Value} {f1 f2 : List Nat} (hb0 : Below w.heap.size w w2) (hz : w2.heap.size = w.heap.size + 2) (hb : Below w2.heap.size w2 wE) {cur : Array Value} {T : TypeId} (hg : wE.heap[w.heap.size + 1]? = some (.cells cur T (0, 0)))
    (h1 : NetO wE n (.agg #[x1, x2]) f1) (n1 : f1.Nodup) (l1 : ∀ k ∈ f1, w2.heap.size ≤ k ∧ k < wE.heap.size) (h2 : Odt wE (flt 2 fmE fs) x4 f2) (n2 : f2.Nodup) (l2 : ∀ k ∈ f2, w2.heap.size ≤ k ∧ k < wE.heap.size) (hd : ∀ x ∈ f1, ∀ y ∈ f2, x ≠ y) :
    ConP (newC n fs) w (.returned (.agg #[x1, x2, .slice none 0 0, x4, .string ⟨#[]⟩, .string ⟨#[]⟩, .int .i64 0])) (((((((wE.setCell ⟨w.heap.size + 1, 0, none⟩ x1).setCell ⟨w.heap.size + 1, 1, none⟩ x2).setCell ⟨w.heap.size + 1, 2, none⟩ (.slice none 0 0)).setCell ⟨w.heap.size + 1, 3, none⟩ x4).setCell ⟨w.heap.size + 1, 4, none⟩ (.string ⟨#[]⟩)).setCell ⟨w.heap.size + 1, 5, none⟩ (.string ⟨#[]⟩)).setCell ⟨w.heap.size + 1, 6, none⟩ (.int .i64 0)) := by
  have hs := stx7 hg x1 x2 (.slice none 0 0) x4 (.string ⟨#[]⟩) (.string ⟨#[]⟩) (.int .i64 0)
  have ho := newC_own h1 h2
  have hlo : ∀ k ∈ f1 ++ f2, w2.heap.size ≤ k ∧ k < wE.heap.size := fun k hk => (List.mem_append.1 hk).elim (l1 k) (l2 k)
  exact ⟨_, f1 ++ f2, rfl, hs.con ho (fun hk => by have := hlo _ hk; omega), List.nodup_append.2 ⟨n1, n2, hd⟩, (fun k hk => by have := hlo k hk; have := hs.size; omega), hs.below w.heap.size w (by omega) (hb0.trans (hb.mono hb0.size))⟩
set_option maxHeartbeats 12800000 in
theorem l28Own_any (u1 u2 v : Value) (n : Net) (fs : List Fmt) (w : World) (h : NetR w (.agg #[u1, u2]) n) (hf : Rdt w (flt 2 fmE fs) v) (h1 : n.ns.length ≤ 1048576) (h2 : n.fs.length ≤ 1048576) (h3 : fs.length ≤ 1048576) :
    Calls Tryz.prog 37 #[.agg #[u1, u2, .slice none 0 0, v, .string ⟨#[]⟩, .string ⟨#[]⟩, .int .i64 0]] w (ConP (newC n fs) w) := by
  have HCP := Lib.hid (fun w' (hb : Below w.heap.size w w') => l9Own0_any u1 u2 n w' (h.behind hb) h1 h2)
  obtain ⟨a3, m3, c3, rfl, HN3, -, hm3, -⟩ := flt_opn (m := 2) (enc := fmE) (fun _ => rfl) (by omega) nilFm hf
  have HS3 := Lib.hid (src_flt (enc := fmE) (m := 2) (fun _ => rfl) (by omega) hf HN3.out)
  have hl3 : m3 ≤ 1048576 := by have := HN3.out; omega
  have HD3 := Lib.hid (show ∀ w' b v, w'.ownsRow b 78 2 v (0 + m3) ([] ++ fs.flatMap fmE) → ∃ fp, Odt w' (flt 2 fmE fs) v fp ∧ fp.Nodup ∧ ∀ k ∈ fp, b ≤ k ∧ k < w'.heap.size ∧ v.ownBlock = some k from fun w' b v hh => flt_of_row' hh)
  have HE3 := Lib.hid (show ∀ u ∈ fs.flatMap fmE, u.oneCell' = true from fun u hu => fms_one u hu)
  obtain ⟨x1, x2, e, r1, r2, hsm⟩ := h
  simp only [Value.agg.injEq, Array.mk.injEq, List.cons.injEq, and_true] at e
  obtain ⟨rfl, rfl⟩ := e
  obtain ⟨a1, m1, c1, rfl⟩ := Rdt.slice (show Rdt w (.rows _ _) u1 from r1)
  obtain ⟨a2, m2, c2, rfl⟩ := Rdt.slice (show Rdt w (.rows _ _) u2 from r2)
  obtain ⟨NP, hNP⟩ : ∃ NP, NP = ConP (newC n fs) w := ⟨_, rfl⟩
  rw [← hNP]
  have HNP := Lib.hid hNP
  have b1 := (Below.refl w.heap.size w).alloc (Nat.le_refl _) (.cells #[.slice a1 m1 c1, .slice a2 m2 c2, .slice none 0 0, .slice a3 m3 c3, .string ⟨#[]⟩, .string ⟨#[]⟩, .int .i64 0] 45)
  have b2 := b1.alloc b1.size (.cells #[.slice none 0 0, .slice none 0 0, .slice none 0 0, .slice none 0 0, .string ⟨#[]⟩, .string ⟨#[]⟩, .int .i64 0] 45)
  have HB2 := Lib.hid b2
  have HX1 := Lib.hid (show ((w.alloc (.cells #[.slice a1 m1 c1, .slice a2 m2 c2, .slice none 0 0, .slice a3 m3 c3, .string ⟨#[]⟩, .string ⟨#[]⟩, .int .i64 0] 45)).alloc (.cells #[.slice none 0 0, .slice none 0 0, .slice none 0 0, .slice none 0 0, .string ⟨#[]⟩, .string ⟨#[]⟩, .int .i64 0] 45)).heap[w.heap.size]? = some (.cells #[.slice a1 m1 c1, .slice a2 m2 c2, .slice none 0 0, .slice a3 m3 c3, .string ⟨#[]⟩, .string ⟨#[]⟩, .int .i64 0] 45 (0, 0)) from (heap_alloc_old _ _ (by simp)).trans (heap_alloc_new w _))
  have HX2 := Lib.hid (show ((w.alloc (.cells #[.slice a1 m1 c1, .slice a2 m2 c2, .slice none 0 0, .slice a3 m3 c3, .string ⟨#[]⟩, .string ⟨#[]⟩, .int .i64 0] 45)).alloc (.cells #[.slice none 0 0, .slice none 0 0, .slice none 0 0, .slice none 0 0, .string ⟨#[]⟩, .string ⟨#[]⟩, .int .i64 0] 45)).heap[w.heap.size + 1]? = some (.cells #[.slice none 0 0, .slice none 0 0, .slice none 0 0, .slice none 0 0, .string ⟨#[]⟩, .string ⟨#[]⟩, .int .i64 0] 45 (0, 0)) from by have := heap_alloc_new (w.alloc (.cells #[.slice a1 m1 c1, .slice a2 m2 c2, .slice none 0 0, .slice a3 m3 c3, .string ⟨#[]⟩, .string ⟨#[]⟩, .int .i64 0] 45)) (.cells #[.slice none 0 0, .slice none 0 0, .slice none 0 0, .slice none 0 0, .string ⟨#[]⟩, .string ⟨#[]⟩, .int .i64 0] 45); simpa using this)
  have HZ2 := Lib.hid (show ((w.alloc (.cells #[.slice a1 m1 c1, .slice a2 m2 c2, .slice none 0 0, .slice a3 m3 c3, .string ⟨#[]⟩, .string ⟨#[]⟩, .int .i64 0] 45)).alloc (.cells #[.slice none 0 0, .slice none 0 0, .slice none 0 0, .slice none 0 0, .string ⟨#[]⟩, .string ⟨#[]⟩, .int .i64 0] 45)).heap.size = w.heap.size + 2 by simp)
  generalize fs.flatMap fmE = ys at *
  unfold PlnP at HCP
  clear b1 b2 r1 r2 hsm h1 h2 h3 hf hNP
  go_enter Tryz.func37, Tryz.ntmps37
  go_upto_region 1 with fail
  generalize ((w.alloc (.cells #[.slice a1 m1 c1, .slice a2 m2 c2, .slice none 0 0, .slice a3 m3 c3, .string ⟨#[]⟩, .string ⟨#[]⟩, .int .i64 0] 45)).alloc (.cells #[.slice none 0 0, .slice none 0 0, .slice none 0 0, .slice none 0 0, .string ⟨#[]⟩, .string ⟨#[]⟩, .int .i64 0] 45)) = w2 at *
  have hlt1 : w.heap.size < w2.heap.size := by have := HZ2.out; omega
  have HS := Lib.hid (fun (w' : World) (hb : Below w2.heap.size w2 w') => show w'.cell? ⟨w.heap.size, 0, none⟩ = some (.slice a1 m1 c1) ∧ w'.cell? ⟨w.heap.size, 1, none⟩ = some (.slice a2 m2 c2) ∧ w'.cell? ⟨w.heap.size, 2, none⟩ = some (.slice none 0 0) ∧ w'.cell? ⟨w.heap.size, 3, none⟩ = some (.slice a3 m3 c3) ∧ w'.cell? ⟨w.heap.size, 4, none⟩ = some (.string ⟨#[]⟩) ∧ w'.cell? ⟨w.heap.size, 5, none⟩ = some (.string ⟨#[]⟩) ∧ w'.cell? ⟨w.heap.size, 6, none⟩ = some (.int .i64 0) from
    ⟨(hb.cell (p := ⟨w.heap.size, 0, none⟩) hlt1).trans (blkc HX1.out rfl), (hb.cell (p := ⟨w.heap.size, 1, none⟩) hlt1).trans (blkc HX1.out rfl), (hb.cell (p := ⟨w.heap.size, 2, none⟩) hlt1).trans (blkc HX1.out rfl), (hb.cell (p := ⟨w.heap.size, 3, none⟩) hlt1).trans (blkc HX1.out rfl), (hb.cell (p := ⟨w.heap.size, 4, none⟩) hlt1).trans (blkc HX1.out rfl), (hb.cell (p := ⟨w.heap.size, 5, none⟩) hlt1).trans (blkc HX1.out rfl), (hb.cell (p := ⟨w.heap.size, 6, none⟩) hlt1).trans (blkc HX1.out rfl)⟩)
  have HST := Lib.hid (fun (w' : World) (hb : Below w2.heap.size w2 w') (v0 v1 v2 v3 v4 v5 v6 : Value) => show (((((((w'.setCell ⟨w.heap.size + 1, 0, none⟩ v0).setCell ⟨w.heap.size + 1, 1, none⟩ v1).setCell ⟨w.heap.size + 1, 2, none⟩ v2).setCell ⟨w.heap.size + 1, 3, none⟩ v3).setCell ⟨w.heap.size + 1, 4, none⟩ v4).setCell ⟨w.heap.size + 1, 5, none⟩ v5).setCell ⟨w.heap.size + 1, 6, none⟩ v6).cell? ⟨w.heap.size, 0, none⟩ = some (.slice a1 m1 c1) ∧ (((((((w'.setCell ⟨w.heap.size + 1, 0, none⟩ v0).setCell ⟨w.heap.size + 1, 1, none⟩ v1).setCell ⟨w.heap.size + 1, 2, none⟩ v2).setCell ⟨w.heap.size + 1, 3, none⟩ v3).setCell ⟨w.heap.size + 1, 4, none⟩ v4).setCell ⟨w.heap.size + 1, 5, none⟩ v5).setCell ⟨w.heap.size + 1, 6, none⟩ v6).cell? ⟨w.heap.size, 1, none⟩ = some (.slice a2 m2 c2) ∧ (((((((w'.setCell ⟨w.heap.size + 1, 0, none⟩ v0).setCell ⟨w.heap.size + 1, 1, none⟩ v1).setCell ⟨w.heap.size + 1, 2, none⟩ v2).setCell ⟨w.heap.size + 1, 3, none⟩ v3).setCell ⟨w.heap.size + 1, 4, none⟩ v4).setCell ⟨w.heap.size + 1, 5, none⟩ v5).setCell ⟨w.heap.size + 1, 6, none⟩ v6).cell? ⟨w.heap.size, 2, none⟩ = some (.slice none 0 0) ∧ (((((((w'.setCell ⟨w.heap.size + 1, 0, none⟩ v0).setCell ⟨w.heap.size + 1, 1, none⟩ v1).setCell ⟨w.heap.size + 1, 2, none⟩ v2).setCell ⟨w.heap.size + 1, 3, none⟩ v3).setCell ⟨w.heap.size + 1, 4, none⟩ v4).setCell ⟨w.heap.size + 1, 5, none⟩ v5).setCell ⟨w.heap.size + 1, 6, none⟩ v6).cell? ⟨w.heap.size, 3, none⟩ = some (.slice a3 m3 c3) ∧ (((((((w'.setCell ⟨w.heap.size + 1, 0, none⟩ v0).setCell ⟨w.heap.size + 1, 1, none⟩ v1).setCell ⟨w.heap.size + 1, 2, none⟩ v2).setCell ⟨w.heap.size + 1, 3, none⟩ v3).setCell ⟨w.heap.size + 1, 4, none⟩ v4).setCell ⟨w.heap.size + 1, 5, none⟩ v5).setCell ⟨w.heap.size + 1, 6, none⟩ v6).cell? ⟨w.heap.size, 4, none⟩ = some (.string ⟨#[]⟩) ∧ (((((((w'.setCell ⟨w.heap.size + 1, 0, none⟩ v0).setCell ⟨w.heap.size + 1, 1, none⟩ v1).setCell ⟨w.heap.size + 1, 2, none⟩ v2).setCell ⟨w.heap.size + 1, 3, none⟩ v3).setCell ⟨w.heap.size + 1, 4, none⟩ v4).setCell ⟨w.heap.size + 1, 5, none⟩ v5).setCell ⟨w.heap.size + 1, 6, none⟩ v6).cell? ⟨w.heap.size, 5, none⟩ = some (.string ⟨#[]⟩) ∧ (((((((w'.setCell ⟨w.heap.size + 1, 0, none⟩ v0).setCell ⟨w.heap.size + 1, 1, none⟩ v1).setCell ⟨w.heap.size + 1, 2, none⟩ v2).setCell ⟨w.heap.size + 1, 3, none⟩ v3).setCell ⟨w.heap.size + 1, 4, none⟩ v4).setCell ⟨w.heap.size + 1, 5, none⟩ v5).setCell ⟨w.heap.size + 1, 6, none⟩ v6).cell? ⟨w.heap.size, 6, none⟩ = some (.int .i64 0) from by
    obtain ⟨h0, h1, h2, h3, h4, h5, h6⟩ := HS.out w' hb
    exact ⟨(set7 (by simp) _ _ _ _ _ _ _).trans h0, (set7 (by simp) _ _ _ _ _ _ _).trans h1, (set7 (by simp) _ _ _ _ _ _ _).trans h2, (set7 (by simp) _ _ _ _ _ _ _).trans h3, (set7 (by simp) _ _ _ _ _ _ _).trans h4, (set7 (by simp) _ _ _ _ _ _ _).trans h5, (set7 (by simp) _ _ _ _ _ _ _).trans h6⟩)
  have HC3 := Lib.hid (fun (w' : World) (hb : Below w2.heap.size w2 w') => HS3.out.2.2 w' (HB2.out.trans (hb.mono HB2.out.size)))
  have HCQ := Lib.hid (fun (w' : World) (hb : Below w2.heap.size w2 w') => HCP.out w' (HB2.out.trans (hb.mono HB2.out.size)))
  have HN1 := Lib.hid HS3.out.1
  have HL3 := Lib.hid HS3.out.2.1
  have hb0 := (Below.refl w2.heap.size w2).drew
  refine wp_region_L [0, 1, 2, 3, 4, 5, 6, 7, 8, 9] (S := fun W => W.cell? ⟨w.heap.size, 0, none⟩ = some (.slice a1 m1 c1) ∧ W.cell? ⟨w.heap.size, 1, none⟩ = some (.slice a2 m2 c2) ∧ W.cell? ⟨w.heap.size, 2, none⟩ = some (.slice none 0 0) ∧ W.cell? ⟨w.heap.size, 3, none⟩ = some (.slice a3 m3 c3) ∧ W.cell? ⟨w.heap.size, 4, none⟩ = some (.string ⟨#[]⟩) ∧ W.cell? ⟨w.heap.size, 5, none⟩ = some (.string ⟨#[]⟩) ∧ W.cell? ⟨w.heap.size, 6, none⟩ = some (.int .i64 0)) (by kernel_rfl) (HS.out _ hb0) (fun hH => ?_)
  have BB := hb0
  refine hlTake 0 (v := ?v1) rfl (by kernel_rfl) (by kernel_rfl) (by kernel_rfl) (by kernel_rfl) (fun _ _ _ h => h) (by rfl) ?hy1 hH ?rest1
  case hy1 => ((intro w hSw); (try dsimp only at hSw); go_simp); try with_reducible rfl
  try simp only [Act.put, List.setIfInBounds_toArray, List.set_cons_zero, List.set_cons_succ]
  refine hlTake 1 (v := ?v2) rfl (by kernel_rfl) (by kernel_rfl) (by kernel_rfl) (by kernel_rfl) (fun _ _ _ h => h) (by rfl) ?hy2 hH ?rest2
  case hy2 => ((intro w hSw); (try dsimp only at hSw); go_simp); try with_reducible rfl
  try simp only [Act.put, List.setIfInBounds_toArray, List.set_cons_zero, List.set_cons_succ]
  refine hlTake 4 (v := ?v3) rfl (by kernel_rfl) (by kernel_rfl) (by kernel_rfl) (by kernel_rfl) (fun _ _ _ h => h) (by rfl) ?hy3 hH ?rest3
  case hy3 => ((intro w hSw); (try dsimp only at hSw); go_simp); try with_reducible rfl
  try simp only [Act.put, List.setIfInBounds_toArray, List.set_cons_zero, List.set_cons_succ]
  refine hlTake 5 (v := ?v4) rfl (by kernel_rfl) (by kernel_rfl) (by kernel_rfl) (by kernel_rfl) (fun _ _ _ h => h) (by rfl) ?hy4 hH ?rest4
  case hy4 => ((intro w hSw); (try dsimp only at hSw); go_simp); try with_reducible rfl
  try simp only [Act.put, List.setIfInBounds_toArray, List.set_cons_zero, List.set_cons_succ]
  refine hlTake 7 (v := ?v5) rfl (by kernel_rfl) (by kernel_rfl) (by kernel_rfl) (by kernel_rfl) (fun _ _ _ h => h) (by rfl) ?hy5 hH ?rest5
  case hy5 => ((intro w hSw); (try dsimp only at hSw); go_simp); try with_reducible rfl
  try simp only [Act.put, List.setIfInBounds_toArray, List.set_cons_zero, List.set_cons_succ]
  refine hlTake 8 (v := ?v6) rfl (by kernel_rfl) (by kernel_rfl) (by kernel_rfl) (by kernel_rfl) (fun _ _ _ h => h) (by rfl) ?hy6 hH ?rest6
  case hy6 => ((intro w hSw); (try dsimp only at hSw); go_simp); try with_reducible rfl
  try simp only [Act.put, List.setIfInBounds_toArray, List.set_cons_zero, List.set_cons_succ]
  refine hlReady (rs := [2, 3]) (by kernel_rfl) (by simp) ?_
  refine AllReadyL.cons rfl (fun KK hKK => ?_) (AllReadyL.cons rfl (fun KK hKK => ?_) AllReadyL.nil)
  -- order 2
  go_simp
  go_at_call 65
  refine (HCQ.out _ BB).mono ?_
  rintro e w7 ⟨y1, y2, fp, rfl, O7, N7, L7, b7⟩
  obtain ⟨a5, n5, c5, a6, n6, c6, ef⟩ := O7.form
  simp only [Value.agg.injEq, Array.mk.injEq, List.cons.injEq, and_true] at ef
  obtain ⟨rfl, rfl⟩ := ef
  have LF : ∀ k ∈ fp, w2.heap.size ≤ k := fun k hk => Nat.le_trans BB.size (L7 k hk).1
  skip
  skip
  skip
  skip
  have SZ7 := Nat.le_refl w7.heap.size
  have BB := BB.trans (b7.mono BB.size)
  clear b7
  have x10 := kept_o' HX2.out BB
  have z0 := blkc x10 (j := 0) (show _ = some (.slice none 0 0) from rfl)
  have z1 := blkc x10 (j := 1) (show _ = some (.slice none 0 0) from rfl)
  have z2 := blkc x10 (j := 2) (show _ = some (.slice none 0 0) from rfl)
  have z3 := blkc x10 (j := 3) (show _ = some (.slice none 0 0) from rfl)
  have z4 := blkc x10 (j := 4) (show _ = some (.string ⟨#[]⟩) from rfl)
  have z5 := blkc x10 (j := 5) (show _ = some (.string ⟨#[]⟩) from rfl)
  have z6 := blkc x10 (j := 6) (show _ = some (.int .i64 0) from rfl)
  have f0_ : w7.frozen? ⟨w.heap.size + 1, 0, none⟩ = false := frozen_of_row _ _ _ _ _ x10
  have f1_ : w7.frozen? ⟨w.heap.size + 1, 1, none⟩ = false := frozen_of_row _ _ _ _ _ x10
  have f2_ : w7.frozen? ⟨w.heap.size + 1, 2, none⟩ = false := frozen_of_row _ _ _ _ _ x10
  have f3_ : w7.frozen? ⟨w.heap.size + 1, 3, none⟩ = false := frozen_of_row _ _ _ _ _ x10
  have f4_ : w7.frozen? ⟨w.heap.size + 1, 4, none⟩ = false := frozen_of_row _ _ _ _ _ x10
  have f5_ : w7.frozen? ⟨w.heap.size + 1, 5, none⟩ = false := frozen_of_row _ _ _ _ _ x10
  have f6_ : w7.frozen? ⟨w.heap.size + 1, 6, none⟩ = false := frozen_of_row _ _ _ _ _ x10
  refine hKK.out _ _ (HS.out _ BB) (fun hH => ?_)
  clear hKK KK
  try simp only [Act.put, List.setIfInBounds_toArray, List.set_cons_zero, List.set_cons_succ]
  refine hlReady (rs := [3]) (by kernel_rfl) (by simp) ?_
  refine AllReadyL.cons rfl (fun KK hKK => ?_) AllReadyL.nil
  -- order 2 3
  go_simp
  have NE : ∀ k ∈ fp, Value.ownBlock (.slice (some ⟨w7.heap.size, 0, none⟩) 0 0) ≠ some k := fun k hk e => (by have h1 := L7 k hk; have h2 : w7.heap.size = k := Option.some.inj e; omega)
  have SZ7 : w7.heap.size ≤ (w7.alloc (.cells #[] 78)).heap.size := (by simp)
  have O7 := O7.behind ((Below.refl w7.heap.size w7).alloc (Nat.le_refl _) (.cells #[] 78))
  have R6 := World.ownsRow_made (base := w2.heap.size) (e := 78) (size := 2) w7 #[] 0 BB.size (Nat.zero_le _) (by simp)
  have BB := BB.alloc BB.size (.cells #[] 78)
  refine hKK.out _ _ (HS.out _ BB) (fun hH => ?_)
  clear hKK KK
  try simp only [Act.put, List.setIfInBounds_toArray, List.set_cons_zero, List.set_cons_succ]
  refine hlReady (rs := [6]) (by kernel_rfl) (by simp) ?_
  refine AllReadyL.cons rfl (fun KK hKK => ?_) AllReadyL.nil
  -- order 2 3 6
  refine step_of_list rfl ?_
  refine wpList_catG rfl (.tmp 6) (.tmp 8) 42 78 rfl Tryz.underlying42 (.agg #[.int .i64 0, .int .i64 0]) 2 16 Tryz.infoFmt rfl (by decide) w2.heap.size (.slice (some ⟨_, 0, none⟩) 0 0) 0 [] (by rfl) R6 a3 m3 c3 ys (by rfl) HL3.out HN1.out (HC3.out _ BB) HE3.out (by unfold maxLen; omega) (by omega) BB.size ?_
  intro v5 w5 o5 g5 l5
  obtain ⟨fq, Q5, QN, QL⟩ := HD3.out _ _ _ o5
  have DJ : ∀ x ∈ fp, ∀ y ∈ fq, x ≠ y := fun x hx y hy e => (by subst e; have h1 := (QL x hy).2.2; rcases l5 with l | l; (rw [l] at h1; exact NE x hx h1); (rw [l] at h1; have h2 := Option.some.inj h1; have h3 := (L7 x hx).2; have h4 := SZ7; omega))
  have O7 := O7.kept' (fun k hk => g5.block k (Nat.lt_of_lt_of_le (L7 k hk).2 SZ7) (fun e => NE k hk e.symm))
  have BB := Below.grown BB g5 BB.size (fun q hq => (World.ownsRow.lt R6 q hq).1)
  obtain ⟨e5, f5, rfl⟩ := row_form0 o5
  clear o5 g5 l5 R6
  have x10 := kept_o' HX2.out BB
  have z0 := blkc x10 (j := 0) (show _ = some (.slice none 0 0) from rfl)
  have z1 := blkc x10 (j := 1) (show _ = some (.slice none 0 0) from rfl)
  have z2 := blkc x10 (j := 2) (show _ = some (.slice none 0 0) from rfl)
  have z3 := blkc x10 (j := 3) (show _ = some (.slice none 0 0) from rfl)
  have z4 := blkc x10 (j := 4) (show _ = some (.string ⟨#[]⟩) from rfl)
  have z5 := blkc x10 (j := 5) (show _ = some (.string ⟨#[]⟩) from rfl)
  have z6 := blkc x10 (j := 6) (show _ = some (.int .i64 0) from rfl)
  have f0_ : w5.frozen? ⟨w.heap.size + 1, 0, none⟩ = false := frozen_of_row _ _ _ _ _ x10
  have f1_ : w5.frozen? ⟨w.heap.size + 1, 1, none⟩ = false := frozen_of_row _ _ _ _ _ x10
  have f2_ : w5.frozen? ⟨w.heap.size + 1, 2, none⟩ = false := frozen_of_row _ _ _ _ _ x10
  have f3_ : w5.frozen? ⟨w.heap.size + 1, 3, none⟩ = false := frozen_of_row _ _ _ _ _ x10
  have f4_ : w5.frozen? ⟨w.heap.size + 1, 4, none⟩ = false := frozen_of_row _ _ _ _ _ x10
  have f5_ : w5.frozen? ⟨w.heap.size + 1, 5, none⟩ = false := frozen_of_row _ _ _ _ _ x10
  have f6_ : w5.frozen? ⟨w.heap.size + 1, 6, none⟩ = false := frozen_of_row _ _ _ _ _ x10
  unfold wpList
  refine ⟨rfl, ?_⟩
  refine hKK.out _ _ (HS.out _ BB) (fun hH => ?_)
  clear hKK KK
  try simp only [Act.put, List.setIfInBounds_toArray, List.set_cons_zero, List.set_cons_succ]
  refine hlStep 9 rfl (by kernel_rfl) (by kernel_rfl) (fun KK hKK => ?_)
  go_simp
  refine hKK.out _ _ ?_
  clear hKK KK
  try simp only [Act.put, List.setIfInBounds_toArray, List.set_cons_zero, List.set_cons_succ]
  refine hlStep 10 rfl (by kernel_rfl) (by kernel_rfl) (fun KK hKK => ?_)
  go_simp
  refine hKK.out _ _ ?_
  clear hKK KK
  try simp only [Act.put, List.setIfInBounds_toArray, List.set_cons_zero, List.set_cons_succ]
  refine hlDone (by kernel_rfl) ?_ _
  rotate_left 1
  -- order 3
  go_simp
  skip
  skip
  skip
  have R6 := World.ownsRow_made (base := w2.heap.size) (e := 78) (size := 2) w2.drew #[] 0 BB.size (Nat.zero_le _) (by simp)
  have BB := BB.alloc BB.size (.cells #[] 78)
  refine hKK.out _ _ (HS.out _ BB) (fun hH => ?_)
  clear hKK KK
  try simp only [Act.put, List.setIfInBounds_toArray, List.set_cons_zero, List.set_cons_succ]
  refine hlReady (rs := [2]) (by kernel_rfl) (by simp) ?_
  refine AllReadyL.cons rfl (fun KK hKK => ?_) AllReadyL.nil
  -- order 3 2
  go_simp
  go_at_call 65
  refine (HCQ.out _ BB).mono ?_
  rintro e w7 ⟨y1, y2, fp, rfl, O7, N7, L7, b7⟩
  obtain ⟨a5, n5, c5, a6, n6, c6, ef⟩ := O7.form
  simp only [Value.agg.injEq, Array.mk.injEq, List.cons.injEq, and_true] at ef
  obtain ⟨rfl, rfl⟩ := ef
  have LF : ∀ k ∈ fp, w2.heap.size ≤ k := fun k hk => Nat.le_trans BB.size (L7 k hk).1
  skip
  skip
  have NE : ∀ k ∈ fp, Value.ownBlock (.slice (some ⟨w2.drew.heap.size, 0, none⟩) 0 0) ≠ some k := fun k hk e => (by have h1 := (L7 k hk).1; have h2 : w2.heap.size = k := Option.some.inj e; have h3 : (w2.drew.alloc (.cells #[] 78)).heap.size = w2.heap.size + 1 := (by simp); omega)
  have R6 := row_kept0 R6 (fun q hq => b7.block q (World.ownsRow.lt R6 q hq).2)
  have SZ7 := Nat.le_refl w7.heap.size
  have BB := BB.trans (b7.mono BB.size)
  clear b7
  have x10 := kept_o' HX2.out BB
  have z0 := blkc x10 (j := 0) (show _ = some (.slice none 0 0) from rfl)
  have z1 := blkc x10 (j := 1) (show _ = some (.slice none 0 0) from rfl)
  have z2 := blkc x10 (j := 2) (show _ = some (.slice none 0 0) from rfl)
  have z3 := blkc x10 (j := 3) (show _ = some (.slice none 0 0) from rfl)
  have z4 := blkc x10 (j := 4) (show _ = some (.string ⟨#[]⟩) from rfl)
  have z5 := blkc x10 (j := 5) (show _ = some (.string ⟨#[]⟩) from rfl)
  have z6 := blkc x10 (j := 6) (show _ = some (.int .i64 0) from rfl)
  have f0_ : w7.frozen? ⟨w.heap.size + 1, 0, none⟩ = false := frozen_of_row _ _ _ _ _ x10
  have f1_ : w7.frozen? ⟨w.heap.size + 1, 1, none⟩ = false := frozen_of_row _ _ _ _ _ x10
  have f2_ : w7.frozen? ⟨w.heap.size + 1, 2, none⟩ = false := frozen_of_row _ _ _ _ _ x10
  have f3_ : w7.frozen? ⟨w.heap.size + 1, 3, none⟩ = false := frozen_of_row _ _ _ _ _ x10
  have f4_ : w7.frozen? ⟨w.heap.size + 1, 4, none⟩ = false := frozen_of_row _ _ _ _ _ x10
  have f5_ : w7.frozen? ⟨w.heap.size + 1, 5, none⟩ = false := frozen_of_row _ _ _ _ _ x10
  have f6_ : w7.frozen? ⟨w.heap.size + 1, 6, none⟩ = false := frozen_of_row _ _ _ _ _ x10
  refine hKK.out _ _ (HS.out _ BB) (fun hH => ?_)
  clear hKK KK
  try simp only [Act.put, List.setIfInBounds_toArray, List.set_cons_zero, List.set_cons_succ]
  refine hlReady (rs := [6]) (by kernel_rfl) (by simp) ?_
  refine AllReadyL.cons rfl (fun KK hKK => ?_) AllReadyL.nil
  -- order 3 2 6
  refine step_of_list rfl ?_
  refine wpList_catG rfl (.tmp 6) (.tmp 8) 42 78 rfl Tryz.underlying42 (.agg #[.int .i64 0, .int .i64 0]) 2 16 Tryz.infoFmt rfl (by decide) w2.heap.size (.slice (some ⟨_, 0, none⟩) 0 0) 0 [] (by rfl) R6 a3 m3 c3 ys (by rfl) HL3.out HN1.out (HC3.out _ BB) HE3.out (by unfold maxLen; omega) (by omega) BB.size ?_
  intro v5 w5 o5 g5 l5
  obtain ⟨fq, Q5, QN, QL⟩ := HD3.out _ _ _ o5
  have DJ : ∀ x ∈ fp, ∀ y ∈ fq, x ≠ y := fun x hx y hy e => (by subst e; have h1 := (QL x hy).2.2; rcases l5 with l | l; (rw [l] at h1; exact NE x hx h1); (rw [l] at h1; have h2 := Option.some.inj h1; have h3 := (L7 x hx).2; have h4 := SZ7; omega))
  have O7 := O7.kept' (fun k hk => g5.block k (Nat.lt_of_lt_of_le (L7 k hk).2 SZ7) (fun e => NE k hk e.symm))
  have BB := Below.grown BB g5 BB.size (fun q hq => (World.ownsRow.lt R6 q hq).1)
  obtain ⟨e5, f5, rfl⟩ := row_form0 o5
  clear o5 g5 l5 R6
  have x10 := kept_o' HX2.out BB
  have z0 := blkc x10 (j := 0) (show _ = some (.slice none 0 0) from rfl)
  have z1 := blkc x10 (j := 1) (show _ = some (.slice none 0 0) from rfl)
  have z2 := blkc x10 (j := 2) (show _ = some (.slice none 0 0) from rfl)
  have z3 := blkc x10 (j := 3) (show _ = some (.slice none 0 0) from rfl)
  have z4 := blkc x10 (j := 4) (show _ = some (.string ⟨#[]⟩) from rfl)
  have z5 := blkc x10 (j := 5) (show _ = some (.string ⟨#[]⟩) from rfl)
  have z6 := blkc x10 (j := 6) (show _ = some (.int .i64 0) from rfl)
  have f0_ : w5.frozen? ⟨w.heap.size + 1, 0, none⟩ = false := frozen_of_row _ _ _ _ _ x10
  have f1_ : w5.frozen? ⟨w.heap.size + 1, 1, none⟩ = false := frozen_of_row _ _ _ _ _ x10
  have f2_ : w5.frozen? ⟨w.heap.size + 1, 2, none⟩ = false := frozen_of_row _ _ _ _ _ x10
  have f3_ : w5.frozen? ⟨w.heap.size + 1, 3, none⟩ = false := frozen_of_row _ _ _ _ _ x10
  have f4_ : w5.frozen? ⟨w.heap.size + 1, 4, none⟩ = false := frozen_of_row _ _ _ _ _ x10
  have f5_ : w5.frozen? ⟨w.heap.size + 1, 5, none⟩ = false := frozen_of_row _ _ _ _ _ x10
  have f6_ : w5.frozen? ⟨w.heap.size + 1, 6, none⟩ = false := frozen_of_row _ _ _ _ _ x10
  unfold wpList
  refine ⟨rfl, ?_⟩
  refine hKK.out _ _ (HS.out _ BB) (fun hH => ?_)
  clear hKK KK
  try simp only [Act.put, List.setIfInBounds_toArray, List.set_cons_zero, List.set_cons_succ]
  refine hlStep 9 rfl (by kernel_rfl) (by kernel_rfl) (fun KK hKK => ?_)
  go_simp
  refine hKK.out _ _ ?_
  clear hKK KK
  try simp only [Act.put, List.setIfInBounds_toArray, List.set_cons_zero, List.set_cons_succ]
  refine hlStep 10 rfl (by kernel_rfl) (by kernel_rfl) (fun KK hKK => ?_)
  go_simp
  refine hKK.out _ _ ?_
  clear hKK KK
  try simp only [Act.put, List.setIfInBounds_toArray, List.set_cons_zero, List.set_cons_succ]
  refine hlDone (by kernel_rfl) ?_ _
  rotate_left 1
  all_goals
    have HH := Lib.hid (ConP.of (n := n) (fs := fs) HB2.out HZ2.out BB x10 O7 N7 (fun k hk => ⟨LF k hk, O7.lt k hk⟩) Q5 QN (fun k hk => ⟨(QL k hk).1, Q5.lt k hk⟩) DJ)
    clear O7 N7 L7 Q5 QN QL DJ LF SZ7
    go_wp2_with fail
    rw [HNP.out]
    exact bodyPost_ret (v := .agg #[.slice a5 n5 c5, .slice a6 n6 c6, .slice none 0 0, .slice e5 (0 + m3) f5, .string ⟨#[]⟩, .string ⟨#[]⟩, .int .i64 0]) (by simp [results, Tryz.results37, go_sem, z0, z1, z2, z3, z4, z5, z6]) rfl (by simpa using HH.out)
end Go.Proofs.YtonpcgdnfclidaaGreatDoor
namespace Go.Proofs.YtonpcgdnfclidaaGreatDoor
open Go.RowKit Go.Sort
set_option maxRecDepth 100000
open Cpy

set_option maxHeartbeats 6400000 in
theorem specNco_any (u1 u2 v : Value) (n : Net) (fs : List Fmt) (w : World) (h : NetR w (.agg #[u1, u2]) n) (hf : Rdt w (flt 2 fmE fs) v) (h1 : n.ns.length ≤ 1048576) (h2 : n.fs.length ≤ 1048576) (h3 : fs.length ≤ 1048576) :
    Calls Tryz.prog 13 #[.agg #[u1, u2], v] w (NcoP n fs w) := by
  have HOW := Lib.hid (fun w' (hb : Below w.heap.size w w') => l28Own_any u1 u2 v n fs w' (h.behind hb) (hf.behind hb) h1 h2 h3)
  have HCR := Lib.hid (newC_rd h hf)
  have HCO := Lib.hid (fun v' w' (hc : ConR w' v' (newC n fs)) => l28Good_any v' (newC n fs) w' hc (newC_fb n fs) (newC_sz n fs))
  have HOK := Lib.hid (newC_ok n fs)
  have HRN := Lib.hid (@ncR_no n fs)
  have HRY := Lib.hid (@ncR_yes n fs)
  rw [HOK.out] at HCO
  obtain ⟨x1, x2, e, r1, r2, hsm⟩ := h
  simp only [Value.agg.injEq, Array.mk.injEq, List.cons.injEq, and_true] at e
  obtain ⟨rfl, rfl⟩ := e
  obtain ⟨a1, m1, c1, rfl⟩ := Rdt.slice (show Rdt w (.rows _ _) u1 from r1)
  obtain ⟨a2, m2, c2, rfl⟩ := Rdt.slice (show Rdt w (.rows _ _) u2 from r2)
  obtain ⟨a3, m3, c3, rfl⟩ := Rdt.slice (show Rdt w (.rows _ _) v from hf)
  have b1 := (Below.refl w.heap.size w).alloc (Nat.le_refl _) (.cells #[.slice a1 m1 c1, .slice a2 m2 c2] 38)
  have b2 := b1.alloc b1.size (.cells #[.slice none 0 0, .slice none 0 0, .slice none 0 0, .slice none 0 0, .string ⟨#[]⟩, .string ⟨#[]⟩, .int .i64 0] 45)
  have b3 := b2.alloc b2.size (.cells #[.slice a1 m1 c1, .slice a2 m2 c2, .slice none 0 0, .slice a3 m3 c3, .string ⟨#[]⟩, .string ⟨#[]⟩, .int .i64 0] 45)
  have k2 := heap_alloc_new (w.alloc (.cells #[.slice a1 m1 c1, .slice a2 m2 c2] 38)) (.cells #[.slice none 0 0, .slice none 0 0, .slice none 0 0, .slice none 0 0, .string ⟨#[]⟩, .string ⟨#[]⟩, .int .i64 0] 45)
  have k2 := (heap_alloc_old _ (.cells #[.slice a1 m1 c1, .slice a2 m2 c2, .slice none 0 0, .slice a3 m3 c3, .string ⟨#[]⟩, .string ⟨#[]⟩, .int .i64 0] 45) (Array.getElem?_eq_some_iff.1 k2).1).trans k2
  rw [show (w.alloc (.cells #[.slice a1 m1 c1, .slice a2 m2 c2] 38)).heap.size = w.heap.size + 1 by simp] at k2
  have k3 := heap_alloc_new ((w.alloc (.cells #[.slice a1 m1 c1, .slice a2 m2 c2] 38)).alloc (.cells #[.slice none 0 0, .slice none 0 0, .slice none 0 0, .slice none 0 0, .string ⟨#[]⟩, .string ⟨#[]⟩, .int .i64 0] 45)) (.cells #[.slice a1 m1 c1, .slice a2 m2 c2, .slice none 0 0, .slice a3 m3 c3, .string ⟨#[]⟩, .string ⟨#[]⟩, .int .i64 0] 45)
  rw [show ((w.alloc (.cells #[.slice a1 m1 c1, .slice a2 m2 c2] 38)).alloc (.cells #[.slice none 0 0, .slice none 0 0, .slice none 0 0, .slice none 0 0, .string ⟨#[]⟩, .string ⟨#[]⟩, .int .i64 0] 45)).heap.size = w.heap.size + 1 + 1 by simp] at k3
  have hz : (((w.alloc (.cells #[.slice a1 m1 c1, .slice a2 m2 c2] 38)).alloc (.cells #[.slice none 0 0, .slice none 0 0, .slice none 0 0, .slice none 0 0, .string ⟨#[]⟩, .string ⟨#[]⟩, .int .i64 0] 45)).alloc (.cells #[.slice a1 m1 c1, .slice a2 m2 c2, .slice none 0 0, .slice a3 m3 c3, .string ⟨#[]⟩, .string ⟨#[]⟩, .int .i64 0] 45)).heap.size = w.heap.size + 1 + 1 + 1 := by simp
  have HB3 := Lib.hid b3
  have K2 := Lib.hid k2
  have K3 := Lib.hid k3
  have HZ := Lib.hid hz
  obtain ⟨NP, hNP⟩ : ∃ NP, NP = NcoP n fs w := ⟨_, rfl⟩
  rw [← hNP]
  have HNP := Lib.hid hNP
  unfold ConP at HOW
  generalize hok : ncOk n fs = ok at *
  have HOK2 := Lib.hid hok
  clear hok
  clear b1 b2 b3 k2 k3 hz r1 r2 hsm h1 h2 h3 hf hNP HOK
  go_enter Tryz.func13, Tryz.ntmps13
  go_wp2_with fail
  generalize ((w.alloc (.cells #[.slice a1 m1 c1, .slice a2 m2 c2] 38)).alloc (.cells #[.slice none 0 0, .slice none 0 0, .slice none 0 0, .slice none 0 0, .string ⟨#[]⟩, .string ⟨#[]⟩, .int .i64 0] 45)).alloc (.cells #[.slice a1 m1 c1, .slice a2 m2 c2, .slice none 0 0, .slice a3 m3 c3, .string ⟨#[]⟩, .string ⟨#[]⟩, .int .i64 0] 45) = w3 at *
  refine (HCO.out _ w3 (HCR.out.behind HB3.out)).mono ?_
  rintro e w7 ⟨rfl, b7⟩
  have K7 := Lib.hid (kept_o' K2.out b7)
  have x7 := kept_o' K3.out b7
  have HB7 := Lib.hid (HB3.out.trans (b7.mono HB3.out.size))
  have hz7 : w.heap.size + 1 + 1 + 1 ≤ w7.heap.size := by have := b7.size; have := HZ.out; omega
  have x70 := blkc x7 (j := 0) (u := .slice a1 m1 c1) rfl
  have x71 := blkc x7 (j := 1) (u := .slice a2 m2 c2) rfl
  have x72 := blkc x7 (j := 2) (u := .slice none 0 0) rfl
  have x73 := blkc x7 (j := 3) (u := .slice a3 m3 c3) rfl
  have x74 := blkc x7 (j := 4) (u := .string ⟨#[]⟩) rfl
  have x75 := blkc x7 (j := 5) (u := .string ⟨#[]⟩) rfl
  have x76 := blkc x7 (j := 6) (u := .int .i64 0) rfl
  clear b7 x7
  cases ok
  · have HR := Lib.hid (HRN.out rfl)
    clear x70 x71 x72 x73 x74 x75 x76
    go_wp2_with ((show wpList _ _ _ (⟨none, .store 45 _ _, _, _, _, _⟩ :: _) _ _); refine wpList_stx rfl 45 _ _ rfl (w.heap.size + 1) 0 [.slice none 0 0, .slice none 0 0, .slice none 0 0, .slice none 0 0, .string ⟨#[]⟩, .string ⟨#[]⟩, .int .i64 0] rfl rfl K7.out (by simp) (by kernel_rfl) (by simp [Value.oneCell']) ?_; intro w8 hs; have n2 := hs.blk; have HB8 := Lib.hid (hs.below w.heap.size w (by omega) HB7.out); clear hs; have t0 := blkp n2 (j := 0) (u := .slice none 0 0) rfl (by decide); have t1 := blkp n2 (j := 1) (u := .slice none 0 0) rfl (by decide); have t2 := blkp n2 (j := 2) (u := .slice none 0 0) rfl (by decide); have t3 := blkp n2 (j := 3) (u := .slice none 0 0) rfl (by decide); have t4 := blkp n2 (j := 4) (u := .string ⟨#[]⟩) rfl (by decide); have t5 := blkp n2 (j := 5) (u := .string ⟨#[]⟩) rfl (by decide); have t6 := blkp n2 (j := 6) (u := .int .i64 0) rfl (by decide))
    rw [HNP.out]
    exact bodyPost_ret (v := .tuple #[.agg #[.slice none 0 0, .slice none 0 0, .slice none 0 0, .slice none 0 0, .string ⟨#[]⟩, .string ⟨#[]⟩, .int .i64 0], .bool false]) (by simp [results, Tryz.results13, go_sem, t0, t1, t2, t3, t4, t5, t6]) rfl ⟨_, [], (by rw [HOK2.out]), by rw [HR.out]; exact nilC_own _, List.nodup_nil, (fun k hk => by cases hk), HB8.out⟩
  · have HR := Lib.hid (HRY.out rfl)
    go_wp2_with fail
    refine (HOW.out w7 HB7.out).mono ?_
    rintro e w9 ⟨v9, fp, rfl, ho, hn, hlt, b9⟩
    obtain ⟨a5, n5, c5, a6, n6, c6, a7, n7, c7, a8, n8, c8, ev⟩ := ho.form
    have ev2 : v9 = .agg #[.slice a5 n5 c5, .slice a6 n6 c6, .slice a7 n7 c7, .slice a8 n8 c8, .string ⟨#[]⟩, .string ⟨#[]⟩, .int .i64 0] := ev
    clear ev
    subst ev2
    have K9 := Lib.hid (kept_o' K7.out b9)
    have HB9 := Lib.hid (HB7.out.trans (b9.mono HB7.out.size))
    have HO9 := Lib.hid ho
    have HN := Lib.hid hn
    have HL := Lib.hid (show ∀ k ∈ fp, w.heap.size + 1 + 1 ≤ k ∧ k < w9.heap.size from fun k hk => by have := hlt k hk; omega)
    clear b9 ho hn hlt x70 x71 x72 x73 x74 x75 x76
    go_wp2_with ((show wpList _ _ _ (⟨none, .store 45 _ _, _, _, _, _⟩ :: _) _ _); refine wpList_stx rfl 45 _ _ rfl (w.heap.size + 1) 0 [.slice a5 n5 c5, .slice a6 n6 c6, .slice a7 n7 c7, .slice a8 n8 c8, .string ⟨#[]⟩, .string ⟨#[]⟩, .int .i64 0] rfl rfl K9.out (by simp) (by kernel_rfl) (by simp [Value.oneCell']) ?_; intro w8 hs; have n2 := hs.blk; have HO8 := Lib.hid (hs.con HO9.out (fun hk => by have := HL.out _ hk; omega)); have HZ8 := Lib.hid hs.size; have HB8 := Lib.hid (hs.below w.heap.size w (by omega) HB9.out); clear hs; have t0 := blkp n2 (j := 0) (u := .slice a5 n5 c5) rfl (by decide); have t1 := blkp n2 (j := 1) (u := .slice a6 n6 c6) rfl (by decide); have t2 := blkp n2 (j := 2) (u := .slice a7 n7 c7) rfl (by decide); have t3 := blkp n2 (j := 3) (u := .slice a8 n8 c8) rfl (by decide); have t4 := blkp n2 (j := 4) (u := .string ⟨#[]⟩) rfl (by decide); have t5 := blkp n2 (j := 5) (u := .string ⟨#[]⟩) rfl (by decide); have t6 := blkp n2 (j := 6) (u := .int .i64 0) rfl (by decide))
    rw [HNP.out]
    exact bodyPost_ret (v := .tuple #[.agg #[.slice a5 n5 c5, .slice a6 n6 c6, .slice a7 n7 c7, .slice a8 n8 c8, .string ⟨#[]⟩, .string ⟨#[]⟩, .int .i64 0], .bool true]) (by simp [results, Tryz.results13, go_sem, t0, t1, t2, t3, t4, t5, t6]) rfl ⟨_, fp, (by rw [HOK2.out]), by rw [HR.out]; exact HO8.out, HN.out, (fun k hk => by have h1 := HL.out k hk; have := HZ8.out; omega), HB8.out⟩
end Go.Proofs.YtonpcgdnfclidaaGreatDoor
namespace Go.Proofs.YtonpcgdnfclidaaGreatDoor
open Go.RowKit Go.Sort
set_option maxRecDepth 100000
open Cpy

set_option maxHeartbeats 6400000 in
theorem implNco_any (u1 u2 v : Value) (n : Net) (fs : List Fmt) (w : World) (h : NetR w (.agg #[u1, u2]) n) (hf : Rdt w (flt 2 fmE fs) v) (h1 : n.ns.length ≤ 1048576) (h2 : n.fs.length ≤ 1048576) (h3 : fs.length ≤ 1048576) (ht : TabOk w) (hm : MaxOk w) :
    Calls Tryz.prog 16 #[.agg #[u1, u2], v] w (NcoP n fs w) := by
  have HTW := Lib.hid (fun w' (hb : Below w.heap.size w w') => ht.below hb)
  have HMW := Lib.hid (fun w' (hb : Below w.heap.size w w') => hm.below hb)
  have HNR := Lib.hid (show ∀ i : Nat, (nmA n i).size ≤ 1048576 from by obtain ⟨_, _, _, _, _, hsm⟩ := h; exact hsm)
  have HCP := Lib.hid (fun w' (hb : Below w.heap.size w w') => copyNetwork_any u1 u2 n w' (h.behind hb) h1 h2)
  obtain ⟨a3, m3, c3, rfl, HN3, -, hm3, -⟩ := flt_opn (m := 2) (enc := fmE) (fun _ => rfl) (by omega) nilFm hf
  have HS3 := Lib.hid (src_flt (enc := fmE) (m := 2) (fun _ => rfl) (by omega) hf HN3.out)
  have hl3 : m3 ≤ 1048576 := by have := HN3.out; omega
  have HD3 := Lib.hid (show ∀ w' b v, w'.ownsRow b 78 2 v (0 + m3) ([] ++ fs.flatMap fmE) → ∃ fp, Odt w' (flt 2 fmE fs) v fp ∧ fp.Nodup ∧ ∀ k ∈ fp, b ≤ k ∧ k < w'.heap.size ∧ v.ownBlock = some k from fun w' b v hh => flt_of_row' hh)
  have HE3 := Lib.hid (show ∀ u ∈ fs.flatMap fmE, u.oneCell' = true from fun u hu => fms_one u hu)
  have HCO := Lib.hid (fun v' w' (hc : ConR w' v' (newC n fs)) (hb : Below w.heap.size w w') => implCon_any v' (newC n fs) w' hc (newC_fb n fs) (newC_sz n fs) (HTW.out w' hb) (HMW.out w' hb))
  have HOK := Lib.hid (newC_ok n fs)
  have HRN := Lib.hid (@ncR_no n fs)
  have HRY := Lib.hid (@ncR_yes n fs)
  rw [HOK.out] at HCO
  obtain ⟨x1, x2, e, r1, r2, hsm⟩ := h
  simp only [Value.agg.injEq, Array.mk.injEq, List.cons.injEq, and_true] at e
  obtain ⟨rfl, rfl⟩ := e
  obtain ⟨a1, m1, c1, rfl⟩ := Rdt.slice (show Rdt w (.rows _ _) u1 from r1)
  obtain ⟨a2, m2, c2, rfl⟩ := Rdt.slice (show Rdt w (.rows _ _) u2 from r2)
  have b1 := (Below.refl w.heap.size w).alloc (Nat.le_refl _) (.cells #[.slice a1 m1 c1, .slice a2 m2 c2] 38)
  have b2 := b1.alloc b1.size (.cells #[.slice none 0 0, .slice none 0 0, .slice none 0 0, .slice none 0 0, .string ⟨#[]⟩, .string ⟨#[]⟩, .int .i64 0] 45)
  have k2 := heap_alloc_new (w.alloc (.cells #[.slice a1 m1 c1, .slice a2 m2 c2] 38)) (.cells #[.slice none 0 0, .slice none 0 0, .slice none 0 0, .slice none 0 0, .string ⟨#[]⟩, .string ⟨#[]⟩, .int .i64 0] 45)
  rw [show (w.alloc (.cells #[.slice a1 m1 c1, .slice a2 m2 c2] 38)).heap.size = w.heap.size + 1 by simp] at k2
  have hz : ((w.alloc (.cells #[.slice a1 m1 c1, .slice a2 m2 c2] 38)).alloc (.cells #[.slice none 0 0, .slice none 0 0, .slice none 0 0, .slice none 0 0, .string ⟨#[]⟩, .string ⟨#[]⟩, .int .i64 0] 45)).heap.size = w.heap.size + 1 + 1 := by simp
  have HB2 := Lib.hid b2
  have K2 := Lib.hid k2
  have HZ := Lib.hid hz
  obtain ⟨NP, hNP⟩ : ∃ NP, NP = NcoP n fs w := ⟨_, rfl⟩
  rw [← hNP]
  have HNP := Lib.hid hNP
  unfold CpyP at HCP
  generalize fs.flatMap fmE = ys at *
  generalize hok : ncOk n fs = ok at *
  have HOK2 := Lib.hid hok
  clear hok
  clear b1 b2 k2 hz r1 r2 hsm h1 h2 h3 hf ht hm hNP HOK
  go_enter Tryz.func16, Tryz.ntmps16
  go_wp2_with fail
  generalize (w.alloc (.cells #[.slice a1 m1 c1, .slice a2 m2 c2] 38)).alloc (.cells #[.slice none 0 0, .slice none 0 0, .slice none 0 0, .slice none 0 0, .string ⟨#[]⟩, .string ⟨#[]⟩, .int .i64 0] 45) = w2 at *
  refine (HCP.out w2 HB2.out).mono ?_
  rintro e w3 ⟨v3, fp, rfl, ho, hn, hlt, b3⟩
  obtain ⟨a5, n5, c5, a6, n6, c6, rfl⟩ := ho.form
  have K3 := Lib.hid (kept_o' K2.out b3)
  have HB3 := Lib.hid (HB2.out.trans (b3.mono HB2.out.size))
  have HO := Lib.hid ho
  have HN := Lib.hid hn
  have HL := Lib.hid (show ∀ k ∈ fp, w.heap.size + 1 + 1 ≤ k ∧ k < w3.heap.size from fun k hk => by have := hlt k hk; have := HZ.out; omega)
  have HC3 := Lib.hid (fun (w' : World) (hb : Below w3.heap.size w3 w') => HS3.out.2.2 w' (HB3.out.trans (hb.mono HB3.out.size)))
  have hz3 : w.heap.size + 1 + 1 ≤ w3.heap.size := by have := b3.size; have := HZ.out; omega
  have HN1 := Lib.hid HS3.out.1
  have HL3 := Lib.hid HS3.out.2.1
  clear b3 ho hn hlt
  go_wp2_with (at_builtin; refine StopC.go ?_)
  unfold StopC
  have hbe : Below w3.heap.size w3 (w3.alloc (.cells #[] 78)) := (Below.refl _ _).alloc (Nat.le_refl _) _
  refine wpList_catG rfl (.tmp 10) (.tmp 11) 42 78 rfl Tryz.underlying42 (.agg #[.int .i64 0, .int .i64 0]) 2 16 Tryz.infoFmt rfl (by decide) w3.heap.size (.slice (some ⟨_, 0, none⟩) 0 0) 0 [] (by rfl) (World.ownsRow_made (base := w3.heap.size) w3 #[] 0 (Nat.le_refl _) (Nat.zero_le _) (by simp)) a3 m3 c3 ys (by rfl) HL3.out HN1.out (HC3.out _ hbe) HE3.out (by unfold maxLen; omega) (by omega) hbe.size ?_
  intro v5 w5 o5 g5 l5
  obtain ⟨e5, f5, rfl⟩ := row_form0 o5
  have B5 : Below w3.heap.size w3 w5 := Below.grown hbe g5 hbe.size (fun q hq => by have hq2 := Option.some.inj hq; rw [← hq2]; exact Nat.le_refl _)
  obtain ⟨fq, q1, q2, q3⟩ := HD3.out _ _ _ o5
  have HQ := Lib.hid q1
  have HQN := Lib.hid q2
  have HQL := Lib.hid (show ∀ k ∈ fq, w3.heap.size ≤ k ∧ k < w5.heap.size from fun k hk => ⟨(q3 k hk).1, (q3 k hk).2.1⟩)
  have HO := Lib.hid (HO.out.behind B5)
  have K5 := Lib.hid (kept_o' K3.out B5)
  have HB5 := Lib.hid (HB3.out.trans (B5.mono HB3.out.size))
  have hz5 : w3.heap.size ≤ w5.heap.size := B5.size
  obtain ⟨m5, hm5⟩ : ∃ m5, m5 = 0 + m3 := ⟨_, rfl⟩
  rw [← hm5] at HQ ⊢
  clear hm5 B5 g5 l5 o5 q1 q2 q3 hbe
  have HCR := Lib.hid (newC_rd (HO.out.rd HNR.out) HQ.out.rd)
  have b6 := (Below.refl w5.heap.size w5).alloc (Nat.le_refl _) (.cells #[.slice a5 n5 c5, .slice a6 n6 c6, .slice none 0 0, .slice e5 m5 f5, .string ⟨#[]⟩, .string ⟨#[]⟩, .int .i64 0] 45)
  have k6 := heap_alloc_new w5 (.cells #[.slice a5 n5 c5, .slice a6 n6 c6, .slice none 0 0, .slice e5 m5 f5, .string ⟨#[]⟩, .string ⟨#[]⟩, .int .i64 0] 45)
  have HB6 := Lib.hid (HB5.out.trans (b6.mono HB5.out.size))
  have HCR6 := Lib.hid (HCR.out.behind b6)
  have HO6 := Lib.hid (newC_own (HO.out.behind b6) (HQ.out.behind b6))
  have K6 := Lib.hid (kept_o' K5.out b6)
  have X6 := Lib.hid k6
  clear b6 k6
  go_wp2_with fail
  generalize w5.alloc (.cells #[.slice a5 n5 c5, .slice a6 n6 c6, .slice none 0 0, .slice e5 m5 f5, .string ⟨#[]⟩, .string ⟨#[]⟩, .int .i64 0] 45) = w6 at *
  refine (HCO.out _ w6 HCR6.out HB6.out).mono ?_
  rintro e w7 ⟨rfl, b7⟩
  have K7 := Lib.hid (kept_o' K6.out b7)
  have x7 := kept_o' X6.out b7
  have HB7 := Lib.hid (HB6.out.trans (b7.mono HB6.out.size))
  have HO7 := Lib.hid (HO6.out.behind b7)
  have HLT := Lib.hid (HO7.out.lt)
  have HLO := Lib.hid (show ∀ k ∈ fp ++ fq, w.heap.size + 1 + 1 ≤ k from fun k hk => by
    rcases List.mem_append.1 hk with hk | hk
    · exact (HL.out k hk).1
    · have := (HQL.out k hk).1; omega)
  have HND := Lib.hid (List.nodup_append.2 ⟨HN.out, HQN.out, fun x hx y hy e => by have h1 := HL.out x hx; have h2 := HQL.out y hy; omega⟩)
  have x70 := blkc x7 (j := 0) (u := .slice a5 n5 c5) rfl
  have x71 := blkc x7 (j := 1) (u := .slice a6 n6 c6) rfl
  have x72 := blkc x7 (j := 2) (u := .slice none 0 0) rfl
  have x73 := blkc x7 (j := 3) (u := .slice e5 m5 f5) rfl
  have x74 := blkc x7 (j := 4) (u := .string ⟨#[]⟩) rfl
  have x75 := blkc x7 (j := 5) (u := .string ⟨#[]⟩) rfl
  have x76 := blkc x7 (j := 6) (u := .int .i64 0) rfl
  clear b7 x7
  cases ok
  · have HR := Lib.hid (HRN.out rfl)
    clear x70 x71 x72 x73 x74 x75 x76
    go_wp2_with ((show wpList _ _ _ (⟨none, .store 45 _ _, _, _, _, _⟩ :: _) _ _); refine wpList_stx rfl 45 _ _ rfl (w.heap.size + 1) 0 [.slice none 0 0, .slice none 0 0, .slice none 0 0, .slice none 0 0, .string ⟨#[]⟩, .string ⟨#[]⟩, .int .i64 0] rfl rfl K7.out (by simp) (by kernel_rfl) (by simp [Value.oneCell']) ?_; intro w8 hs; have n2 := hs.blk; have HB8 := Lib.hid (hs.below w.heap.size w (by omega) HB7.out); clear hs; have t0 := blkp n2 (j := 0) (u := .slice none 0 0) rfl (by decide); have t1 := blkp n2 (j := 1) (u := .slice none 0 0) rfl (by decide); have t2 := blkp n2 (j := 2) (u := .slice none 0 0) rfl (by decide); have t3 := blkp n2 (j := 3) (u := .slice none 0 0) rfl (by decide); have t4 := blkp n2 (j := 4) (u := .string ⟨#[]⟩) rfl (by decide); have t5 := blkp n2 (j := 5) (u := .string ⟨#[]⟩) rfl (by decide); have t6 := blkp n2 (j := 6) (u := .int .i64 0) rfl (by decide))
    rw [HNP.out]
    exact bodyPost_ret (v := .tuple #[.agg #[.slice none 0 0, .slice none 0 0, .slice none 0 0, .slice none 0 0, .string ⟨#[]⟩, .string ⟨#[]⟩, .int .i64 0], .bool false]) (by simp [results, Tryz.results16, go_sem, t0, t1, t2, t3, t4, t5, t6]) rfl ⟨_, [], (by rw [HOK2.out]), by rw [HR.out]; exact nilC_own _, List.nodup_nil, (fun k hk => by cases hk), HB8.out⟩
  · have HR := Lib.hid (HRY.out rfl)
    go_wp2_with ((show wpList _ _ _ (⟨none, .store 45 _ _, _, _, _, _⟩ :: _) _ _); refine wpList_stx rfl 45 _ _ rfl (w.heap.size + 1) 0 [.slice a5 n5 c5, .slice a6 n6 c6, .slice none 0 0, .slice e5 m5 f5, .string ⟨#[]⟩, .string ⟨#[]⟩, .int .i64 0] rfl rfl K7.out (by simp) (by kernel_rfl) (by simp [Value.oneCell']) ?_; intro w8 hs; have n2 := hs.blk; have HO8 := Lib.hid (hs.con HO7.out (fun hk => by have := HLO.out _ hk; omega)); have HZ8 := Lib.hid hs.size; have HB8 := Lib.hid (hs.below w.heap.size w (by omega) HB7.out); clear hs; have t0 := blkp n2 (j := 0) (u := .slice a5 n5 c5) rfl (by decide); have t1 := blkp n2 (j := 1) (u := .slice a6 n6 c6) rfl (by decide); have t2 := blkp n2 (j := 2) (u := .slice none 0 0) rfl (by decide); have t3 := blkp n2 (j := 3) (u := .slice e5 m5 f5) rfl (by decide); have t4 := blkp n2 (j := 4) (u := .string ⟨#[]⟩) rfl (by decide); have t5 := blkp n2 (j := 5) (u := .string ⟨#[]⟩) rfl (by decide); have t6 := blkp n2 (j := 6) (u := .int .i64 0) rfl (by decide))
    rw [HNP.out]
    exact bodyPost_ret (v := .tuple #[.agg #[.slice a5 n5 c5, .slice a6 n6 c6, .slice none 0 0, .slice e5 m5 f5, .string ⟨#[]⟩, .string ⟨#[]⟩, .int .i64 0], .bool true]) (by simp [results, Tryz.results16, go_sem, t0, t1, t2, t3, t4, t5, t6]) rfl ⟨_, fp ++ fq, (by rw [HOK2.out]), by rw [HR.out]; exact HO8.out, HND.out, (fun k hk => by have h1 := HLO.out k hk; have h2 := HLT.out k hk; have := HZ8.out; omega), HB8.out⟩
end Go.Proofs.YtonpcgdnfclidaaGreatDoor
