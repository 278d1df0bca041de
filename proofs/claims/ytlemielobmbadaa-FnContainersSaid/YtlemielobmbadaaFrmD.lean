/- Walks: frames that are drawn and may be invalid. -/
import Derived.Test.YtlemielobmbadaaFrmC
import Derived.Test.YtlemielobmbadaaCdd
import Derived.Deep.CutRange
import Derived.Deep.RegionHeld3
namespace Go.Proofs.Ytlemielobmbadaa
open Go.RowKit
set_option maxRecDepth 100000

def AnyP (w : World) (B : Nat) (c : Value) (K : Nat) (e : Ending) (w' : World) : Prop := ∃ (v : Value) (f : Frm), e = .returned v ∧ f.l.length ≤ 12 ∧ OwF w' w.heap.size v f ∧ CS w B c (K + 120) w'
theorem AnyP.fin {w wx : World} {B K : Nat} {c u : Value} {fc fp : Int} {xs : List Int} (hl : xs.length ≤ 12) (ho : Own wx (w.heap.size + 1) u xs) (hc : CS w B c (K + 110) wx) :
    AnyP w B c K (.returned (.agg #[.int .i64 fc, .int .i64 fp, u])) (((wx.setCell ⟨w.heap.size, 0, none⟩ (.int .i64 fc)).setCell ⟨w.heap.size, 1, none⟩ (.int .i64 fp)).setCell ⟨w.heap.size, 2, none⟩ u) :=
  ⟨_, ⟨fc, fp, xs⟩, rfl, hl, ⟨_, rfl, (ho.set3 (Nat.lt_succ_self _)).mono (Nat.le_succ _)⟩, (((hc.set (Nat.le_refl _) _).set (Nat.le_refl _) _).set (Nat.le_refl _) _).mono (by omega)⟩
theorem CS.cell {w0 w' : World} {B K : Nat} {c : Value} (h : CS w0 B c K w') {b j : Nat} {u : Value} (hc : w0.cell? ⟨b, j, none⟩ = some u) (hne : b ≠ B) : w'.cell? ⟨b, j, none⟩ = some u := by
  rw [World.cell?_of_block (w := w0) (h.2.2.block b (World.block_lt_of_cell? w0 _ hc) (fun e => hne (by simpa using e)))]; exact hc
theorem cell_alloc {w : World} {b j : Nat} {u : Value} {o : Obj} (h : w.cell? ⟨b, j, none⟩ = some u) : (w.alloc o).cell? ⟨b, j, none⟩ = some u := by
  rw [World.cell?_of_block (w := w) (heap_alloc_old w o (World.block_lt_of_cell? w _ h))]; exact h
theorem cell_allocD {w : World} {b j : Nat} {u : Value} {o : Obj} (h : w.drew.cell? ⟨b, j, none⟩ = some u) : (w.alloc o).drew.cell? ⟨b, j, none⟩ = some u := cell_alloc (w := w) h
theorem lit_after {w2 w5 : World} {xs : List Int} {T : TypeId} {B K : Nat} {c : Value} {lo hi : Int} (c5 : CS (w2.alloc (.cells (ints xs).toArray T)).drew B c K w5) (hB : B < w2.heap.size) (hr : ∀ x ∈ xs, lo ≤ x ∧ x ≤ hi) : ∀ j, j < xs.length → ∃ x : Int, lo ≤ x ∧ x ≤ hi ∧ w5.cell? ⟨w2.heap.size, j, none⟩ = some (.int .i64 x) := fun j hj => by
  obtain ⟨x, h1, h2, h3⟩ := lit_row (w := w2) (T := T) hr rfl (Nat.le_refl _) j hj
  exact ⟨x, h1, h2, c5.cell h3 (by omega)⟩
theorem lit2_row (w : World) : ∀ j, j < 2 → ∃ x : Int, -1 ≤ x ∧ x ≤ 256 ∧ (w.alloc (.cells #[.int .i64 (-1), .int .i64 256] 3)).cell? ⟨w.heap.size, j, none⟩ = some (.int .i64 x) :=
  fun j hj => lit_row (w := w) (T := 3) (xs := [-1, 256]) (by decide) rfl (Nat.le_refl _) j hj
theorem lit_after2 {w2 w5 : World} {B K : Nat} {c : Value} (c5 : CS (w2.alloc (.cells #[.int .i64 (-1), .int .i64 256] 3)).drew B c K w5) (hB : B < w2.heap.size) : ∀ j, j < 2 → ∃ x : Int, -1 ≤ x ∧ x ≤ 256 ∧ w5.cell? ⟨w2.heap.size, j, none⟩ = some (.int .i64 x) :=
  lit_after (xs := [-1, 256]) (T := 3) c5 hB (by decide)
theorem cell_set {w : World} {b j b' j' : Nat} {u v : Value} (h : w.cell? ⟨b, j, none⟩ = some u) (hne : ¬ b = b') : (w.setCell ⟨b', j', none⟩ v).cell? ⟨b, j, none⟩ = some u := by
  rw [World.cell?_of_block (w := w) (heap_setCell_other w ⟨b', j', none⟩ b v (fun e => hne e))]; exact h
/-- What stands since the frame was drawn. -/
def Fst (w : World) (B : Nat) (c : Value) (K b3 : Nat) (u : Value) (xs : List Int) (fc fp : Int) (wx : World) : Prop := CS w B c K wx ∧ Own wx (w.heap.size + 1) u xs ∧ wx.heap[b3]? = some (.cells #[.int .i64 fc, .int .i64 fp, u] 50 (0, 0)) ∧ wx.heap[w.heap.size]? = some (.cells #[.int .i64 0, .int .i64 0, .slice none 0 0] 50 (0, 0))
section
variable {w wx wy : World} {B K K' b3 : Nat} {c u : Value} {xs : List Int} {fc fp : Int}
theorem Fst.cs (h : Fst w B c K b3 u xs fc fp wx) : Cs wx B c K := h.1.st
theorem Fst.drew (h : Fst w B c K b3 u xs fc fp wx) : Fst w B c K b3 u xs fc fp wx.drew := ⟨h.1.drew, h.2.1, h.2.2.1, h.2.2.2⟩
theorem Fst.alloc (h : Fst w B c K b3 u xs fc fp wx) (o : Obj) : Fst w B c K b3 u xs fc fp (wx.alloc o) :=
  ⟨h.1.alloc o, h.2.1.alloc o, (heap_alloc_old wx o (Array.getElem?_eq_some_iff.1 h.2.2.1).1).trans h.2.2.1, (heap_alloc_old wx o (Array.getElem?_eq_some_iff.1 h.2.2.2).1).trans h.2.2.2⟩
theorem Fst.call (h : Fst w B c K b3 u xs fc fp wx) (h2 : CS wx B c K' wy) (hb : w.heap.size ≤ b3) (hB : B < w.heap.size) : Fst w B c K' b3 u xs fc fp wy :=
  ⟨h.1.call h2, h.2.1.cs (by omega) h2, h.1.blk2 h2 hb h.2.2.1, h.1.blk2 h2 (Nat.le_refl _) h.2.2.2⟩
end
/-- A store into another block. -/
theorem Own.setOther {w : World} {base b j : Nat} {v u : Value} {xs : List Int} (h : Own w base v xs) (hb : ∀ k, v.ownBlock = some k → k ≠ b) : Own (w.setCell ⟨b, j, none⟩ u) base v xs :=
  h.kept fun k hk => heap_setCell_other w ⟨b, j, none⟩ k _ (fun e => hb k hk e)
set_option maxHeartbeats 3200000 in
theorem anyFrameC (B : Nat) (c : Value) (K : Nat) (w : World) (h : Cs w B c K) (hk : K ≤ 800000) :
    Calls Try.prog 121 #[.pointer (some ⟨B, 0, none⟩)] w (AnyP w B c K) := by
  have hlB := h.lt.1
  have HC0 := Lib.hid (h.here.alloc (.cells #[.int .i64 0, .int .i64 0, .slice none 0 0] 50))
  have HB0 := Lib.hid (heap_alloc_new w (.cells #[.int .i64 0, .int .i64 0, .slice none 0 0] 50))
  clear h
  go_enter Try.func121, Try.ntmps121
  go_wp2_with fail
  refine (frameC B c _ _ HC0.out.st (by omega)).mono ?_
  rintro e w1 ⟨v, f, rfl, hok, ⟨u, rfl, o1⟩, c1⟩
  have hl := (frmOk_parts hok).2.2.1
  obtain ⟨g, f0, cap, rfl, hg1, hg2, hc1, hc2⟩ := o1.openN hl (by omega)
  obtain ⟨fc, fp, xs⟩ := f
  have hl : xs.length = 12 := hl
  have HL := Lib.hid hl
  have C1 := Lib.hid (HC0.out.call c1)
  have HZ1 := Lib.hid (HC0.out.blk2 c1 (Nat.le_refl _) HB0.out)
  have C2 := Lib.hid (C1.out.alloc (.cells #[.int .i64 fc, .int .i64 fp, .slice (some ⟨g, f0, none⟩) 12 cap] 50))
  have hsz : w.heap.size + 1 ≤ w1.heap.size := by have := (Array.getElem?_eq_some_iff.1 HZ1.out).1; omega
  have HZ2 := Lib.hid ((heap_alloc_old w1 (.cells #[.int .i64 fc, .int .i64 fp, .slice (some ⟨g, f0, none⟩) 12 cap] 50) (Array.getElem?_eq_some_iff.1 HZ1.out).1).trans HZ1.out)
  have HF2 := Lib.hid (heap_alloc_new w1 (.cells #[.int .i64 fc, .int .i64 fp, .slice (some ⟨g, f0, none⟩) 12 cap] 50))
  have hs0 : (w.alloc (.cells #[.int .i64 0, .int .i64 0, .slice none 0 0] 50)).heap.size = w.heap.size + 1 := by simp
  rw [hs0] at hg1
  have HO2 := Lib.hid ((o1.mono (show w.heap.size + 1 ≤ _ by simp)).alloc (.cells #[.int .i64 fc, .int .i64 fp, .slice (some ⟨g, f0, none⟩) 12 cap] 50))
  clear HC0 HB0 c1 o1 hok hl hs0 C1 HZ1
  have hne1 : ¬ w1.heap.size = w.heap.size := by omega
  have hne2 : ¬ w.heap.size = w1.heap.size := by omega
  have hlt : ∀ k, (Value.slice (some ⟨g, f0, none⟩) 12 cap).ownBlock = some k → k ≠ w1.heap.size := fun k hk => by have h2 : g = k := (by simpa [Value.ownBlock] using hk); omega
  go_wp2_with fail
  refine (pickC B c _ 30 _ C2.out.st (by omega) (by omega) (by omega)).mono ?_
  rintro e w2 ⟨x, x0, x1, rfl, c2, -⟩
  have C3 := Lib.hid (C2.out.call c2)
  have HZ3 := Lib.hid (C2.out.blk2 c2 (Nat.le_refl _) HZ2.out)
  have HF3 := Lib.hid (C2.out.blk2 c2 (by omega) HF2.out)
  have HO3 := Lib.hid (HO2.out.cs (by omega) c2)
  clear c2 C2 HZ2 HF2 HO2
  by_cases e0 : x = 0
  · subst e0
    have C4 := Lib.hid (C3.out.alloc (.cells (ints [-1, 256]).toArray 3))
    have hs2 := C3.out.size
    have HZ4 := Lib.hid ((heap_alloc_old w2 (.cells (ints [-1, 256]).toArray 3) (Array.getElem?_eq_some_iff.1 HZ3.out).1).trans HZ3.out)
    have HF4 := Lib.hid ((heap_alloc_old w2 (.cells (ints [-1, 256]).toArray 3) (Array.getElem?_eq_some_iff.1 HF3.out).1).trans HF3.out)
    have HO4 := Lib.hid (HO3.out.alloc (.cells (ints [-1, 256]).toArray 3))
    clear C3 HZ3 HF3 HO3
    go_wp2_with fail
    refine (amongL B c _ [-1, 256] (-1) 256 _ w2 rfl w2.heap.size 2 2 rfl (by simp) (by omega) C4.out.st (by omega) (by omega) (by omega) (by decide)).mono ?_
    rintro e w3 ⟨z, -, -, rfl, c3, -⟩
    have C5 := Lib.hid ((C4.out.call c3).mono (show _ ≤ K + 110 by omega))
    have HZ5 := Lib.hid (C4.out.blk2 c3 (Nat.le_refl _) HZ4.out)
    have HF5 := Lib.hid (C4.out.blk2 c3 (by omega) HF4.out)
    have HO5 := Lib.hid (HO4.out.cs (by omega) c3)
    obtain ⟨d0, d1, d2, d3, d4, d5, d6⟩ := blk3 HF5.out
    obtain ⟨z0, z1, z2, z3, z4, z5, z6⟩ := blk3 HZ5.out
    clear c3 C4 HZ4 HF4 HO4
    go_wp2
    exact bodyPost_ret (v := .agg #[.int .i64 z, .int .i64 fp, .slice (some ⟨g, f0, none⟩) 12 cap]) (by simp [results, Try.results121, go_sem, d0, d1, d2, z0, z1, z2, hne1, hne2]) rfl (AnyP.fin (by rw [HL.out]; decide) (HO5.out.setOther hlt) (C5.out.set (by omega) _))
  by_cases e1 : x = 1
  · subst e1
    have C4 := Lib.hid (C3.out.alloc (.cells (ints [-1, 12]).toArray 3))
    have hs2 := C3.out.size
    have HZ4 := Lib.hid ((heap_alloc_old w2 (.cells (ints [-1, 12]).toArray 3) (Array.getElem?_eq_some_iff.1 HZ3.out).1).trans HZ3.out)
    have HF4 := Lib.hid ((heap_alloc_old w2 (.cells (ints [-1, 12]).toArray 3) (Array.getElem?_eq_some_iff.1 HF3.out).1).trans HF3.out)
    have HO4 := Lib.hid (HO3.out.alloc (.cells (ints [-1, 12]).toArray 3))
    clear C3 HZ3 HF3 HO3
    go_wp2_with fail
    refine (amongL B c _ [-1, 12] (-1) 12 _ w2 rfl w2.heap.size 2 2 rfl (by simp) (by omega) C4.out.st (by omega) (by omega) (by omega) (by decide)).mono ?_
    rintro e w3 ⟨z, -, -, rfl, c3, -⟩
    have C5 := Lib.hid ((C4.out.call c3).mono (show _ ≤ K + 110 by omega))
    have HZ5 := Lib.hid (C4.out.blk2 c3 (Nat.le_refl _) HZ4.out)
    have HF5 := Lib.hid (C4.out.blk2 c3 (by omega) HF4.out)
    have HO5 := Lib.hid (HO4.out.cs (by omega) c3)
    obtain ⟨d0, d1, d2, d3, d4, d5, d6⟩ := blk3 HF5.out
    obtain ⟨z0, z1, z2, z3, z4, z5, z6⟩ := blk3 HZ5.out
    clear c3 C4 HZ4 HF4 HO4
    go_wp2
    exact bodyPost_ret (v := .agg #[.int .i64 fc, .int .i64 z, .slice (some ⟨g, f0, none⟩) 12 cap]) (by simp [results, Try.results121, go_sem, d0, d1, d2, z0, z1, z2, hne1, hne2]) rfl (AnyP.fin (by rw [HL.out]; decide) (HO5.out.setOther hlt) (C5.out.set (by omega) _))
  by_cases e2 : x = 2
  · subst e2
    obtain ⟨d0, d1, d2, d3, d4, d5, d6⟩ := blk3 HF3.out
    obtain ⟨z0, z1, z2, z3, z4, z5, z6⟩ := blk3 HZ3.out
    have h1I : (1 : Int) ≤ (12 : Int) := by omega
    have hcI : (12 : Int) ≤ (cap : Int) := by omega
    have hc1 : ¬ cap = 1 := by omega
    have HO5 := Lib.hid (HO3.out.part 1 11 (by omega))
    have C5 := Lib.hid (C3.out.mono (show _ ≤ K + 110 by omega))
    have HSL := Lib.hid (show (sub xs 1 11).length = 11 from sub_len (by omega))
    go_wp2
    exact bodyPost_ret (v := .agg #[.int .i64 fc, .int .i64 fp, .slice (some ⟨g, f0 + 1, none⟩) 11 (cap - 1)]) (by simp [results, Try.results121, go_sem, d0, d1, d2, z0, z1, z2, hne1, hne2]) rfl (AnyP.fin (xs := sub xs 1 11) (by rw [HSL.out]; decide) (HO5.out.setOther (fun k hk => by have h2 : g = k := (by simpa [Value.ownBlock] using hk); omega)) (C5.out.set (by omega) _))
  by_cases e3 : x = 3
  · subst e3
    have HS3 := Lib.hid (show Fst w B c (K + 80 + 2) w1.heap.size (.slice (some ⟨g, f0, none⟩) 12 cap) xs fc fp w2 from ⟨C3.out, HO3.out, HF3.out, HZ3.out⟩)
    have h12 : (0 : Int) ≤ 12 := by omega
    have hs2 := C3.out.size
    have hgn3 : ¬ g = w.heap.size := by omega
    have hgn4 : ¬ w.heap.size = g := by omega
    have hgn1 : ¬ g = w1.heap.size := by omega
    have hgn2 : ¬ w1.heap.size = g := by omega
    clear C3 HO3 HF3 HZ3
    go_upto_region 10 with fail
    have hS0 := HS3.out.drew
    obtain ⟨d0, d1, d2, d3, d4, d5, d6⟩ := blk3 hS0.2.2.1
    clear d0 d1 d3 d4 d5 d6
    go_region_held3 (fun w' => w'.cell? ⟨w1.heap.size, 2, none⟩ = some (.slice (some ⟨g, f0, none⟩) 12 cap))
      (first
        | (with_reducible exact d2)
        | (with_reducible exact d5)
        | (with_reducible exact d7)
        | (with_reducible exact cell_alloc d5)
        | (with_reducible exact cell_alloc d2)
        | (with_reducible exact cell_allocD d2)
        | (with_reducible exact cell_set d7 hgn2))
      (first
        | (go_at_call 61; go_loud (refine (pickC B c _ 12 _ (by first | (with_reducible exact hS0.cs) | (with_reducible exact (HS3.out.alloc _).drew.cs)) (by omega) (by omega) (by omega)).mono ?_; rintro e w5 ⟨p, p0, p1, rfl, c5, -⟩; have S5 := Lib.hid (show Fst w B c (K + 80 + 2 + 2) w1.heap.size (.slice (some ⟨g, f0, none⟩) 12 cap) xs fc fp w5 from (by first | (with_reducible exact hS0.call c5 (by omega) hlB) | (with_reducible exact (HS3.out.alloc _).drew.call c5 (by omega) hlB))); have d5 := (blk3 S5.out.2.2.1).2.2.1; have hs5 := S5.out.1.size; (try (have hlr := lit_after2 c5 (by omega))); have hlA := lit2_row w5; clear c5; obtain ⟨p, rfl⟩ := Int.eq_ofNat_of_zero_le p0; have hp12 : p < 12 := (by omega); have hpI : (p : Int) < 12 := (by omega)))
        | (go_at_call 60; go_loud (refine (amongC B c _ _ 2 2 (-1) 256 _ (by first | (with_reducible exact S5.out.cs) | (with_reducible exact (S5.out.alloc _).cs)) (by omega) (by omega) (by omega) (by omega) (by first | (with_reducible exact hlA) | (with_reducible exact hlr))).mono ?_; rintro e w6 ⟨z, -, -, rfl, c6, -⟩; have S6 := Lib.hid (show Fst w B c (K + 80 + 2 + 2 + 2) w1.heap.size (.slice (some ⟨g, f0, none⟩) 12 cap) xs fc fp w6 from (by first | (with_reducible exact S5.out.call c6 (by omega) hlB) | (with_reducible exact (S5.out.alloc _).call c6 (by omega) hlB))); have d7 := (blk3 S6.out.2.2.1).2.2.1; clear c6; have hcell6 := (S6.out.2.1.cellAt rfl).2 p (by rw [HL.out]; exact hp12); have hfr6 := S6.out.2.1.frozenAt rfl (f0 + p))))
    all_goals
      have HOF := Lib.hid (S6.out.2.1.stored rfl p (by rw [HL.out]; exact hp12) z).1
      have HCF := Lib.hid ((S6.out.1.set (b := g) (j := f0 + p) (by omega) (.int .i64 z)).mono (show _ ≤ K + 110 by omega))
      have HLF := Lib.hid (show (xs.set p z).length ≤ 12 by rw [List.length_set, HL.out]; decide)
      obtain ⟨e0, e1, e2, e3, e4, e5, e6⟩ := blk3 S6.out.2.2.1
      obtain ⟨z0, z1, z2, z3, z4, z5, z6⟩ := blk3 S6.out.2.2.2
      clear hcell6 hfr6 d7 d5 d2 hS0
      go_wp2
      exact bodyPost_ret (v := .agg #[.int .i64 fc, .int .i64 fp, .slice (some ⟨g, f0, none⟩) 12 cap]) (by simp [results, Try.results121, go_sem, e0, e1, e2, z0, z1, z2, hne1, hne2, hgn1, hgn2, hgn3, hgn4]) rfl (AnyP.fin HLF.out HOF.out HCF.out)
  · have f0' : (x == 0) = false := by simpa using e0
    have f1' : (x == 1) = false := by simpa using e1
    have f2' : (x == 2) = false := by simpa using e2
    have f3' : (x == 3) = false := by simpa using e3
    obtain ⟨d0, d1, d2, d3, d4, d5, d6⟩ := blk3 HF3.out
    obtain ⟨z0, z1, z2, z3, z4, z5, z6⟩ := blk3 HZ3.out
    have C5 := Lib.hid (C3.out.mono (show _ ≤ K + 110 by omega))
    go_wp2
    exact bodyPost_ret (v := .agg #[.int .i64 fc, .int .i64 fp, .slice (some ⟨g, f0, none⟩) 12 cap]) (by simp [results, Try.results121, go_sem, d0, d1, d2, z0, z1, z2, hne1, hne2]) rfl (AnyP.fin (by rw [HL.out]; decide) HO3.out C5.out)
end Go.Proofs.Ytlemielobmbadaa
