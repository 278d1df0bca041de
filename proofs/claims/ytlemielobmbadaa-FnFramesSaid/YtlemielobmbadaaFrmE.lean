/- Walks: the draws of FnFrames. -/
import Derived.Test.YtlemielobmbadaaFrmD
namespace Go.Proofs.Ytlemielobmbadaa
open Go.RowKit
set_option maxRecDepth 100000

def DrFP (w : World) (e : Ending) (w' : World) : Prop := ∃ (v : Value) (f : Frm), e = .returned v ∧ f.l.length ≤ 12 ∧ OwF w' w.heap.size v f ∧ Below w.heap.size w w'
theorem DrFP.fin {w wx : World} {u : Value} {fc fp : Int} {xs : List Int} (hl : xs.length ≤ 12) (ho : Own wx (w.heap.size + 1) u xs) (hb : Below w.heap.size w wx) :
    DrFP w (.returned (.agg #[.int .i64 fc, .int .i64 fp, u])) (((wx.setCell ⟨w.heap.size, 0, none⟩ (.int .i64 fc)).setCell ⟨w.heap.size, 1, none⟩ (.int .i64 fp)).setCell ⟨w.heap.size, 2, none⟩ u) :=
  ⟨_, ⟨fc, fp, xs⟩, rfl, hl, ⟨_, rfl, (ho.set3 (Nat.lt_succ_self _)).mono (Nat.le_succ _)⟩, ((hb.setCell (p := ⟨w.heap.size, 0, none⟩) (Nat.le_refl _) _).setCell (p := ⟨w.heap.size, 1, none⟩) (Nat.le_refl _) _).setCell (p := ⟨w.heap.size, 2, none⟩) (Nat.le_refl _) _⟩
set_option maxHeartbeats 1600000 in
theorem drawVF_any (v : Value) (w : World) (h : RdB w v) :
    Calls Try.prog 93 #[v] w (DrFP w) := by
  obtain ⟨a, len, cap, rfl, hrd⟩ := h
  have hal := (Below.refl w.heap.size w).alloc (Nat.le_refl _) (.cells #[.int .i64 0, .int .i64 0, .slice none 0 0] 50)
  have hrb : RdB w (.slice a len cap) := ⟨a, len, cap, rfl, hrd⟩
  have hrb2 := RdB.below hrb hal
  have H1 := (curN hrb2).here
  have HB0 := Lib.hid (hal.alloc hal.size (.cells #[.slice a len cap, .int .i64 0, .int .u64 0] 76))
  have HZ := Lib.hid (heap_alloc_new w (.cells #[.int .i64 0, .int .i64 0, .slice none 0 0] 50))
  have hs1 : (w.alloc (.cells #[.int .i64 0, .int .i64 0, .slice none 0 0] 50)).heap.size = w.heap.size + 1 := by simp
  rw [hs1] at H1
  have HH := Lib.hid H1
  have HZ1 := Lib.hid ((heap_alloc_old _ (.cells #[.slice a len cap, .int .i64 0, .int .u64 0] 76) (Array.getElem?_eq_some_iff.1 HZ.out).1).trans HZ.out)
  clear hrd hrb hrb2 hal H1 hs1
  go_enter Try.func93, Try.ntmps93
  go_wp2_with fail
  refine (anyFrameC (w.heap.size + 1) _ 0 _ HH.out.st (by omega)).mono ?_
  rintro e w4 ⟨v4, f, rfl, hl, ⟨u, rfl, o⟩, c4⟩
  obtain ⟨a5, c5, n5, HX5, rfl, -⟩ := o.rd.opn
  have HB4 := Lib.hid (c4.belowAll HB0.out (by omega))
  have HO4 := Lib.hid (o.mono (show w.heap.size + 1 ≤ _ by simp))
  have HL := Lib.hid hl
  obtain ⟨z0, z1, z2, z3, z4, z5, z6⟩ := blk3 (c4.blk HZ1.out (by omega))
  clear c4 o HH HZ HZ1 hl
  go_wp2
  exact bodyPost_ret (v := .agg #[.int .i64 f.c, .int .i64 f.p, .slice a5 n5 c5]) (by simp [results, Try.results93, go_sem, z0, z1, z2]) rfl (DrFP.fin HL.out HO4.out HB4.out)
theorem drawFB_any (v : Value) (w : World) (h : RdB w v) :
    Calls Try.prog 37 #[v] w (DrFP w) := by
  have hal := (Below.refl w.heap.size w).alloc (Nat.le_refl _) (.cells #[.int .i64 0, .int .i64 0, .slice none 0 0] 50)
  have HR := Lib.hid (RdB.below h hal)
  have HB := Lib.hid hal
  have HZ := Lib.hid (heap_alloc_new w (.cells #[.int .i64 0, .int .i64 0, .slice none 0 0] 50))
  clear hal h
  go_enter Try.func37, Try.ntmps37
  go_wp2_with fail
  refine (drawVF_any _ _ HR.out).mono ?_
  rintro e w4 ⟨v4, f, rfl, hl, ⟨u, rfl, o⟩, b4⟩
  obtain ⟨a5, c5, n5, HX5, rfl, -⟩ := o.rd.opn
  have HB4 := Lib.hid (HB.out.trans (b4.mono HB.out.size))
  have HO4 := Lib.hid (o.mono (show w.heap.size + 1 ≤ _ by simp))
  have HL := Lib.hid hl
  obtain ⟨z0, z1, z2, z3, z4, z5, z6⟩ := blk3 (kept_new' b4)
  clear b4 o HZ hl
  go_wp2
  exact bodyPost_ret (v := .agg #[.int .i64 f.c, .int .i64 f.p, .slice a5 n5 c5]) (by simp [results, Try.results37, go_sem, z0, z1, z2]) rfl (DrFP.fin HL.out HO4.out HB4.out)
set_option maxHeartbeats 3200000 in
theorem drawPF_any (v : Value) (w : World) (h : RdB w v) :
    Calls Try.prog 42 #[v] w (DrP w 17) := by
  obtain ⟨a, len, cap, rfl, hrd⟩ := h
  have hal := (Below.refl w.heap.size w).alloc (Nat.le_refl _) (.cells #[.slice a len cap, .int .i64 0, .int .u64 0] 76)
  have HH := Lib.hid (curN (w := w) (v := .slice a len cap) ⟨a, len, cap, rfl, hrd⟩).here
  have HB0 := Lib.hid hal
  have hsz1 : (w.alloc (.cells #[.slice a len cap, .int .i64 0, .int .u64 0] 76)).heap.size = w.heap.size + 1 := by simp
  clear hrd hal
  go_enter Try.func42, Try.ntmps42
  go_wp2_with fail
  refine (frameC w.heap.size _ 0 _ HH.out.st (by omega)).mono ?_
  rintro e w4 ⟨v4, f, rfl, hok, o, c4⟩
  have C4 := Lib.hid (HH.out.call c4)
  have HO := Lib.hid o.rd
  have hl12 := (frmOk_parts hok).2.2.1
  have h17 := frmL_len hl12
  have HL := Lib.hid h17
  clear c4 HH o
  go_wp2_with fail
  refine (l23List_any _ f _ HO.out hl12).mono ?_
  rintro e w5 ⟨v5, rfl, o5, b5⟩
  have C5 := Lib.hid (C4.out.below b5)
  have hsz4 := C4.out.size
  rw [hsz1] at hsz4
  obtain ⟨g, f0, cp, rfl, hg1, hg2, hcp1, hcp2⟩ := o5.openN h17 (by omega)
  have HO5 := Lib.hid (o5.mono (show w.heap.size + 1 ≤ w4.heap.size by omega))
  have hlen := HL
  clear b5 o5 C4 HO hl12 h17 hok
  generalize frmL f = bs at *
  go_wp2_with fail
  refine (pickC w.heap.size _ _ 6 _ C5.out.st (by omega) (by omega) (by omega)).mono ?_
  rintro e w6 ⟨x, x0, x1, rfl, c6, -⟩
  have C6 := Lib.hid (C5.out.call c6)
  have HO6 := Lib.hid (HO5.out.cs (by omega) c6)
  clear c6 C5 HO5
  by_cases e0 : x = 0
  · subst e0
    go_wp2_with fail
    refine (pickC w.heap.size _ _ 17 _ C6.out.st (by omega) (by omega) (by omega)).mono ?_
    rintro e w7 ⟨p, p0, p1, rfl, c7, -⟩
    obtain ⟨p, rfl⟩ := Int.eq_ofNat_of_zero_le p0
    have hp17 : p < 17 := by omega
    have hpI : (p : Int) < 17 := by omega
    have C7 := Lib.hid ((C6.out.call c7).alloc (.cells (ints [0, 255, 256, -1, 7]).toArray 3))
    have HO7 := Lib.hid ((HO6.out.cs (by omega) c7).alloc (.cells (ints [0, 255, 256, -1, 7]).toArray 3))
    have hs7 := (C6.out.call c7).size
    rw [hsz1] at hs7
    clear c7 C6 HO6
    go_wp2_with fail
    refine (amongL w.heap.size _ _ [0, 255, 256, -1, 7] (-1) 256 _ w7 rfl w7.heap.size 5 5 rfl (by simp) (by omega) C7.out.st (by omega) (by omega) (by omega) (by decide)).mono ?_
    rintro e w8 ⟨z, -, -, rfl, c8, -⟩
    have C8 := Lib.hid (C7.out.call c8)
    have HO8 := Lib.hid (HO7.out.cs (by omega) c8)
    have hcell := (HO8.out.cellAt rfl).2 p (by rw [HL.out]; exact hp17)
    have hfr := HO8.out.frozenAt rfl (f0 + p)
    have HB8 := Lib.hid (C8.out.belowAll HB0.out (Nat.le_refl _))
    have HOF := Lib.hid (HO8.out.stored rfl p (by rw [HL.out]; exact hp17) z)
    have HLF := Lib.hid (show (bs.set p z).length ≤ 17 by rw [List.length_set, HL.out]; decide)
    clear c8 C7 HO7 C8 HO8
    go_wp2
    go_ret
    exact ⟨_, _, rfl, HLF.out, HOF.out.1.mono (Nat.le_succ _), HB8.out.setCell (p := ⟨g, f0 + p, none⟩) (show w.heap.size ≤ g by omega) _⟩
  by_cases e1 : x = 1
  · subst e1
    go_wp2_with fail
    refine (pickC w.heap.size _ _ 2 _ C6.out.st (by omega) (by omega) (by omega)).mono ?_
    rintro e w7 ⟨p, p0, p1, rfl, c7, -⟩
    have hp : p = 0 ∨ p = 1 := by omega
    have C7 := Lib.hid (C6.out.call c7)
    have HO7 := Lib.hid (HO6.out.cs (by omega) c7)
    have HB8 := Lib.hid (C7.out.belowAll HB0.out (Nat.le_refl _))
    have hcI : (17 : Int) ≤ (cp : Int) := by omega
    have hcI2 : (16 : Int) ≤ (cp : Int) := by omega
    clear c7 C6 HO6 C7
    rcases hp with rfl | rfl
    · go_wp2
      go_ret
      exact ⟨_, bs, rfl, by rw [HL.out]; decide, HO7.out.mono (Nat.le_succ _), HB8.out⟩
    · have HOF := Lib.hid (HO7.out.part 0 16 (by omega))
      have HLF := Lib.hid (show (sub bs 0 16).length ≤ 17 by rw [sub_len (by rw [HL.out]; decide)]; decide)
      go_wp2
      go_ret
      exact ⟨_, _, rfl, HLF.out, HOF.out.mono (Nat.le_succ _), HB8.out⟩
  · have f0' : (x == 0) = false := by simpa using e0
    have f1' : (x == 1) = false := by simpa using e1
    have HB8 := Lib.hid (C6.out.belowAll HB0.out (Nat.le_refl _))
    go_wp2
    go_ret
    exact ⟨_, bs, rfl, by rw [HL.out]; decide, HO6.out.mono (Nat.le_succ _), HB8.out⟩
end Go.Proofs.Ytlemielobmbadaa
