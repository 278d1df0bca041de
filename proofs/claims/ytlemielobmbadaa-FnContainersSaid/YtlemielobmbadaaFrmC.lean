/- Walks: frames that are drawn. -/
import Derived.Test.YtlemielobmbadaaFrmF
import Derived.Test.YtlemielobmbadaaBa39
namespace Go.Proofs.Ytlemielobmbadaa
open Go.RowKit
set_option maxRecDepth 100000

theorem row_cs {w w' : World} {base B K n : Nat} {c v : Value} {T : TypeId} {us : List Value} (h : w.ownsRow base T 1 v n us) (hB : B < base) (hc : CS w B c K w') : w'.ownsRow base T 1 v n us :=
  ownsRow_kept h (fun x hx => hc.2.2.block x (h.lt x hx).2 (fun e => by have h1 := (h.lt x hx).1; have h2 : x = B := (by simpa using e); omega))
theorem row_alloc {w : World} {base n : Nat} {v : Value} {T : TypeId} {us : List Value} (h : w.ownsRow base T 1 v n us) (o : Obj) : (w.alloc o).ownsRow base T 1 v n us :=
  ownsRow_kept h (fun x hx => heap_alloc_old _ _ (h.lt x hx).2)
theorem lit_row {w : World} {xs : List Int} {lo hi : Int} {T : TypeId} (h : ∀ x ∈ xs, lo ≤ x ∧ x ≤ hi) {p n : Nat} (hb : p = w.heap.size) (hn : n ≤ xs.length) (j : Nat) (hj : j < n) : ∃ x : Int, lo ≤ x ∧ x ≤ hi ∧ (w.alloc (.cells (ints xs).toArray T)).cell? ⟨p, j, none⟩ = some (.int .i64 x) := by
  subst hb
  have hlt : j < xs.length := by omega
  have hx := h _ (List.getElem_mem hlt)
  refine ⟨_, hx.1, hx.2, ?_⟩
  rw [cell_of_row _ _ _ _ _ _ (heap_alloc_new w _)]
  simp [ints, hlt]
/-- One of the numbers of a literal. -/
theorem amongL (B : Nat) (c : Value) (K : Nat) (xs : List Int) (lo hi : Int) (w w0 : World) (hw : w = w0.alloc (.cells (ints xs).toArray 3)) (g n cap : Nat) (hg : g = w0.heap.size) (hn : n ≤ xs.length) (h1 : 1 ≤ n) (h : Cs w B c K) (hk : K ≤ 4000000000000000) (h2 : n ≤ 1000) (hB : B < g)
    (hr : ∀ x ∈ xs, lo ≤ x ∧ x ≤ hi) :
    Calls Try.prog 60 #[.pointer (some ⟨B, 0, none⟩), .slice (some ⟨g, 0, none⟩) n cap] w (AmongP w B c K lo hi) := by
  subst hw
  exact amongC B c K g n cap lo hi _ h hk h1 h2 (by omega) (fun j hj => lit_row hr hg hn j hj)
def ContP (w : World) (B : Nat) (c : Value) (K : Nat) (e : Ending) (w' : World) : Prop := ∃ (v : Value) (xs : List Int), e = .returned v ∧ xs.length = 12 ∧ bytL xs = true ∧ Own w' w.heap.size v xs ∧ CS w B c (K + 60) w'
set_option maxHeartbeats 3200000 in
theorem containerC (B : Nat) (c : Value) (K : Nat) (w : World) (h : Cs w B c K) (hk : K ≤ 1000000) :
    Calls Try.prog 105 #[.pointer (some ⟨B, 0, none⟩)] w (ContP w B c K) := by
  have hlB := h.lt.1
  have HC0 := Lib.hid (h.here.alloc (.cells #[] 3))
  have HR0 := Lib.hid (show (w.alloc (.cells #[] 3)).ownsRow w.heap.size 3 1 (.slice (some ⟨w.heap.size, 0, none⟩) 0 0) 0 (ints []) from World.ownsRow_lit (base := w.heap.size) (e := 3) (size := 1) w #[] 0 (Nat.le_refl _) (by simp) rfl)
  clear h
  go_enter Try.func105, Try.ntmps105
  go_wp2_with fail
  go_loopw [3, 4] (fun os iv wr => ∃ (k : Nat) (xs : List Int), iv = .int .i64 (k : Int) ∧ k ≤ 12 ∧ Hid (xs.length = k) ∧ Hid (bytL xs = true) ∧ Hid (wr.ownsRow w.heap.size 3 1 os k (ints xs)) ∧ Hid (CS w B c (K + 4 * k) wr)) (fun _ iv _ => 12 - (intOf iv).toNat)
  case atStart => exact ⟨0, [], rfl, by omega, rfl, rfl, HR0.out, HC0.out⟩
  case round =>
    obtain ⟨k, xs, rfl, hk12, HL, HY, HO, HC⟩ := hrel
    obtain ⟨ae, ce, ne, HNE, rfl, _, _, _⟩ := (own_of_row HO.out).rd.opn
    obtain rfl : k = ne := by rw [← HL.out]; exact HNE.out
    have hsz := HC.out.size
    by_cases hlt : k < 12
    · have hltI : (k : Int) < 12 := by omega
      have hltb : decide ((k : Int) < 12) = true := by simpa using hltI
      go_wp2_with fail
      refine (pickC B c _ 256 _ HC.out.st (by omega) (by omega) (by omega)).mono ?_
      rintro e w1 ⟨y, y0, y1, rfl, c1, -⟩
      have H1 := Lib.hid (row_cs HO.out hlB c1)
      have C1 := Lib.hid (HC.out.call c1)
      have hs1 := C1.out.size
      clear c1 HC HO
      have C2 := Lib.hid (C1.out.alloc (.cells (ints [0, 1, 40, 246, 255, y]).toArray 3))
      have hr : ∀ x ∈ [0, 1, 40, 246, 255, y], (0 : Int) ≤ x ∧ x ≤ 255 := by
        intro x hx; simp only [List.mem_cons, List.not_mem_nil, or_false] at hx; omega
      go_wp2_with fail
      refine (amongL B c _ [0, 1, 40, 246, 255, y] 0 255 _ w1 rfl w1.heap.size 6 6 rfl (by simp) (by omega) C2.out.st (by omega) (by omega) (by omega) hr).mono ?_
      rintro e w2 ⟨z, z0, z1, rfl, c2, -⟩
      have H2 := Lib.hid (row_cs (row_alloc H1.out _) hlB c2)
      have C3 := Lib.hid (C2.out.call c2)
      have hs2 := C3.out.size
      have HLT := Lib.hid (fun x hx => (H2.out.lt x hx).1)
      clear c2 C2 C1 H1 hr y0 y1
      go_wp2_with (at_builtin; go_loud (refine wpList_push rfl (.tmp 10) (.tmp 16) 24 rfl Try.underlying24 Try.infoInt w.heap.size (.slice ae k ce) k xs rfl H2.out rfl (by omega) hs2 ?_; intro v3 w3 hown3 hgrow3; have H3 := Lib.hid hown3; have C4 := Lib.hid (C3.out.grown hgrow3 (fun g hg => HLT.out g hg)); clear hown3 hgrow3))
      go_roundw
      case rel => exact ⟨k + 1, xs ++ [z], by go_num, by omega, by show (xs ++ [z]).length = k + 1; rw [List.length_append, HL.out]; rfl, by show bytL (xs ++ [z]) = true; rw [bytL_snoc, HY.out, inB_of ⟨z0, z1⟩]; rfl, H3.out, C4.out.mono (by omega)⟩
      case measure => simp only [intOf]; omega
    · obtain rfl : k = 12 := by omega
      go_wp2
      go_ret
      exact ⟨_, xs, rfl, HL.out, HY.out, own_of_row HO.out, HC.out.mono (by omega)⟩
def FrmCP (w : World) (B : Nat) (c : Value) (K : Nat) (e : Ending) (w' : World) : Prop := ∃ (v : Value) (f : Frm), e = .returned v ∧ frmOk f = true ∧ OwF w' w.heap.size v f ∧ CS w B c (K + 80) w'
set_option maxHeartbeats 3200000 in
theorem frameC (B : Nat) (c : Value) (K : Nat) (w : World) (h : Cs w B c K) (hk : K ≤ 900000) :
    Calls Try.prog 98 #[.pointer (some ⟨B, 0, none⟩)] w (FrmCP w B c K) := by
  have hlB := h.lt.1
  have HC0 := Lib.hid (h.here.alloc (.cells #[.int .i64 0, .int .i64 0, .slice none 0 0] 50))
  have HB0 := Lib.hid (heap_alloc_new w (.cells #[.int .i64 0, .int .i64 0, .slice none 0 0] 50))
  clear h
  go_enter Try.func98, Try.ntmps98
  go_wp2_with fail
  refine (pickC B c _ 256 _ HC0.out.st (by omega) (by omega) (by omega)).mono ?_
  rintro e w1 ⟨y, y0, y1, rfl, c1, -⟩
  have C1 := Lib.hid (HC0.out.call c1)
  have HB1 := Lib.hid (HC0.out.blk2 c1 (Nat.le_refl _) HB0.out)
  have C2 := Lib.hid (C1.out.alloc (.cells (ints [0, 1, 255, y]).toArray 3))
  have HB2 := Lib.hid ((heap_alloc_old w1 (.cells (ints [0, 1, 255, y]).toArray 3) (Array.getElem?_eq_some_iff.1 HB1.out).1).trans HB1.out)
  have hs1 := C1.out.size
  have hr : ∀ x ∈ [0, 1, 255, y], (0 : Int) ≤ x ∧ x ≤ 255 := by
    intro x hx; simp only [List.mem_cons, List.not_mem_nil, or_false] at hx; omega
  clear c1 HC0 HB0
  go_wp2_with fail
  refine (amongL B c _ [0, 1, 255, y] 0 255 _ w1 rfl w1.heap.size 4 4 rfl (by simp) (by omega) C2.out.st (by omega) (by omega) (by omega) hr).mono ?_
  rintro e w2 ⟨fc, fc0, fc1, rfl, c2, -⟩
  have C3 := Lib.hid (C2.out.call c2)
  have HB3 := Lib.hid (C2.out.blk2 c2 (Nat.le_refl _) HB2.out)
  clear c2 C2 C1 HB1 HB2 hr y0 y1
  go_wp2_with fail
  refine (pickC B c _ 12 _ C3.out.st (by omega) (by omega) (by omega)).mono ?_
  rintro e w3 ⟨fp, fp0, fp1, rfl, c3, -⟩
  have C4 := Lib.hid (C3.out.call c3)
  have HB4 := Lib.hid (C3.out.blk2 c3 (Nat.le_refl _) HB3.out)
  clear c3 C3 HB3
  go_wp2_with fail
  refine (containerC B c _ _ C4.out.st (by omega)).mono ?_
  rintro e w4 ⟨u, xs, rfl, hl, hy, o4, c4⟩
  have C5 := Lib.hid (C4.out.call c4)
  have HB5 := Lib.hid (C4.out.blk2 c4 (Nat.le_refl _) HB4.out)
  have hs5 : w.heap.size + 1 ≤ w3.heap.size := by have := (Array.getElem?_eq_some_iff.1 HB4.out).1; omega
  have HO := Lib.hid (o4.mono hs5)
  obtain ⟨a5, c5, n5, HX5, rfl, -⟩ := o4.rd.opn
  have HF := Lib.hid (show frmOk ⟨fc, fp, xs⟩ = true from by simp [frmOk, hl, hy, inB_of ⟨fc0, fc1⟩, inB_of ⟨fp0, show fp ≤ 11 by omega⟩])
  obtain ⟨d0, d1, d2, d3, d4, d5, d6⟩ := blk3 HB5.out
  clear c4 o4 C4 HB4 hl hy
  go_wp2
  exact bodyPost_ret (v := .agg #[.int .i64 fc, .int .i64 fp, .slice a5 n5 c5]) (by simp [results, Try.results98, go_sem, d0, d1, d2]) rfl ⟨_, ⟨fc, fp, xs⟩, rfl, HF.out, ⟨_, rfl, (HO.out.set3 (Nat.lt_succ_self _)).mono (Nat.le_succ _)⟩, (((C5.out.set (Nat.le_refl _) _).set (Nat.le_refl _) _).set (Nat.le_refl _) _).mono (by omega)⟩
end Go.Proofs.Ytlemielobmbadaa
