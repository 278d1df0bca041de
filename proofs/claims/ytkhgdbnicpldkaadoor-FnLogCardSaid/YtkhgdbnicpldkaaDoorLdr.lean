/- Walks: records and logs that a cursor draws. -/
import Derived.Test.YtkhgdbnicpldkaaDoorCs
import Derived.Test.YtkhgdbnicpldkaaDoorAppL
import Derived.Test.YtkhgdbnicpldkaaDoorSycL
namespace Go.Proofs.YtkhgdbnicpldkaaDoor
open Go.RowKit

def StrP (w : World) (B : Nat) (c : Value) (K m : Nat) (e : Ending) (w' : World) : Prop := ∃ s : ByteArray, s.size ≤ m ∧ e = .returned (.string s) ∧ CS w B c K w'
/-- One of some texts. -/
theorem ofC (B : Nat) (c : Value) (K g n cap m : Nat) (w : World) (h : Cs w B c K) (hk : K ≤ 4000000000000000) (h1 : 1 ≤ n) (h2 : n ≤ 1000) (hne : g ≠ B)
    (hr : ∀ j, j < n → ∃ s : ByteArray, s.size ≤ m ∧ w.cell? ⟨g, j, none⟩ = some (.string s)) :
    Calls Tryd.prog 71 #[.pointer (some ⟨B, 0, none⟩), .slice (some ⟨g, 0, none⟩) n cap] w (StrP w B c (K + 2) m) := by
  have HR := Lib.hid hr
  clear hr
  go_enter Tryd.func71, Tryd.ntmps71
  go_wp2_with fail
  refine (pickC B c K (n : Int) _ h hk (by omega) (by omega)).mono ?_
  rintro e w1 ⟨x, x0, x1, rfl, hc1, hs1⟩
  obtain ⟨j, rfl⟩ := Int.eq_ofNat_of_zero_le x0
  have hj : j < n := by omega
  have hjI : (j : Int) < (n : Int) := by omega
  obtain ⟨y, y0, hcell⟩ := HR.out j hj
  have hc : w1.cell? ⟨g, j, none⟩ = some (.string y) := by
    rw [World.cell?_of_block (w := w) (hc1.2.2.block g (World.block_lt_of_cell? w _ hcell) (fun e => hne (by simpa using e)))]; exact hcell
  clear hcell
  go_wp2
  go_ret
  exact ⟨y, y0, rfl, hc1⟩
/-- A row of texts that has just been laid. -/
def strsOk (cs : Array Value) (m : Nat) : Bool := cs.toList.all fun v => match v with | .string s => decide (s.size ≤ m) | _ => false
theorem row_strs {w : World} {cs : Array Value} {T : TypeId} {m n b : Nat} (h : strsOk cs m = true) (hn : cs.size = n) (hb : b = w.heap.size) :
    ∀ j, j < n → ∃ s : ByteArray, s.size ≤ m ∧ (w.alloc (.cells cs T)).cell? ⟨b, j, none⟩ = some (.string s) := fun j hj => by
  subst hn
  subst hb
  have h1 := List.all_eq_true.1 h cs[j] (by simp)
  rw [cell_of_row _ _ _ _ _ _ (heap_alloc_new w _), Array.getElem?_eq_getElem hj]
  generalize cs[j] = v at *
  cases v <;> simp at h1
  exact ⟨_, h1, rfl⟩

def RecP (w : World) (B : Nat) (c : Value) (K : Nat) (e : Ending) (w' : World) : Prop := ∃ a b : ByteArray, a.size ≤ 20 ∧ b.size ≤ 20 ∧ e = .returned (.agg #[.string a, .string b]) ∧ CS w B c (K + 8) w'
theorem blk2c {X : World} {b : Nat} {u v : Value} {T : TypeId} (h : X.heap[b]? = some (.cells #[u, v] T (0, 0))) :
    X.cell? ⟨b, 0, none⟩ = some u ∧ X.cell? ⟨b, 1, none⟩ = some v ∧ X.frozen? ⟨b, 0, none⟩ = false ∧ X.frozen? ⟨b, 1, none⟩ = false ∧ b < X.heap.size := by
  refine ⟨?_, ?_, frozen_of_row _ _ _ _ _ h, frozen_of_row _ _ _ _ _ h, (Array.getElem?_eq_some_iff.1 h).1⟩
  · rw [cell_of_row _ _ _ _ _ _ h]; rfl
  · rw [cell_of_row _ _ _ _ _ _ h]; rfl

theorem mk_zero3 (w : World) : (Instr.makeSlice 53 (.int .i64 3) (.int .i64 3)).run Tryd.prog w = .ok (.slice (some ⟨w.heap.size, 0, none⟩) 3 3) (w.alloc (.cells #[.int .u8 0, .int .u8 0, .int .u8 0] 5)) := by kernel_rfl
theorem conv_zero3 (w : World) : (convert 53 9 (.slice (some ⟨w.heap.size, 0, none⟩) 3 3)).run Tryd.prog (w.alloc (.cells #[.int .u8 0, .int .u8 0, .int .u8 0] 5)) = .ok (.string ⟨#[0, 0, 0]⟩) (w.alloc (.cells #[.int .u8 0, .int .u8 0, .int .u8 0] 5)) :=
  run_convert_bytes_back (w.alloc (.cells #[.int .u8 0, .int .u8 0, .int .u8 0] 5)) 53 9 5 ⟨w.heap.size, 0, none⟩ 3 [0, 0, 0] Tryd.underlying53 Tryd.underlying5 Tryd.underlying9 (fun j hj => by
    have e : (⟨w.heap.size, 0, none⟩ : Addr).add j = ⟨w.heap.size, j, none⟩ := by unfold Addr.add; split <;> simp_all
    rw [e, cell_of_row _ _ _ _ _ _ (heap_alloc_new w _)]
    have hj3 : j < 3 := by simpa using hj
    match j, hj3 with
    | 0, _ => rfl
    | 1, _ => rfl
    | 2, _ => rfl)

set_option maxHeartbeats 1600000 in
set_option maxRecDepth 100000 in
theorem logRecordC (B : Nat) (c : Value) (K : Nat) (w : World) (h : Cs w B c K) (hk : K ≤ 1000000000000) :
    Calls Tryd.prog 55 #[.pointer (some ⟨B, 0, none⟩)] w (RecP w B c K) := by
  have H0 := h.here
  have hB := h.lt.1
  have H1 := H0.alloc (.cells #[.string ⟨#[]⟩, .string ⟨#[]⟩] 27)
  have R1 := heap_alloc_new w (.cells #[.string ⟨#[]⟩, .string ⟨#[]⟩] 27)
  clear h
  go_enter Tryd.func55, Tryd.ntmps55
  go_wp2_with fail
  refine (ofC B c K _ 5 5 20 _ (H1.alloc _).st (by omega) (by omega) (by omega) (by omega) (row_strs (by rfl) rfl (by simp))).mono ?_
  rintro e w2 ⟨s1, z1, rfl, c2⟩
  have H2 := (H1.alloc _).call c2
  have R2 := c2.blk (heap_alloc_old _ _ (by simp) |>.trans R1) (by omega)
  have hz2 := H2.size
  have hl2 := (Array.getElem?_eq_some_iff.1 R2).1
  clear c2 R1
  go_wp2_with fail
  refine (ofC B c (K + 2) _ 5 5 20 _ (H2.alloc _).st (by omega) (by omega) (by omega) (by omega) (row_strs (by rfl) rfl (by simp))).mono ?_
  rintro e w3 ⟨s2, z2, rfl, c3⟩
  have H3 := (H2.alloc _).call c3
  have R3 := c3.blk (heap_alloc_old _ _ hl2 |>.trans R2) (by omega)
  have hl3 := (Array.getElem?_eq_some_iff.1 R3).1
  have H4 := H3.alloc (.cells #[.string s1, .string s2] 27)
  have R4 := (heap_alloc_old w3 (.cells #[.string s1, .string s2] 27) hl3).trans R3
  have E4 := heap_alloc_new w3 (.cells #[.string s1, .string s2] 27)
  clear c3 R2 R3 hl2
  go_wp2_with fail
  refine (pickC B c (K + 4) 24 _ H4.st (by omega) (by omega) (by omega)).mono ?_
  rintro e w5 ⟨x, x0, x1, rfl, c5, -⟩
  have H5 := H4.call c5
  have R5 := H4.blk2 c5 (Nat.le_refl _) R4
  have hw3 := H3.size
  have E5 := H4.blk2 c5 hw3 E4
  have hl5 := (Array.getElem?_eq_some_iff.1 E5).1
  obtain ⟨r1, r2, r3, r4, _⟩ := blk2c R5
  obtain ⟨e1, e2, e3, e4, _⟩ := blk2c E5
  clear c5 R4 E4
  have hne : w3.heap.size ≠ w.heap.size := by omega
  by_cases hx0 : x = 0
  · subst hx0
    have km := mk_zero3 w5
    have kz := conv_zero3 w5
    go_wp2_with fail
    refine (ofC B c (K + 6) _ 5 5 20 _ ((H5.alloc _).alloc _).st (by omega) (by omega) (by omega) (by omega) (row_strs (by rfl) rfl (by simp))).mono ?_
    rintro e w6 ⟨s3, z3, rfl, c6⟩
    have H6 := ((H5.alloc _).alloc _).call c6
    have R6 := ((H5.alloc _).alloc _).blk2 c6 (Nat.le_refl _) ((heap_alloc_old _ _ (by simp; omega)).trans ((heap_alloc_old _ _ (by omega)).trans R5))
    have E6 := ((H5.alloc _).alloc _).blk2 c6 hw3 ((heap_alloc_old _ _ (by simp; omega)).trans ((heap_alloc_old _ _ (by omega)).trans E5))
    clear r1 r2 r3 r4 e1 e2 e3 e4 km kz
    obtain ⟨r1, r2, r3, r4, _⟩ := blk2c R6
    obtain ⟨e1, e2, e3, e4, _⟩ := blk2c E6
    clear c6
    go_wp2
    exact bodyPost_ret (v := .agg #[.string s3, .string s2]) (by simp [results, Tryd.results55, go_sem, r1, r2]) rfl ⟨s3, s2, z3, z2, rfl, (((H6.set hw3 _).set (Nat.le_refl _) _).set (Nat.le_refl _) _).mono (by omega)⟩
  by_cases hx1 : x = 1
  · subst hx1
    go_wp2_with fail
    refine (ofC B c (K + 6) _ 3 3 20 _ (H5.alloc _).st (by omega) (by omega) (by omega) (by omega) (row_strs (by rfl) rfl (by simp))).mono ?_
    rintro e w6 ⟨s3, z3, rfl, c6⟩
    have H6 := (H5.alloc _).call c6
    have R6 := (H5.alloc _).blk2 c6 (Nat.le_refl _) ((heap_alloc_old _ _ (by omega)).trans R5)
    have E6 := (H5.alloc _).blk2 c6 hw3 ((heap_alloc_old _ _ (by omega)).trans E5)
    clear r1 r2 r3 r4 e1 e2 e3 e4
    obtain ⟨r1, r2, r3, r4, _⟩ := blk2c R6
    obtain ⟨e1, e2, e3, e4, _⟩ := blk2c E6
    clear c6
    go_wp2
    exact bodyPost_ret (v := .agg #[.string s1, .string s3]) (by simp [results, Tryd.results55, go_sem, r1, r2]) rfl ⟨s1, s3, z1, z3, rfl, (((H6.set hw3 _).set (Nat.le_refl _) _).set (Nat.le_refl _) _).mono (by omega)⟩
  have d0 : (x == 0) = false := by simpa using hx0
  have d1 : (x == 1) = false := by simpa using hx1
  go_wp2
  exact bodyPost_ret (v := .agg #[.string s1, .string s2]) (by simp [results, Tryd.results55, go_sem, r1, r2]) rfl ⟨s1, s2, z1, z2, rfl, ((H5.set (Nat.le_refl _) _).set (Nat.le_refl _) _).mono (by omega)⟩
end Go.Proofs.YtkhgdbnicpldkaaDoor
