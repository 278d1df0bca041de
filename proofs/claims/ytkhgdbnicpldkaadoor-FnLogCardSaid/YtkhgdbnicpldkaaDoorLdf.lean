/- Walks: the draws of the log's laws. -/
import Derived.Test.YtkhgdbnicpldkaaDoorLde
namespace Go.Proofs.YtkhgdbnicpldkaaDoor
open Go.RowKit

/-- The cursor's block behind blocks that the draw has made. -/
theorem RdB.later {w w' : World} {v : Value} (h : RdB w v) (hb : Below w.heap.size w w') : RdB w' v := h.kept hb.size (fun j hj => hb.block j (h.lt j hj))

set_option maxHeartbeats 3200000 in
set_option maxRecDepth 100000 in
theorem drawCr_any (v : Value) (w : World) (h : RdB w v) :
    Calls Tryd.prog 41 #[v] w (DrCrP w 10000) := by
  obtain ⟨a, len, cap, rfl, hrd⟩ := h
  have hba := (Below.refl w.heap.size w).alloc (Nat.le_refl _) (.cells #[.string ⟨#[]⟩, .string ⟨#[]⟩, .int .i64 0] 31)
  have H1 := (curN (RdB.later ⟨a, len, cap, rfl, hrd⟩ hba)).here
  have hs1 : (w.alloc (.cells #[.string ⟨#[]⟩, .string ⟨#[]⟩, .int .i64 0] 31)).heap.size = w.heap.size + 1 := by simp
  rw [hs1] at H1
  have R1 := (heap_alloc_old _ (.cells #[.slice a len cap, .int .i64 0, .int .u64 0] 74) (by simp)).trans (heap_alloc_new w (.cells #[.string ⟨#[]⟩, .string ⟨#[]⟩, .int .i64 0] 31))
  have hB0 := Lib.hid (hba.alloc (by simp) (.cells #[.slice a len cap, .int .i64 0, .int .u64 0] 74))
  clear hrd hba
  go_enter Tryd.func41, Tryd.ntmps41
  go_wp2_with fail
  refine (anyLogC (w.heap.size + 1) _ 0 _ H1.st (by omega)).mono ?_
  rintro e w2 ⟨d, p, n, hm, rfl, c2⟩
  have R2 := c2.blk R1 (by omega)
  have H2 := (H1.call c2).alloc (.cells #[.string d, .string p, .int .i64 n] 31)
  have hl2 := (Array.getElem?_eq_some_iff.1 R2).1
  have R3 := (heap_alloc_old w2 (.cells #[.string d, .string p, .int .i64 n] 31) hl2).trans R2
  have E3 := heap_alloc_new w2 (.cells #[.string d, .string p, .int .i64 n] 31)
  have hz2 := (H1.call c2).size
  have hz3 : w.heap.size + 2 ≤ w2.heap.size := by simpa using hz2
  clear c2 R1 R2
  have hp : p.size ≤ 10000 := by omega
  obtain ⟨e1, e2, e3, e4, e5, e6, _⟩ := blk3 E3
  go_wp2_with fail
  refine (pickC (w.heap.size + 1) _ 300 ((p.size : Int) + 3) _ H2.st (by omega) (by omega) (by omega)).mono ?_
  rintro e w3 ⟨x, x0, x1, rfl, c3, -⟩
  have H4 := H2.call c3
  have R4 := c3.blk R3 (by omega)
  have E4 := c3.blk E3 (by omega)
  clear c3 R3 E3 e1 e2 e3 e4 e5 e6
  obtain ⟨e1, e2, e3, e4, e5, e6, _⟩ := blk3 E4
  obtain ⟨r1, r2, r3, r4, r5, r6, _⟩ := blk3 R4
  have H5 := H4.drew
  have HE := Lib.hid (fun (w' : World) (K : Nat) (hc : CS w3.drew (w.heap.size + 1) (.slice a len cap) K w') => (show (w'.heap[w2.heap.size]? = some (.cells #[.string d, .string p, .int .i64 n] 31 (0, 0)) ∧ w'.heap[w.heap.size]? = some (.cells #[.string ⟨#[]⟩, .string ⟨#[]⟩, .int .i64 0] 31 (0, 0))) from ⟨hc.blk E4 (by omega), hc.blk R4 (by omega)⟩))
  go_wp2
  go_region_held3 (fun w' => w'.cell? ⟨w2.heap.size, 0, none⟩ = some (.string d) ∧ w'.cell? ⟨w2.heap.size, 1, none⟩ = some (.string p) ∧ w'.cell? ⟨w2.heap.size, 2, none⟩ = some (.int .i64 n))
    (first | exact ⟨e1, e2, e3⟩ | exact ⟨f1, f2, f3⟩ | (refine ⟨?_, ?_, ?_⟩ <;> (rw [World.cell?_setCell_other _ _ _ _ (by simp <;> omega), World.cell?_setCell_other _ _ _ _ (by simp <;> omega), World.cell?_setCell_other _ _ _ _ (by simp <;> omega)]; first | assumption)))
    ((go_at_call 53; refine (oneC (w.heap.size + 1) _ 302 2 _ H5.st (by omega) (by omega) (by omega)).mono ?_; rintro e w6 ⟨b, rfl, c6, -⟩; obtain ⟨k1, k2⟩ := HE.out w6 _ c6; have H6 := H5.call c6; obtain ⟨f1, f2, f3, f4, f5, f6, _⟩ := blk3 k1; obtain ⟨g1, g2, g3, g4, g5, g6, _⟩ := blk3 k2))
  have hB6 := Lib.hid (H6.belowAll hB0.out (by omega))
  clear k1 k2 c6 HE H5 H4 H2 H1 R4 E4
  go_wp2
  exact bodyPost_ret (v := .tuple #[.agg #[.string d, .string p, .int .i64 n], .int .i64 (x - 1), .bool b]) (by simp [results, Tryd.results41, go_sem, g1, g2, g3]) rfl ⟨d, p, n, x - 1, b, hm, by omega, by omega, rfl, below_set (below_set (below_set hB6.out (Nat.le_refl _)) (Nat.le_refl _)) (Nat.le_refl _)⟩

/-- The state of DrawAppendRecord. -/
def DSt (W : World) (B : Nat) (c : Value) (E R R' K m : Nat) (wr : World) : Prop :=
  ∃ (d p : ByteArray) (n : Int), d.size + p.size ≤ m ∧ wr.heap[E]? = some (.cells #[.string d, .string p, .int .i64 n] 31 (0, 0)) ∧ wr.heap[R]? = some (.cells #[.string ⟨#[]⟩, .string ⟨#[]⟩, .int .i64 0] 31 (0, 0)) ∧
    wr.heap[R']? = some (.cells #[.string ⟨#[]⟩, .string ⟨#[]⟩] 27 (0, 0)) ∧ CS W B c K wr
theorem DSt.store {W X : World} {B E R R' K m : Nat} {c : Value} {d p : ByteArray} {n : Int} {u v x : Value} (hE : X.heap[E]? = some (.cells #[u, v, x] 31 (0, 0)))
    (hR : X.heap[R]? = some (.cells #[.string ⟨#[]⟩, .string ⟨#[]⟩, .int .i64 0] 31 (0, 0))) (hR' : X.heap[R']? = some (.cells #[.string ⟨#[]⟩, .string ⟨#[]⟩] 27 (0, 0))) (hc : CS W B c K X) (hm : d.size + p.size ≤ m) (hb : W.heap.size ≤ E) (hne : R ≠ E) (hne' : R' ≠ E) :
    DSt W B c E R R' K m (((X.setCell ⟨E, 0, none⟩ (.string d)).setCell ⟨E, 1, none⟩ (.string p)).setCell ⟨E, 2, none⟩ (.int .i64 n)) :=
  ⟨d, p, n, hm, set3 hE, set3_far hR hne, set3_far hR' hne', ((hc.set hb _).set hb _).set hb _⟩

set_option maxHeartbeats 3200000 in
set_option maxRecDepth 100000 in
theorem drawAp_any (v : Value) (w : World) (h : RdB w v) :
    Calls Tryd.prog 36 #[v] w (DrLogP w 30000) := by
  obtain ⟨a, len, cap, rfl, hrd⟩ := h
  have hba := ((Below.refl w.heap.size w).alloc (Nat.le_refl _) (.cells #[.string ⟨#[]⟩, .string ⟨#[]⟩, .int .i64 0] 31)).alloc (by simp) (.cells #[.string ⟨#[]⟩, .string ⟨#[]⟩] 27)
  have hs1 : ((w.alloc (.cells #[.string ⟨#[]⟩, .string ⟨#[]⟩, .int .i64 0] 31)).alloc (.cells #[.string ⟨#[]⟩, .string ⟨#[]⟩] 27)).heap.size = w.heap.size + 2 := by simp
  have H1 := (curN (RdB.later ⟨a, len, cap, rfl, hrd⟩ hba)).here
  rw [hs1] at H1
  have R1 := (heap_alloc_old _ (.cells #[.slice a len cap, .int .i64 0, .int .u64 0] 74) (by simp; omega)).trans ((heap_alloc_old _ (.cells #[.string ⟨#[]⟩, .string ⟨#[]⟩] 27) (by simp)).trans (heap_alloc_new w (.cells #[.string ⟨#[]⟩, .string ⟨#[]⟩, .int .i64 0] 31)))
  have Q1 := (heap_alloc_old _ (.cells #[.slice a len cap, .int .i64 0, .int .u64 0] 74) (by simp)).trans (heap_alloc_new (w.alloc (.cells #[.string ⟨#[]⟩, .string ⟨#[]⟩, .int .i64 0] 31)) (.cells #[.string ⟨#[]⟩, .string ⟨#[]⟩] 27))
  rw [show (w.alloc (.cells #[.string ⟨#[]⟩, .string ⟨#[]⟩, .int .i64 0] 31)).heap.size = w.heap.size + 1 by simp] at Q1
  have hB0 := Lib.hid (hba.alloc (by simp; omega) (.cells #[.slice a len cap, .int .i64 0, .int .u64 0] 74))
  clear hrd hba
  go_enter Tryd.func36, Tryd.ntmps36
  go_wp2_with fail
  refine (anyLogC (w.heap.size + 2) _ 0 _ H1.st (by omega)).mono ?_
  rintro e w2 ⟨d, p, n, hm, rfl, c2⟩
  have R2 := c2.blk R1 (by omega)
  have Q2 := c2.blk Q1 (by omega)
  have H2 := (H1.call c2).alloc (.cells #[.string d, .string p, .int .i64 n] 31)
  have hl2 := (Array.getElem?_eq_some_iff.1 R2).1
  have hl2' := (Array.getElem?_eq_some_iff.1 Q2).1
  have R3 := (heap_alloc_old w2 (.cells #[.string d, .string p, .int .i64 n] 31) hl2).trans R2
  have Q3 := (heap_alloc_old w2 (.cells #[.string d, .string p, .int .i64 n] 31) hl2').trans Q2
  have E3 := heap_alloc_new w2 (.cells #[.string d, .string p, .int .i64 n] 31)
  have hz2 := (H1.call c2).size
  have hz3 : w.heap.size + 3 ≤ w2.heap.size := by simpa using hz2
  clear c2 R1 R2 Q1 Q2
  go_wp2_with fail
  refine (oneC (w.heap.size + 2) _ 300 40 _ H2.st (by omega) (by omega) (by omega)).mono ?_
  rintro e w3 ⟨b, rfl, c3, -⟩
  have H4 := H2.call c3
  have R4 := c3.blk R3 (by omega)
  have Q4 := c3.blk Q3 (by omega)
  have E4 := c3.blk E3 (by omega)
  clear c3 R3 E3 Q3
  have hne : w2.heap.size ≠ w.heap.size := by omega
  have hne' : w2.heap.size ≠ w.heap.size + 1 := by omega
  have hWz : ((((w.alloc (.cells #[.string ⟨#[]⟩, .string ⟨#[]⟩, .int .i64 0] 31)).alloc (.cells #[.string ⟨#[]⟩, .string ⟨#[]⟩] 27)).alloc (.cells #[.slice a len cap, .int .i64 0, .int .u64 0] 74))).heap.size ≤ w2.heap.size := by simpa using hz3
  generalize (((w.alloc (.cells #[.string ⟨#[]⟩, .string ⟨#[]⟩, .int .i64 0] 31)).alloc (.cells #[.string ⟨#[]⟩, .string ⟨#[]⟩] 27)).alloc (.cells #[.slice a len cap, .int .i64 0, .int .u64 0] 74)) = W at *
  cases b
  · have HS : DSt W (w.heap.size + 2) (.slice a len cap) w2.heap.size w.heap.size (w.heap.size + 1) 400 30000 w3 := ⟨d, p, n, by omega, E4, R4, Q4, H4.mono (by omega)⟩
    obtain ⟨d, p, n, hm, E5, R5, Q5, H5⟩ := HS
    obtain ⟨e1, e2, e3, e4, e5, e6, _⟩ := blk3 E5
    obtain ⟨r1, r2, r3, r4, r5, r6, _⟩ := blk3 R5
    obtain ⟨s1, s2, s3, s4, _⟩ := blk2c Q5
    have H6 := H5.drew
    have d1 : w3.drew.cell? ⟨w2.heap.size, 0, none⟩ = some (.string d) := e1
    have d2 : w3.drew.cell? ⟨w2.heap.size, 1, none⟩ = some (.string p) := e2
    have d3 : w3.drew.cell? ⟨w2.heap.size, 2, none⟩ = some (.int .i64 n) := e3
    have HE := Lib.hid (fun (w' : World) (K : Nat) (hc : CS w3.drew (w.heap.size + 2) (.slice a len cap) K w') => (show w'.heap[w2.heap.size]? = some (.cells #[.string d, .string p, .int .i64 n] 31 (0, 0)) ∧ w'.heap[w.heap.size]? = some (.cells #[.string ⟨#[]⟩, .string ⟨#[]⟩, .int .i64 0] 31 (0, 0)) ∧ w'.heap[w.heap.size + 1]? = some (.cells #[.string ⟨#[]⟩, .string ⟨#[]⟩] 27 (0, 0)) from ⟨hc.blk E5 (by omega), hc.blk R5 (by omega), hc.blk Q5 (by omega)⟩))
    go_wp2
    go_region_held3 (fun w' => w'.cell? ⟨w2.heap.size, 0, none⟩ = some (.string d) ∧ w'.cell? ⟨w2.heap.size, 1, none⟩ = some (.string p) ∧ w'.cell? ⟨w2.heap.size, 2, none⟩ = some (.int .i64 n))
      (first | (with_reducible exact ⟨d1, d2, d3⟩) | (with_reducible exact ⟨f1, f2, f3⟩) | (refine ⟨?_, ?_, ?_⟩ <;> (rw [World.cell?_setCell_other _ _ _ _ (by simp <;> omega), World.cell?_setCell_other _ _ _ _ (by simp <;> omega), World.cell?_setCell_other _ _ _ _ (by simp <;> omega), World.cell?_setCell_other _ _ _ _ (by simp <;> omega), World.cell?_setCell_other _ _ _ _ (by simp <;> omega)]; with_reducible assumption)) | (refine ⟨?_, ?_, ?_⟩ <;> (rw [World.cell?_setCell_other _ _ _ _ (by simp <;> omega), World.cell?_setCell_other _ _ _ _ (by simp <;> omega), World.cell?_setCell_other _ _ _ _ (by simp <;> omega)]; with_reducible assumption)) | (refine ⟨?_, ?_, ?_⟩ <;> (rw [World.cell?_setCell_other _ _ _ _ (by simp <;> omega), World.cell?_setCell_other _ _ _ _ (by simp <;> omega)]; with_reducible assumption)))
      ((go_at_call 55; refine (logRecordC (w.heap.size + 2) _ 400 _ H6.st (by omega)).mono ?_; rintro e w6 ⟨ra, rb, za, zb, rfl, c6⟩; obtain ⟨k1, k2, k3⟩ := HE.out w6 _ c6; have H7 := H6.call c6; obtain ⟨f1, f2, f3, f4, f5, f6, _⟩ := blk3 k1; obtain ⟨g1, g2, g3, g4, g5, g6, _⟩ := blk3 k2; obtain ⟨h1, h2, h3, h4, _⟩ := blk2c k3))
    all_goals
      have hB6 := Lib.hid (H7.belowAll hB0.out (by omega))
      clear k1 k2 k3 c6 HE H6
      go_wp2
      exact bodyPost_ret (v := .tuple #[.agg #[.string d, .string p, .int .i64 n], .agg #[.string ra, .string rb]]) (by simp [results, Tryd.results36, go_sem, g1, g2, g3, h1, h2]) rfl ⟨d, p, n, ra, rb, hm, za, zb, rfl, by repeat (first | exact hB6.out | refine below_set ?_ (by omega))⟩
  · obtain ⟨e1, e2, e3, e4, e5, e6, _⟩ := blk3 E4
    have HS0 := DSt.store (d := ⟨#[]⟩) (p := ⟨#[]⟩) (n := 0) (m := 0) E4 R4 Q4 H4 (Nat.le_refl _) hWz (by omega) (by omega)
    clear H4 R4 Q4 E4 H2
    go_wp2_with fail
    refine (pickC (w.heap.size + 2) _ 302 2 _ (by obtain ⟨_, _, _, _, _, _, _, hc⟩ := HS0; exact hc.st) (by omega) (by omega) (by omega)).mono ?_
    rintro e w4 ⟨x, x0, x1, rfl, c4, -⟩
    obtain ⟨x, rfl⟩ := Int.eq_ofNat_of_zero_le x0
    have hS : Hid (DSt W (w.heap.size + 2) (.slice a len cap) w2.heap.size w.heap.size (w.heap.size + 1) 304 0 w4) := by
      obtain ⟨d, p, n, h1, h2, h3, h4, h5⟩ := HS0
      exact ⟨d, p, n, h1, c4.blk h2 (by omega), c4.blk h3 (by omega), c4.blk h4 (by omega), h5.call c4⟩
    clear HS0 c4 e1 e2 e3 e4 e5 e6
    go_wp2_with fail
    go_loopw [6] (fun i wr => ∃ k m : Nat, i = .int .i64 k ∧ k ≤ 60 ∧ Hid (m + 400 * k ≤ 24400) ∧ Hid (DSt W (w.heap.size + 2) (.slice a len cap) w2.heap.size w.heap.size (w.heap.size + 1) 304 m wr)) (fun i _ => (intOf i).toNat)
    case atStart => exact ⟨59 + x, 0, int_eq (by omega), by omega, by show 0 + 400 * (59 + x) ≤ 24400; omega, hS⟩
    case round =>
      obtain ⟨k, m, rfl, hk6, HM, HS⟩ := hrel
      have hmm := HM.out
      clear hS
      by_cases hk0 : 0 < k
      · have hkI : (0 : Int) < (k : Int) := by omega
        have hkd : decide ((0 : Int) < (k : Int)) = true := by simpa using hk0
        obtain ⟨d, p, n, hm, E5, R5, Q5, H5⟩ := HS.out
        obtain ⟨e1, e2, e3, e4, e5, e6, _⟩ := blk3 E5
        clear HS
        go_wp2_with fail
        refine (specAp_any d p ⟨#[120]⟩ ⟨#[]⟩ n (by omega) (by show 1 ≤ _; unfold maxLen; omega) (by show 0 ≤ _; omega) _).mono ?_
        rintro e w6 ⟨rfl, b6⟩
        have E6 := kept_old E5 b6
        have R6 := kept_old R5 b6
        have Q6 := kept_old Q5 b6
        have H6 := H5.below b6
        clear e1 e2 e3 e4 e5 e6
        obtain ⟨e1, e2, e3, e4, e5, e6, _⟩ := blk3 E6
        have hz := apP_len d p ⟨#[120]⟩ ⟨#[]⟩ n
        have HL := Lib.hid (DSt.store (d := d) (p := apP d p n ⟨#[120]⟩ ⟨#[]⟩) (n := apN d p n ⟨#[120]⟩ ⟨#[]⟩) (m := m + 400) E6 R6 Q6 H6 (by omega) hWz (by omega) (by omega))
        clear E5 R5 Q5 H5 E6 R6 Q6 H6 b6 hz
        go_wp2
        go_roundw
        case rel => exact ⟨k - 1, m + 400, int_eq (by omega), by omega, by show m + 400 + 400 * (k - 1) ≤ 24400; omega, HL⟩
        case measure => simp only [intOf]; omega
      · obtain rfl : k = 0 := by omega
        have HS : DSt W (w.heap.size + 2) (.slice a len cap) w2.heap.size w.heap.size (w.heap.size + 1) 400 30000 wr := by
          obtain ⟨d, p, n, h1, h2, h3, h4, h5⟩ := HS.out
          exact ⟨d, p, n, by omega, h2, h3, h4, h5.mono (by omega)⟩
        obtain ⟨d, p, n, hm, E5, R5, Q5, H5⟩ := HS
        obtain ⟨e1, e2, e3, e4, e5, e6, _⟩ := blk3 E5
        obtain ⟨r1, r2, r3, r4, r5, r6, _⟩ := blk3 R5
        obtain ⟨s1, s2, s3, s4, _⟩ := blk2c Q5
        have H6 := H5.drew
        have d1 : wr.drew.cell? ⟨w2.heap.size, 0, none⟩ = some (.string d) := e1
        have d2 : wr.drew.cell? ⟨w2.heap.size, 1, none⟩ = some (.string p) := e2
        have d3 : wr.drew.cell? ⟨w2.heap.size, 2, none⟩ = some (.int .i64 n) := e3
        have HE := Lib.hid (fun (w' : World) (K : Nat) (hc : CS wr.drew (w.heap.size + 2) (.slice a len cap) K w') => (show w'.heap[w2.heap.size]? = some (.cells #[.string d, .string p, .int .i64 n] 31 (0, 0)) ∧ w'.heap[w.heap.size]? = some (.cells #[.string ⟨#[]⟩, .string ⟨#[]⟩, .int .i64 0] 31 (0, 0)) ∧ w'.heap[w.heap.size + 1]? = some (.cells #[.string ⟨#[]⟩, .string ⟨#[]⟩] 27 (0, 0)) from ⟨hc.blk E5 (by omega), hc.blk R5 (by omega), hc.blk Q5 (by omega)⟩))
        go_wp2
        go_region_held3 (fun w' => w'.cell? ⟨w2.heap.size, 0, none⟩ = some (.string d) ∧ w'.cell? ⟨w2.heap.size, 1, none⟩ = some (.string p) ∧ w'.cell? ⟨w2.heap.size, 2, none⟩ = some (.int .i64 n))
          (first | (with_reducible exact ⟨d1, d2, d3⟩) | (with_reducible exact ⟨f1, f2, f3⟩) | (refine ⟨?_, ?_, ?_⟩ <;> (rw [World.cell?_setCell_other _ _ _ _ (by simp <;> omega), World.cell?_setCell_other _ _ _ _ (by simp <;> omega), World.cell?_setCell_other _ _ _ _ (by simp <;> omega), World.cell?_setCell_other _ _ _ _ (by simp <;> omega), World.cell?_setCell_other _ _ _ _ (by simp <;> omega)]; with_reducible assumption)) | (refine ⟨?_, ?_, ?_⟩ <;> (rw [World.cell?_setCell_other _ _ _ _ (by simp <;> omega), World.cell?_setCell_other _ _ _ _ (by simp <;> omega), World.cell?_setCell_other _ _ _ _ (by simp <;> omega)]; with_reducible assumption)) | (refine ⟨?_, ?_, ?_⟩ <;> (rw [World.cell?_setCell_other _ _ _ _ (by simp <;> omega), World.cell?_setCell_other _ _ _ _ (by simp <;> omega)]; with_reducible assumption)))
          ((go_at_call 55; refine (logRecordC (w.heap.size + 2) _ 400 _ H6.st (by omega)).mono ?_; rintro e w6 ⟨ra, rb, za, zb, rfl, c6⟩; obtain ⟨k1, k2, k3⟩ := HE.out w6 _ c6; have H7 := H6.call c6; obtain ⟨f1, f2, f3, f4, f5, f6, _⟩ := blk3 k1; obtain ⟨g1, g2, g3, g4, g5, g6, _⟩ := blk3 k2; obtain ⟨h1, h2, h3, h4, _⟩ := blk2c k3))
        all_goals
          have hB6 := Lib.hid (H7.belowAll hB0.out (by omega))
          clear k1 k2 k3 c6 HE H6
          go_wp2
          exact bodyPost_ret (v := .tuple #[.agg #[.string d, .string p, .int .i64 n], .agg #[.string ra, .string rb]]) (by simp [results, Tryd.results36, go_sem, g1, g2, g3, h1, h2]) rfl ⟨d, p, n, ra, rb, hm, za, zb, rfl, by repeat (first | exact hB6.out | refine below_set ?_ (by omega))⟩
end Go.Proofs.YtkhgdbnicpldkaaDoor
