/- Walks: logs that a cursor draws. -/
import Derived.Test.YtkhgdbnicpldkaaDoorLdr
import Derived.Deep.CutRange
namespace Go.Proofs.YtkhgdbnicpldkaaDoor
open Go.RowKit

theorem set3 {X : World} {b : Nat} {T : TypeId} {u v x u' v' x' : Value} (h : X.heap[b]? = some (.cells #[u, v, x] T (0, 0))) :
    (((X.setCell ⟨b, 0, none⟩ u').setCell ⟨b, 1, none⟩ v').setCell ⟨b, 2, none⟩ x').heap[b]? = some (.cells #[u', v', x'] T (0, 0)) := by
  have h1 : (X.setCell ⟨b, 0, none⟩ u').heap[b]? = some (.cells #[u', v, x] T (0, 0)) := by rw [heap_setCell_same X b 0 _ _ _ h]; rfl
  have h2 : ((X.setCell ⟨b, 0, none⟩ u').setCell ⟨b, 1, none⟩ v').heap[b]? = some (.cells #[u', v', x] T (0, 0)) := by rw [heap_setCell_same _ b 1 _ _ _ h1]; rfl
  rw [heap_setCell_same _ b 2 _ _ _ h2]; rfl
theorem set3_far {X : World} {b k : Nat} {u' v' x' : Value} {o : Obj} (h : X.heap[k]? = some o) (hk : k ≠ b) : (((X.setCell ⟨b, 0, none⟩ u').setCell ⟨b, 1, none⟩ v').setCell ⟨b, 2, none⟩ x').heap[k]? = some o := by
  rw [heap_setCell_other _ _ _ _ hk, heap_setCell_other _ _ _ _ hk, heap_setCell_other _ _ _ _ hk]; exact h
theorem apP_len (d p c r : ByteArray) (n : Int) : (apP d p n c r).size ≤ p.size + 400 := by
  unfold apP
  split
  · rename_i h
    unfold apC at h
    split at h
    · rename_i hh
      split at h
      · cases h
      · rename_i hn
        obtain ⟨k, hk60, rfl⟩ := vlB_count hh.1
        have := line_len (k := k) (c := c.data.toList) (r := r.data.toList) (by omega) (by rw [mk_data, mk_data]; exact hh.2)
        have hz := mk_size (lineL k c.data.toList r.data.toList)
        rw [Int.toNat_natCast, ByteArray.size_append]; omega
    · cases h
  · omega
theorem syS_len (d p : ByteArray) (n : Int) : (syS d p n).size ≤ d.size + p.size := by
  unfold syS
  split
  · rw [ByteArray.size_append]; exact Nat.le_refl _
  · show 0 ≤ _; omega
/-- What a log's draw holds in memory: the log in block E, the result's block R, the cursor. -/
def LSt (w : World) (B : Nat) (c : Value) (E R K m : Nat) (wr : World) : Prop :=
  ∃ (d p : ByteArray) (n : Int), d.size + p.size ≤ m ∧ wr.heap[E]? = some (.cells #[.string d, .string p, .int .i64 n] 31 (0, 0)) ∧ wr.heap[R]? = some (.cells #[.string ⟨#[]⟩, .string ⟨#[]⟩, .int .i64 0] 31 (0, 0)) ∧ CS w B c K wr
theorem LSt.store {w X : World} {B E R K m : Nat} {c : Value} {d p : ByteArray} {n : Int} {u v x : Value} (hE : X.heap[E]? = some (.cells #[u, v, x] 31 (0, 0)))
    (hR : X.heap[R]? = some (.cells #[.string ⟨#[]⟩, .string ⟨#[]⟩, .int .i64 0] 31 (0, 0))) (hc : CS w B c K X) (hm : d.size + p.size ≤ m) (hb : w.heap.size ≤ E) (hne : R ≠ E) :
    LSt w B c E R K m (((X.setCell ⟨E, 0, none⟩ (.string d)).setCell ⟨E, 1, none⟩ (.string p)).setCell ⟨E, 2, none⟩ (.int .i64 n)) :=
  ⟨d, p, n, hm, set3 hE, set3_far hR hne, ((hc.set hb _).set hb _).set hb _⟩
def LogP (w : World) (B : Nat) (c : Value) (K m : Nat) (e : Ending) (w' : World) : Prop := ∃ (d p : ByteArray) (n : Int), d.size + p.size ≤ m ∧ e = .returned (.agg #[.string d, .string p, .int .i64 n]) ∧ CS w B c K w'

set_option maxHeartbeats 3200000 in
set_option maxRecDepth 100000 in
theorem logC (B : Nat) (c : Value) (K : Nat) (w : World) (h : Cs w B c K) (hk : K ≤ 100000000000) :
    Calls Tryd.prog 59 #[.pointer (some ⟨B, 0, none⟩)] w (LogP w B c (K + 200) 4000) := by
  have H0 := h.here
  have hB := h.lt.1
  have H2 := (H0.alloc (.cells #[.string ⟨#[]⟩, .string ⟨#[]⟩, .int .i64 0] 31)).alloc (.cells #[.string ⟨#[]⟩, .string ⟨#[]⟩, .int .i64 0] 31)
  have R2 := (heap_alloc_old _ (.cells #[.string ⟨#[]⟩, .string ⟨#[]⟩, .int .i64 0] 31) (by simp)).trans (heap_alloc_new w (.cells #[.string ⟨#[]⟩, .string ⟨#[]⟩, .int .i64 0] 31))
  have E2 := heap_alloc_new (w.alloc (.cells #[.string ⟨#[]⟩, .string ⟨#[]⟩, .int .i64 0] 31)) (.cells #[.string ⟨#[]⟩, .string ⟨#[]⟩, .int .i64 0] 31)
  rw [show (w.alloc (.cells #[.string ⟨#[]⟩, .string ⟨#[]⟩, .int .i64 0] 31)).heap.size = w.heap.size + 1 by simp] at E2
  clear h
  go_enter Tryd.func59, Tryd.ntmps59
  go_wp2_with fail
  refine (pickC B c K 7 _ H2.st (by omega) (by omega) (by omega)).mono ?_
  rintro e w1 ⟨x, x0, x1, rfl, c1, -⟩
  obtain ⟨x, rfl⟩ := Int.eq_ofNat_of_zero_le x0
  have hS : Hid (LSt w B c (w.heap.size + 1) w.heap.size (K + 2) 0 w1) := ⟨⟨#[]⟩, ⟨#[]⟩, 0, Nat.le_refl _, H2.blk2 c1 (by omega) E2, H2.blk2 c1 (Nat.le_refl _) R2, H2.call c1⟩
  clear c1 H2 R2 E2
  go_wp2_with fail
  go_loopw [4] (fun i wr => ∃ k K' m : Nat, i = .int .i64 k ∧ k ≤ 6 ∧ Hid (m + 400 * k ≤ 2400) ∧ Hid (K' + 20 * k ≤ K + 122) ∧ Hid (LSt w B c (w.heap.size + 1) w.heap.size K' m wr)) (fun i _ => (intOf i).toNat)
  case atStart => exact ⟨x, K + 2, 0, rfl, by omega, by show 0 + 400 * x ≤ 2400; omega, by show K + 2 + 20 * x ≤ K + 122; omega, hS⟩
  case round =>
    obtain ⟨k, K', m, rfl, hk6, HM, HK, HS⟩ := hrel
    obtain ⟨d, p, n, hm, hE, hR, hC⟩ := HS.out
    have hmm := HM.out
    have hKK := HK.out
    by_cases hk0 : 0 < k
    · have hkI : (0 : Int) < (k : Int) := by omega
      have hkd : decide ((0 : Int) < (k : Int)) = true := by simpa using hk0
      clear hS HS
      go_upto_region 5 with fail
      obtain ⟨e1, e2, e3, e4, e5, e6, _⟩ := blk3 hE
      go_cut [] from 12 to 18 (fun wx => Hid (LSt w B c (w.heap.size + 1) w.heap.size (K' + 8) (m + 400) wx))
      case first =>
        have hC0 := hC.drew
        go_region_with (first
          | (go_at_call 55; refine (logRecordC B c K' _ hC0.st (by omega)).mono ?_; rintro e w5 ⟨a, b, ha, hb, rfl, c5⟩; have C5 := hC0.call c5; have E5 := hC0.blk2 c5 (Nat.le_succ _) hE; have R5 := hC0.blk2 c5 (Nat.le_refl _) hR; obtain ⟨f1, f2, f3, f4, f5, f6, _⟩ := blk3 E5)
          | (go_at_call 28; refine (specAp_any d p a b n (by omega) (by unfold maxLen; omega) (by unfold maxLen; omega) _).mono ?_; rintro e w6 ⟨rfl, b6⟩; have C6 := C5.below b6; have E6 := kept_old E5 b6; have R6 := kept_old R5 b6; obtain ⟨g1, g2, g3, g4, g5, g6, _⟩ := blk3 E6))
        all_goals
          go_wp2_with fail
          go_meet
          exact LSt.store E6 R6 C6 (by have := apP_len d p a b n; omega) (by omega) (by omega)
      case rest =>
      obtain ⟨d2, p2, n2, hm2, E2, R2, C2⟩ := hcut.out
      clear e1 e2 e3 e4 e5 e6 hE hR hC hcut hm
      go_wp2_with fail
      refine (oneC B c (K' + 8) 4 _ C2.st (by omega) (by omega) (by omega)).mono ?_
      rintro e w7 ⟨b, rfl, c7, -⟩
      have C7 := C2.call c7
      have E7 := C2.blk2 c7 (Nat.le_succ _) E2
      have R7 := C2.blk2 c7 (Nat.le_refl _) R2
      clear c7 E2 R2 C2
      cases b
      · have hL : Hid (LSt w B c (w.heap.size + 1) w.heap.size (K' + 10) (m + 400) w7) := ⟨d2, p2, n2, hm2, E7, R7, C7⟩
        clear E7 R7 C7
        go_wp2
        go_roundw
        case rel => exact ⟨k - 1, K' + 10, m + 400, int_eq (by omega), by omega, by show m + 400 + 400 * (k - 1) ≤ 2400; omega, by show K' + 10 + 20 * (k - 1) ≤ K + 122; omega, hL⟩
        case measure => simp only [intOf]; omega
      · obtain ⟨e1, e2, e3, e4, e5, e6, _⟩ := blk3 E7
        go_wp2_with fail
        refine (specSy_any d2 p2 n2 (by omega) _).mono ?_
        rintro e w8 ⟨rfl, b8⟩
        have C8 := C7.below b8
        have E8 := kept_old E7 b8
        have R8 := kept_old R7 b8
        clear e1 e2 e3 e4 e5 e6
        obtain ⟨e1, e2, e3, e4, e5, e6, _⟩ := blk3 E8
        have hz := syS_len d2 p2 n2
        have HL := Lib.hid (LSt.store (d := syS d2 p2 n2) (p := ⟨#[]⟩) (n := syN d2 p2 n2) (m := m + 400) E8 R8 C8 (by show (syS d2 p2 n2).size + 0 ≤ m + 400; omega) (by omega) (by omega))
        clear E7 R7 C7 E8 R8 C8 b8
        go_wp2
        go_roundw
        case rel => exact ⟨k - 1, K' + 10, m + 400, int_eq (by omega), by omega, by show m + 400 + 400 * (k - 1) ≤ 2400; omega, by show K' + 10 + 20 * (k - 1) ≤ K + 122; omega, HL⟩
        case measure => simp only [intOf]; omega
    · obtain rfl : k = 0 := by omega
      obtain ⟨e1, e2, e3, e4, e5, e6, _⟩ := blk3 hE
      obtain ⟨r1, r2, r3, r4, r5, r6, _⟩ := blk3 hR
      go_wp2
      exact bodyPost_ret (v := .agg #[.string d, .string p, .int .i64 n]) (by simp [results, Tryd.results59, go_sem, r1, r2, r3]) rfl ⟨d, p, n, by omega, rfl, (((hC.set (Nat.le_refl _) _).set (Nat.le_refl _) _).set (Nat.le_refl _) _).mono (by omega)⟩
end Go.Proofs.YtkhgdbnicpldkaaDoor
