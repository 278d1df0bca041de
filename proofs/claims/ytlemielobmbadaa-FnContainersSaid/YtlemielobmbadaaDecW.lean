/- Walks: DecodeBlock. -/
import Derived.Test.YtlemielobmbadaaDecI
namespace Go.Proofs.Ytlemielobmbadaa
open Go.RowKit

def CorPost (w : World) (xs : List Int) (e : Ending) (w' : World) : Prop :=
  ∃ v1 v2, e = .returned (.tuple #[v1, v2, .bool (dec xs).isSome]) ∧ Own w' w.heap.size v1 (decData xs) ∧ Own w' w.heap.size v2 (decPl xs) ∧ (∀ k, v1.ownBlock = some k → v2.ownBlock = some k → False) ∧ Below w.heap.size w w'

theorem dec_of {xs r : List Int} (hl : xs.length = 15) (hs : symL xs = true) {k : Nat} (hk : k < 3) (hn : ∀ j, j < k → look (hit xs) j 0 [] = none) (h : look (hit xs) k 0 [] = some r) : dec xs = some r := by
  rcases k with _ | _ | _ | k
  · rw [hit0] at h; exact dec0 h
  · have h0 := hn 0 (by omega)
    rw [hit0] at h0
    rw [hit1 hl hs (look_zero_iff h0)] at h
    exact dec1 h0 h
  · have h0 := hn 0 (by omega)
    rw [hit0] at h0
    have h1 := hn 1 (by omega)
    rw [hit1 hl hs (look_zero_iff h0)] at h1
    rw [hit2 hl hs (look_one_none h1)] at h
    rw [dec2 h0 h1]; exact h
  · omega
theorem dec_no {xs : List Int} (hl : xs.length = 15) (hs : symL xs = true) (hn : ∀ j, j < 3 → look (hit xs) j 0 [] = none) : dec xs = none := by
  have h0 := hn 0 (by omega)
  rw [hit0] at h0
  have h1 := hn 1 (by omega)
  rw [hit1 hl hs (look_zero_iff h0)] at h1
  have h2 := hn 2 (by omega)
  rw [hit2 hl hs (look_one_none h1)] at h2
  rw [dec2 h0 h1]; exact h2
theorem CorPost.yes {w w4 w5 : World} {xs r : List Int} {D A nq : Nat} {e : Ending} {v1 v2 : Value} (hd : dec xs = some r) (hs4 : w.heap.size ≤ w4.heap.size) (hb4 : Below w.heap.size w w4) (hD : w.heap.size ≤ D) (hA : w.heap.size ≤ A)
    (he : e = .returned (.tuple #[v1, v2, .bool true])) (h3 : Own w5 w4.heap.size v1 ((fillR xs r).drop 4)) (h4 : Own w5 w4.heap.size v2 r) (h5 : ∀ k, v1.ownBlock = some k → v2.ownBlock = some k → False) (h6 : ∀ B0, B0 ≤ D → B0 ≤ A → B0 ≤ w4.heap.size → Below B0 w4 w5) : CorPost w xs e (w5.drewN nq) :=
  ⟨v1, v2, by rw [hd]; exact he, by unfold decData; rw [hd]; exact (h3.mono hs4).drewN _, by unfold decPl; rw [hd]; exact (h4.mono hs4).drewN _, h5, (hb4.trans (h6 _ hD hA hs4)).trans ⟨rfl, rfl, rfl, Nat.le_refl _, fun _ _ => rfl⟩⟩
theorem CorPost.no {w w' : World} {xs : List Int} {e : Ending} (hd : dec xs = none) (he : e = .returned (.tuple #[.slice none 0 0, .slice none 0 0, .bool false])) (h1 : Own w' w.heap.size (.slice none 0 0) []) (h2 : Own w' w.heap.size (.slice none 0 0) []) (hb : Below w.heap.size w w') : CorPost w xs e w' :=
  ⟨_, _, by rw [hd]; exact he, by unfold decData; rw [hd]; exact h1, by unfold decPl; rw [hd]; exact h2, by simp [Value.ownBlock], hb⟩
theorem env_of {w w2 wr : World} {xs : List Int} {a : Option Addr} {n cap : Nat} {T1 T2 T3 : TypeId} {s0 s1 s2 s3 : Int} (hrd : Rd w (.slice a n cap) xs)
    (e0 : synTo xs 0 xs.length = s0) (e1 : synTo xs 1 xs.length = s1) (e2 : synTo xs 2 xs.length = s2) (e3 : synTo xs 3 xs.length = s3)
    (b2 : Below (w.alloc (.cells #[.slice a n cap] T1)).heap.size (w.alloc (.cells #[.slice a n cap] T1)) w2)
    (hb : Below (w2.alloc (.cells #[.int .i64 s0, .int .i64 s1, .int .i64 s2, .int .i64 s3] T2)).heap.size (w2.alloc (.cells #[.int .i64 s0, .int .i64 s1, .int .i64 s2, .int .i64 s3] T2)) wr) :
    Env ((wr.alloc (.cells #[.slice none 0 0] T3)).alloc (.cells #[.slice none 0 0] T3)) xs (.slice a n cap) w2.heap.size w.heap.size wr.heap.size (wr.heap.size + 1) ∧
    Below w.heap.size w ((wr.alloc (.cells #[.slice none 0 0] T3)).alloc (.cells #[.slice none 0 0] T3)) ∧ w.heap.size ≤ wr.heap.size ∧ Below w.heap.size w wr := by
  have z0 : (w.alloc (.cells #[.slice a n cap] T1)).heap.size = w.heap.size + 1 := by simp
  have z1 := b2.size
  have z2 := hb.size
  have z3 : (w2.alloc (.cells #[.int .i64 s0, .int .i64 s1, .int .i64 s2, .int .i64 s3] T2)).heap.size = w2.heap.size + 1 := by simp
  have B1 : Below w.heap.size w w2 := ((Below.refl _ _).alloc (Nat.le_refl _) _).trans (b2.mono (by omega))
  have B2 : Below w.heap.size w wr := (B1.alloc (by omega) _).trans (hb.mono (by omega))
  have B3 : Below w.heap.size w ((wr.alloc (.cells #[.slice none 0 0] T3)).alloc (.cells #[.slice none 0 0] T3)) := (B2.alloc (by omega) _).alloc (by simp; omega) _
  have hl : Below wr.heap.size wr ((wr.alloc (.cells #[.slice none 0 0] T3)).alloc (.cells #[.slice none 0 0] T3)) := ((Below.refl _ _).alloc (Nat.le_refl _) _).alloc (by simp) _
  have hW : ∀ j : Nat, ((wr.alloc (.cells #[.slice none 0 0] T3)).alloc (.cells #[.slice none 0 0] T3)).cell? ⟨w2.heap.size, j, none⟩ = (w2.alloc (.cells #[.int .i64 s0, .int .i64 s1, .int .i64 s2, .int .i64 s3] T2)).cell? ⟨w2.heap.size, j, none⟩ := fun j => by
    rw [hl.cell (p := ⟨w2.heap.size, j, none⟩) (by show w2.heap.size < _; omega), hb.cell (p := ⟨w2.heap.size, j, none⟩) (by show w2.heap.size < _; omega)]
  have hC : ∀ j : Nat, (w2.alloc (.cells #[.int .i64 s0, .int .i64 s1, .int .i64 s2, .int .i64 s3] T2)).cell? ⟨w2.heap.size, j, none⟩ = (#[Value.int .i64 s0, .int .i64 s1, .int .i64 s2, .int .i64 s3] : Array Value)[j]? := fun j =>
    cell_of_row _ _ _ _ _ _ (heap_alloc_new w2 _)
  refine ⟨⟨hrd.belowAll B3, by rw [hW, hC, e0]; rfl, by rw [hW, hC, e1]; rfl, by rw [hW, hC, e2]; rfl, by rw [hW, hC, e3]; rfl, ?_, by simp; omega, by simp; omega, by simp; omega, by simp, by omega, ?_, ?_⟩, B3, by omega, B2⟩
  · rw [hl.cell (p := ⟨w.heap.size, 0, none⟩) (by show w.heap.size < _; omega), hb.cell (p := ⟨w.heap.size, 0, none⟩) (by show w.heap.size < _; omega), World.cell?_alloc_past _ _ _ (by show w.heap.size < _; omega),
      b2.cell (p := ⟨w.heap.size, 0, none⟩) (by show w.heap.size < _; omega), cell_of_row _ _ _ _ _ _ (heap_alloc_new w _)]; rfl
  · exact ⟨_, _, by rw [Below.heap_alloc _ _ _ (by simp)]; exact heap_alloc_new wr _⟩
  · exact ⟨_, _, by have := heap_alloc_new (wr.alloc (.cells #[.slice none 0 0] T3)) (.cells #[.slice none 0 0] T3); simpa using this⟩
set_option maxHeartbeats 3200000 in
set_option maxRecDepth 100000 in
theorem corrected_any (v : Value) (xs : List Int) (w : World) (h : Rd w v xs) (hs : symL xs = true) (hl : xs.length = 15) :
    Calls Try.prog 73 #[v] w (CorPost w xs) := by
  have HS := Lib.hid hs
  have HL := Lib.hid hl
  have HRD := Lib.hid h
  obtain ⟨a, cap, n, HX, rfl, _, _, _⟩ := h.opn
  clear hs hl h
  have hb0 : Below w.heap.size w (w.alloc (.cells #[.slice a n cap] 24)) := (Below.refl _ _).alloc (Nat.le_refl _) _
  go_enter Try.func73, Try.ntmps73
  go_wp2_with fail
  refine (iSyn_any _ xs _ (HRD.out.belowAll hb0) HS.out (by rw [HL.out]; omega)).mono ?_
  rintro e w2 ⟨rfl, b2⟩
  obtain ⟨s0, e0⟩ : ∃ s, synTo xs 0 xs.length = s := ⟨_, rfl⟩
  obtain ⟨s1, e1⟩ : ∃ s, synTo xs 1 xs.length = s := ⟨_, rfl⟩
  obtain ⟨s2, e2⟩ : ∃ s, synTo xs 2 xs.length = s := ⟨_, rfl⟩
  obtain ⟨s3, e3⟩ : ∃ s, synTo xs 3 xs.length = s := ⟨_, rfl⟩
  rw [e0, e1, e2, e3]
  have E0 := Lib.hid e0
  have E1 := Lib.hid e1
  have E2 := Lib.hid e2
  have E3 := Lib.hid e3
  have HB2 := Lib.hid b2
  clear e0 e1 e2 e3 b2 hb0
  go_wp2
  go_loopw [12] (fun i wr => ∃ k : Nat, k ≤ 3 ∧ i = .int .i64 k ∧ Hid (∀ j, j < k → look (hit xs) j 0 [] = none) ∧ Hid (Below (w2.alloc (.cells #[.int .i64 s0, .int .i64 s1, .int .i64 s2, .int .i64 s3] 89)).heap.size (w2.alloc (.cells #[.int .i64 s0, .int .i64 s1, .int .i64 s2, .int .i64 s3] 89)) wr)) (fun i _ => 3 - (intOf i).toNat)
  case atStart => exact ⟨0, by omega, rfl, fun j hj => by omega, Below.refl _ _⟩
  case round =>
    obtain ⟨k, hk, rfl, HQ, HB⟩ := hrel
    have hEB := env_of (T3 := 24) HRD.out E0.out E1.out E2.out E3.out HB2.out HB.out
    have HEV := Lib.hid hEB.1
    have HBB := Lib.hid hEB.2.1
    have hsz := hEB.2.2.1
    have HBW := Lib.hid hEB.2.2.2
    clear hEB
    by_cases hlt : k < 3
    · have hkI : (k : Int) < 3 := by omega
      have hcall := choices_any (.slice a n cap) xs w2.heap.size w.heap.size wr.heap.size (wr.heap.size + 1) HS.out HL.out k 0 (.slice none 0 0) [] _ HEV.out (.inl ⟨rfl, rfl⟩) (.inl rfl) pl_nil (by simp) (by omega) (by simp; omega)
      rw [show ((0 : Nat) : Int) = 0 from rfl] at hcall
      go_wp2_with (go_at_call 110; refine hcall.mono ?_; rintro e w5 (⟨h1, rfl, h2⟩ | ⟨r, h1, rfl, v1, v2, f1, f2, f3, f4, f5, f6⟩))
      · have HH := Lib.hid h1
        have hl2 : Below wr.heap.size wr ((wr.alloc (.cells #[.slice none 0 0] 24)).alloc (.cells #[.slice none 0 0] 24)) := ((Below.refl _ _).alloc (Nat.le_refl _) _).alloc (by simp) _
        have HB5 := Lib.hid (HB.out.trans ((hl2.trans (h2.mono hl2.size)).mono HB.out.size))
        clear h1 h2 hcall hl2
        go_roundw
        case rel => exact ⟨k + 1, by omega, by go_num, fun j hj => by
          rcases Nat.lt_or_ge j k with h | h
          · exact HQ.out j h
          · rw [show j = k by omega]; exact HH.out, HB5.out⟩
        case measure => simp [intOf]; omega
      · have HD := Lib.hid (dec_of HL.out HS.out hlt HQ.out h1)
        have F3 := Lib.hid f3
        have F4 := Lib.hid f4
        have F5 := Lib.hid f5
        have F6 := Lib.hid f6
        clear hcall h1 f3 f4 f5 f6
        go_quiet (fail)
        go_wp2
        refine bodyPost_ret (results_tmp3 rfl _ _ _) rfl ?_
        exact CorPost.yes HD.out (HBB.out.size) HBB.out (by omega) (by omega) rfl F3.out F4.out F5.out F6.out
    · obtain rfl : k = 3 := by omega
      have HD := Lib.hid (dec_no HL.out HS.out HQ.out)
      go_wp2
      refine bodyPost_ret (results_tmp3 rfl _ _ _) rfl ?_
      exact CorPost.no HD.out rfl own_nil own_nil HBW.out

def DecPost (w : World) (xs : List Int) (e : Ending) (w' : World) : Prop :=
  ∃ v1 v2, e = .returned (.tuple #[v1, v2, .bool (decBlkGot xs), .bool (blkOk xs)]) ∧ Own w' w.heap.size v1 (decBlkR xs) ∧ Own w' w.heap.size v2 (decBlkP xs) ∧ (∀ k, v1.ownBlock = some k → v2.ownBlock = some k → False) ∧ Below w.heap.size w w'
def DecPostS (w : World) (xs : List Int) (e : Ending) (w' : World) : Prop :=
  ∃ v1 v2, e = .returned (.tuple #[v1, v2, .bool (decBlkGot xs), .bool (blkOk xs)]) ∧ Own w' w.heap.size v1 (decBlkR xs) ∧ Own w' w.heap.size v2 (decBlkP xs) ∧ Below w.heap.size w w'
theorem DecPostS.bad {w w' : World} {xs : List Int} {e : Ending} {v1 v2 : Value} (h : blkOk xs = false) (he : e = .returned (.tuple #[v1, v2, .bool false, .bool false])) (h1 : Own w' w.heap.size v1 []) (h2 : Own w' w.heap.size v2 []) (hb : Below w.heap.size w w') : DecPostS w xs e w' :=
  ⟨v1, v2, by unfold decBlkGot; rw [h]; exact he, by unfold decBlkR; rw [h]; exact h1, by unfold decBlkP; rw [h]; exact h2, hb⟩
theorem DecPostS.none {w w' : World} {xs : List Int} {e : Ending} {v1 v2 : Value} (h : blkOk xs = true) (hd : dec xs = none) (he : e = .returned (.tuple #[v1, v2, .bool false, .bool true])) (h1 : Own w' w.heap.size v1 []) (h2 : Own w' w.heap.size v2 []) (hb : Below w.heap.size w w') : DecPostS w xs e w' :=
  ⟨v1, v2, by unfold decBlkGot; rw [h, hd]; exact he, by unfold decBlkR decData; rw [h, hd]; exact h1, by unfold decBlkP decPl; rw [h, hd]; exact h2, hb⟩
theorem DecPostS.yes {w w' : World} {xs ps : List Int} {e : Ending} {v1 v2 : Value} (h : blkOk xs = true) (hd : dec xs = some ps) (he : e = .returned (.tuple #[v1, v2, .bool true, .bool true])) (h1 : Own w' w.heap.size v1 ((fillR xs ps).drop 4)) (h2 : Own w' w.heap.size v2 ps) (hb : Below w.heap.size w w') : DecPostS w xs e w' :=
  ⟨v1, v2, by unfold decBlkGot; rw [h, hd]; exact he, by unfold decBlkR decData; rw [h, hd]; exact h1, by unfold decBlkP decPl; rw [h, hd]; exact h2, hb⟩

set_option maxHeartbeats 3200000 in
set_option maxRecDepth 100000 in
theorem specDec_any (v : Value) (xs : List Int) (w : World) (h : Rd w v xs) : Calls Try.prog 27 #[v] w (DecPostS w xs) := by
  cases hb : blkOk xs
  · go_enter Try.func27, Try.ntmps27
    go_wp2_with (go_at_call 81; refine (l24Block_any _ xs _ h).mono ?_; rintro e w' ⟨rfl, rfl⟩)
    refine bodyPost_ret (results_tmp4 rfl _ _ _) rfl ?_
    have hba : Below w.heap.size w (w.alloc (.cells #[] 3)) := (Below.refl _ _).alloc (Nat.le_refl _) _
    exact DecPostS.bad hb rfl ((own_lit0 (Nat.le_refl _)).belowAll ((Below.refl _ _).alloc (Nat.le_refl _) _)) (by have q := own_lit0 (w := w.alloc (.cells #[] 3)) hba.size; rw [show (w.alloc (.cells #[] 3)).heap.size = w.heap.size + 1 from by simp] at q; exact q) (hba.alloc hba.size _)
  obtain ⟨hl, hs⟩ := blkOk_parts hb
  have HL := Lib.hid hl
  have HS := Lib.hid hs
  clear hl hs
  go_enter Try.func27, Try.ntmps27
  go_wp2_with (first
    | (go_at_call 81; refine (l24Block_any _ xs _ h).mono ?_; rintro e w' ⟨rfl, rfl⟩)
    | (go_at_call 82; refine (l24Decode_any _ xs _ h HS.out HL.out).mono ?_; rintro e w1 ⟨v1, v2, rfl, o1, o2, b1⟩; have hsz := b1.size; cases hd : dec xs; rotate_left; (have o3 : Own w1 w.heap.size v1 (fillR xs _) := (by unfold decFill at o1; rw [hd] at o1; exact o1); obtain ⟨bb, off, cap, rfl, hb1, hb2, hc1, hc2⟩ := o3.open15 (by rw [fillR_len]; exact HL.out)); rotate_right))
  · have hba : Below w.heap.size w (w1.alloc (.cells #[] 3)) := b1.alloc hsz _
    refine bodyPost_ret (results_tmp4 rfl _ _ _) rfl ?_
    exact DecPostS.none hb hd rfl ((own_lit0 hsz).belowAll ((Below.refl _ _).alloc (Nat.le_refl _) _)) (by have q := own_lit0 (w := w1.alloc (.cells #[] 3)) hba.size; rw [show (w1.alloc (.cells #[] 3)).heap.size = w1.heap.size + 1 from by simp] at q; exact q) (hba.alloc hba.size _)
  · refine bodyPost_ret (results_tmp4 rfl _ _ _) rfl ?_
    exact DecPostS.yes hb hd rfl (o3.cut4 (by rw [fillR_len]; exact HL.out)) (by unfold decPl at o2; rw [hd] at o2; exact o2) b1

set_option maxHeartbeats 3200000 in
set_option maxRecDepth 100000 in
theorem implDec_any (v : Value) (xs : List Int) (w : World) (h : Rd w v xs) : Calls Try.prog 24 #[v] w (DecPost w xs) := by
  cases hb : blkOk xs
  · go_enter Try.func24, Try.ntmps24
    go_wp2_with (go_at_call 75; refine (isCode_any _ xs _ h).mono ?_; rintro e w' ⟨rfl, rfl⟩)
    refine bodyPost_ret (results_tmp4 rfl _ _ _) rfl ?_
    exact ⟨_, _, by unfold decBlkGot; rw [hb]; rfl, by unfold decBlkR; rw [hb]; exact own_nil, by unfold decBlkP; rw [hb]; exact own_nil, by simp [Value.ownBlock], Below.refl _ _⟩
  obtain ⟨hl, hs⟩ := blkOk_parts hb
  have HL := Lib.hid hl
  have HS := Lib.hid hs
  have HG := Lib.hid (show decBlkGot xs = (dec xs).isSome from by unfold decBlkGot; rw [hb]; rfl)
  have HR := Lib.hid (show decBlkR xs = decData xs from by unfold decBlkR; rw [hb]; rfl)
  have HP := Lib.hid (show decBlkP xs = decPl xs from by unfold decBlkP; rw [hb]; rfl)
  clear hl hs
  go_enter Try.func24, Try.ntmps24
  go_wp2_with (first
    | (go_at_call 75; refine (isCode_any _ xs _ h).mono ?_; rintro e w' ⟨rfl, rfl⟩)
    | (go_at_call 73; refine (corrected_any _ xs _ h HS.out HL.out).mono ?_; rintro e w1 ⟨v1, v2, rfl, o1, o2, ap, b1⟩))
  refine bodyPost_ret (results_tmp4 rfl _ _ _) rfl ?_
  exact ⟨v1, v2, by rw [HG.out, hb]; rfl, by rw [HR.out]; exact o1, by rw [HP.out]; exact o2, ap, b1⟩
end Go.Proofs.Ytlemielobmbadaa
