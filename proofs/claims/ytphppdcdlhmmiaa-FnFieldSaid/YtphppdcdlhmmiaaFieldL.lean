/- The walk of the law on the field of symbols. -/
import Derived.Test.YtphppdcdlhmmiaaCur
import Derived.Test.YtphppdcdlhmmiaaSynP
import Derived.Test.YtphppdcdlhmmiaaSymW
namespace Go.Proofs.Ytphppdcdlhmmiaa
open Go.RowKit

/-- Bytes that came in. -/
def RawB (w : World) (a : Option Addr) (len cap : Nat) (zs : List Int) : Prop :=
  (a = none ∧ len = 0 ∧ cap = 0 ∧ zs = []) ∨
  ∃ x, a = some x ∧ len ≤ cap ∧ cap ≤ maxLen ∧ zs.length = cap ∧ (∀ i, i < zs.length → w.cell? (x.add i) = some (.int .u8 (zs.getD i 0))) ∧ ∀ n ∈ zs, (Lit.int .u8 n).wf = true

theorem RawB.rd {w : World} {a : Option Addr} {len cap : Nat} {zs : List Int} (h : RawB w a len cap zs) (hl : len ≤ 281474976710656) : RdB w (.slice a len cap) := by
  rcases h with ⟨rfl, rfl, rfl, rfl⟩ | ⟨x, rfl, h1, h2, h3, h4, h5⟩
  · exact ⟨none, 0, 0, rfl, by omega, by omega, by omega⟩
  · refine ⟨some x, len, cap, rfl, h1, hl, fun hp => ?_⟩
    obtain ⟨b, off, spot⟩ := x
    have hc := h4 0 (by omega)
    have hspot : spot = none := by simpa [Addr.add] using World.cell?_spot hc
    subst hspot
    refine ⟨b, off, rfl, World.block_lt_of_cell? w _ (show w.cell? ⟨b, off, none⟩ = some (.int .u8 (zs.getD 0 0)) by simpa [Addr.add] using hc), fun j hj => ?_⟩
    have hj2 : j < zs.length := by omega
    have hw := h5 (zs.getD j 0) (by simp [List.getD, hj2])
    have hb := bounds_u8 hw
    refine ⟨zs.getD j 0, hb.1, by omega, ?_⟩
    have := h4 j hj2
    rw [← this]
    by_cases h0 : j = 0 <;> simp [Addr.add, h0]

theorem cur_new {w : World} {v : Value} (h : RdB w v) : Cur (w.alloc (.cells #[v, .int .i64 0, .int .u64 0] 57)) w.heap.size v 0 :=
  ⟨h.kept (by simp) (fun j hj => heap_alloc_old w _ (h.lt j hj)), fun j hj => by have := h.lt j hj; omega, 0, by omega, by omega, heap_alloc_new w _⟩
theorem RdB.below {w w' : World} {v : Value} (h : RdB w v) (hb : Below w.heap.size w w') : RdB w' v :=
  h.kept hb.size (fun j hj => hb.block j (h.lt j hj))

theorem drawMul_any (v : Value) (w : World) (h : RdB w v) :
    Calls Try.prog 29 #[v] w fun e w' => ∃ a b : Int, e = .returned (.tuple #[.int .i64 a, .int .i64 b]) ∧ (-1 ≤ a ∧ a ≤ 16 ∧ 0 ≤ b ∧ b ≤ 16) ∧ Below w.heap.size w w' := by
  have hcur := cur_new h
  obtain ⟨a, len, cap, rfl, _⟩ := h
  go_enter Try.func29, Try.ntmps29
  go_wp2_with fail
  refine (pick_any w.heap.size _ 0 18 _ hcur (by omega) (by omega) (by omega)).mono ?_
  rintro e w1 ⟨x, k1, x0, x1, rfl, hk1, hc1, hg1, hs1⟩
  go_wp2_with fail
  refine (pick_any w.heap.size _ k1 17 _ hc1 (by omega) (by omega) (by omega)).mono ?_
  rintro e w2 ⟨y, k2, y0, y1, rfl, hk2, hc2, hg2, hs2⟩
  go_wp2
  go_ret2
  exact ⟨x - 1, y, rfl, ⟨by omega, by omega, by omega, by omega⟩, ((Below.refl _ _).alloc (Nat.le_refl _) _).grown (hg1.trans' hg2) (by simp) (fun k hk => by simp at hk; omega)⟩

theorem vBig_any (a : Option Addr) (len cap : Nat) (w : World) :
    Calls Try.prog 28 #[.slice a len cap] w fun e w' => e = .returned (.bool (decide (65536 < (len : Int)))) ∧ w = w' := by
  go_enter Try.func28, Try.ntmps28
  go_wp2
  go_ret
  exact ⟨rfl, rfl⟩

theorem vAt_any (v : Value) (i : Int) (w : World) (h : RdB w v) (hi : 0 ≤ i) (hi2 : i ≤ 1000000) :
    Calls Try.prog 30 #[v, .int .i64 i] w fun e w' => ∃ x : Int, e = .returned (.int .i64 x) ∧ (0 ≤ x ∧ x ≤ 255) ∧ w = w' := by
  obtain ⟨a, len, cap, rfl, h1, h2, h3⟩ := h
  obtain ⟨i, rfl⟩ := Int.eq_ofNat_of_zero_le hi
  by_cases hlt : i < len
  · obtain ⟨b, off, rfl, hb, hc⟩ := h3 (by omega)
    obtain ⟨x, x0, x1, hx⟩ := hc i hlt
    have hltI : (i : Int) < (len : Int) := by omega
    clear hc h3
    go_enter Try.func30, Try.ntmps30
    go_wp2
    go_ret
    exact ⟨x, rfl, ⟨x0, x1⟩, rfl⟩
  · have hltI : ¬ (i : Int) < (len : Int) := by omega
    go_enter Try.func30, Try.ntmps30
    go_wp2
    go_ret
    exact ⟨_, rfl, ⟨by omega, by omega⟩, rfl⟩

theorem mulOk_comm (a b : Int) : mulOk b a = mulOk a b := by simp [mulOk, Bool.and_comm]
theorem mulI_comm {a b : Int} (ha : 0 ≤ a) (ha2 : a ≤ 15) (hb : 0 ≤ b) (hb2 : b ≤ 15) : mulI b a = mulI a b := by
  unfold mulI
  rw [mul_comm0 a.toNat (by omega) b.toNat (by omega)]
theorem mulOk_parts {a b : Int} (h : mulOk a b = true) : (0 ≤ a ∧ a ≤ 15) ∧ 0 ≤ b ∧ b ≤ 15 := by
  simp only [mulOk, Bool.and_eq_true] at h
  exact ⟨inB_true h.1, inB_true h.2⟩
theorem mulS_comm (a b : Int) : mulS b a = mulS a b := by
  unfold mulS
  rw [mulOk_comm]
  by_cases h : mulOk a b = true
  · obtain ⟨⟨h1, h2⟩, h3, h4⟩ := mulOk_parts h
    rw [if_pos h, if_pos h, mulI_comm h1 h2 h3 h4]
  · rw [if_neg h, if_neg h]
theorem mulS_of {a b : Int} (ha : 0 ≤ a) (ha2 : a ≤ 15) (hb : 0 ≤ b) (hb2 : b ≤ 15) : mulS a b = mulI a b := by
  simp [mulS, mulOk, inB_mk ha ha2, inB_mk hb hb2]
theorem mulI_xr {a b c : Int} (ha : 0 ≤ a) (ha2 : a ≤ 15) (hb : 0 ≤ b) (hb2 : b ≤ 15) (hc : 0 ≤ c) (hc2 : c ≤ 15) : mulI a (xr b c) = xr (mulI a b) (mulI a c) := by
  have m1 := mulI_bd ha ha2 hb hb2
  have m2 := mulI_bd ha ha2 hc hc2
  rw [xr_nat hb hb2 hc hc2, xr_nat m1.1 m1.2 m2.1 m2.2]
  unfold mulI
  simp only [Int.toNat_natCast]
  rw [mul_xor0 a.toNat (by omega) b.toNat (by omega) c.toNat (by omega)]
theorem invOk_parts {a : Int} (h : invOk a = true) : 1 ≤ a ∧ a ≤ 15 := inB_true h

set_option maxHeartbeats 1600000 in
theorem FnField_walk (a0 : Option Addr) (len0 cap0 : Nat) (z0 : List Int) (w : World) (hr : RawB w a0 len0 cap0 z0) :
    Calls Try.prog 7 #[.slice a0 len0 cap0] w fun e w' => e = .returned (.bool true) ∧ Below w.heap.size w w' := by
  by_cases hbig : (65536 : Int) < (len0 : Int)
  · have hd : decide ((65536 : Int) < (len0 : Int)) = true := by simpa using hbig
    go_enter Try.func7, Try.ntmps7
    go_wp2_with fail
    refine (vBig_any _ _ _ _).mono ?_
    rintro e w' ⟨rfl, rfl⟩
    go_wp2
    go_ret
    exact ⟨rfl, Below.refl _ _⟩
  · have hd : decide ((65536 : Int) < (len0 : Int)) = false := by simpa using hbig
    have hrd := hr.rd (by omega)
    go_enter Try.func7, Try.ntmps7
    go_wp2_with fail
    refine (vBig_any _ _ _ _).mono ?_
    rintro e w' ⟨rfl, rfl⟩
    go_wp2_with fail
    refine (drawMul_any _ _ hrd).mono ?_
    rintro e w1 ⟨a, b, rfl, hab, hbel⟩
    have hrd1 := hrd.below hbel
    have hc1 := mulOk_comm a b
    have hc2 := mulS_comm a b
    have t1 : (mulS a b != mulS a b) = false := by simp
    have t2 : (mulOk a b != mulOk a b) = false := by simp
    have t3 : (invS a != invS a) = false := by simp
    have t4 : (invOk a != invOk a) = false := by simp
    have t5 : (invS a == invS a) = true := by simp
    have t6 : (invOk a == invOk a) = true := by simp
    have hinv : invOk a = true → mulOk a (invS a) = true ∧ (mulS a (invS a) == 1) = true := fun h => by
      obtain ⟨h1, h2⟩ := invOk_parts h
      have hb := invI_bd h1 h2
      have e : invS a = invI a := by simp [invS, h]
      rw [e]
      refine ⟨by simp [mulOk, inB_mk (show 0 ≤ a by omega) h2, inB_mk (show 0 ≤ invI a by omega) hb.2], ?_⟩
      rw [mulS_of (by omega) h2 (by omega) hb.2, invI_mul h1 h2]; rfl
    have HI := Lib.hid hinv
    clear hinv
    go_wp2_with (first | (go_at_call 17; refine (implMul_any _ _ _).mono ?_; rintro e w' ⟨rfl, rfl⟩) | (go_at_call 16; refine (specMul_any _ _ _).mono ?_; rintro e w' ⟨rfl, rfl⟩) | (go_at_call 19; refine (implInv_any _ _).mono ?_; rintro e w' ⟨rfl, rfl⟩) | (go_at_call 18; refine (specInv_any _ _).mono ?_; rintro e w' ⟨rfl, rfl⟩))
    refine (vAt_any _ 5 _ hrd1 (by omega) (by omega)).mono ?_
    rintro e w' ⟨x, rfl, ⟨x0, x1⟩, rfl⟩
    cases hok : mulOk a b
    · cases hio : invOk a
      · go_wp2_with (first | (go_at_call 17; refine (implMul_any _ _ _).mono ?_; rintro e w' ⟨rfl, rfl⟩) | (go_at_call 16; refine (specMul_any _ _ _).mono ?_; rintro e w' ⟨rfl, rfl⟩) | (go_at_call 19; refine (implInv_any _ _).mono ?_; rintro e w' ⟨rfl, rfl⟩) | (go_at_call 18; refine (specInv_any _ _).mono ?_; rintro e w' ⟨rfl, rfl⟩))
        go_ret
        exact ⟨rfl, hbel⟩
      · obtain ⟨u1, u2⟩ := HI.out hio
        go_wp2_with (first | (go_at_call 17; refine (implMul_any _ _ _).mono ?_; rintro e w' ⟨rfl, rfl⟩) | (go_at_call 16; refine (specMul_any _ _ _).mono ?_; rintro e w' ⟨rfl, rfl⟩) | (go_at_call 19; refine (implInv_any _ _).mono ?_; rintro e w' ⟨rfl, rfl⟩) | (go_at_call 18; refine (specInv_any _ _).mono ?_; rintro e w' ⟨rfl, rfl⟩))
        go_ret
        exact ⟨rfl, hbel⟩
    · obtain ⟨⟨a1, a2⟩, b1, b2⟩ := mulOk_parts hok
      have hx : 0 ≤ x % 16 ∧ x % 16 ≤ 15 := by omega
      have hxr := xr_bd b1 b2 hx.1 hx.2
      have t7 : (mulS a (bits BinOp.xor .i64 b (x % 16)) != bits BinOp.xor .i64 (mulS a b) (mulS a (x % 16))) = false := by
        have e := mulI_xr a1 a2 b1 b2 hx.1 hx.2
        rw [← mulS_of a1 a2 hxr.1 hxr.2, ← mulS_of a1 a2 b1 b2, ← mulS_of a1 a2 hx.1 hx.2] at e
        unfold xr at e; simpa using e
      cases hio : invOk a
      · go_wp2_with (first | (go_at_call 17; refine (implMul_any _ _ _).mono ?_; rintro e w' ⟨rfl, rfl⟩) | (go_at_call 16; refine (specMul_any _ _ _).mono ?_; rintro e w' ⟨rfl, rfl⟩) | (go_at_call 19; refine (implInv_any _ _).mono ?_; rintro e w' ⟨rfl, rfl⟩) | (go_at_call 18; refine (specInv_any _ _).mono ?_; rintro e w' ⟨rfl, rfl⟩))
        go_ret
        exact ⟨rfl, hbel⟩
      · obtain ⟨u1, u2⟩ := HI.out hio
        go_wp2_with (first | (go_at_call 17; refine (implMul_any _ _ _).mono ?_; rintro e w' ⟨rfl, rfl⟩) | (go_at_call 16; refine (specMul_any _ _ _).mono ?_; rintro e w' ⟨rfl, rfl⟩) | (go_at_call 19; refine (implInv_any _ _).mono ?_; rintro e w' ⟨rfl, rfl⟩) | (go_at_call 18; refine (specInv_any _ _).mono ?_; rintro e w' ⟨rfl, rfl⟩))
        go_ret
        exact ⟨rfl, hbel⟩
end Go.Proofs.Ytphppdcdlhmmiaa
