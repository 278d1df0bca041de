/- The walk of the law on the field of symbols. -/
import Derived.Test.YtlemielobmbadaaCur
import Derived.Test.YtlemielobmbadaaSynP
import Derived.Test.YtlemielobmbadaaSymW
namespace Go.Proofs.Ytlemielobmbadaa
open Go.RowKit

/-- Bytes that came in. -/
def RawB (w : World) (a : Option Addr) (len cap : Nat) (zs : List Int) : Prop :=
  (a = none ∧ len = 0 ∧ cap = 0 ∧ zs = []) ∨
  ∃ x, a = some x ∧ len ≤ cap ∧ cap ≤ maxLen ∧ zs.length = cap ∧ (∀ i, i < zs.length → w.cell? (x.add i) = some (.int .u8 (zs.getD i 0))) ∧ ∀ n ∈ zs, (Lit.int .u8 n).wf = true

theorem RawB.rd {w : World} {a : Option Addr} {len cap : Nat} {zs : List Int} (h : RawB w a len cap zs) (hl : len ≤ 281474976710656) : RdB w (.slice a len cap) := by
  rcases h with ⟨rfl, rfl, rfl, rfl⟩ | ⟨x, rfl, h1, h2, h3, h4, h5⟩
  · exact ⟨none, 0, 0, rfl, by omega, by omega, by omega⟩
  · refine ⟨some x, len, cap, rfl, h1, hl, fun hp => ?_⟩
    obtain ⟨b, off, spot⟩ := x
    have hc := h4 0 (by omega)
    have hspot : spot = none := by simpa [Addr.add] using World.cell?_spot hc
    subst hspot
    refine ⟨b, off, rfl, World.block_lt_of_cell? w _ (show w.cell? ⟨b, off, none⟩ = some (.int .u8 (zs.getD 0 0)) by simpa [Addr.add] using hc), fun j hj => ?_⟩
    have hj2 : j < zs.length := by omega
    have hw := h5 (zs.getD j 0) (by simp [List.getD, hj2])
    have hb := bounds_u8 hw
    refine ⟨zs.getD j 0, hb.1, by omega, ?_⟩
    have := h4 j hj2
    rw [← this]
    by_cases h0 : j = 0 <;> simp [Addr.add, h0]

theorem cur_new {w : World} {v : Value} (h : RdB w v) : Cur (w.alloc (.cells #[v, .int .i64 0, .int .u64 0] 76)) w.heap.size v 0 :=
  ⟨h.kept (by simp) (fun j hj => heap_alloc_old w _ (h.lt j hj)), fun j hj => by have := h.lt j hj; omega, 0, by omega, by omega, heap_alloc_new w _⟩
theorem RdB.below {w w' : World} {v : Value} (h : RdB w v) (hb : Below w.heap.size w w') : RdB w' v :=
  h.kept hb.size (fun j hj => hb.block j (h.lt j hj))

theorem vBig_any (a : Option Addr) (len cap : Nat) (w : World) :
    Calls Try.prog 9 #[.slice a len cap] w fun e w' => e = .returned (.bool (decide (65536 < (len : Int)))) ∧ w = w' := by
  go_enter Try.func9, Try.ntmps9
  go_wp2
  go_ret
  exact ⟨rfl, rfl⟩

theorem vAt_any (v : Value) (i : Int) (w : World) (h : RdB w v) (hi : 0 ≤ i) (hi2 : i ≤ 1000000) :
    Calls Try.prog 18 #[v, .int .i64 i] w fun e w' => ∃ x : Int, e = .returned (.int .i64 x) ∧ (0 ≤ x ∧ x ≤ 255) ∧ w = w' := by
  obtain ⟨a, len, cap, rfl, h1, h2, h3⟩ := h
  obtain ⟨i, rfl⟩ := Int.eq_ofNat_of_zero_le hi
  by_cases hlt : i < len
  · obtain ⟨b, off, rfl, hb, hc⟩ := h3 (by omega)
    obtain ⟨x, x0, x1, hx⟩ := hc i hlt
    have hltI : (i : Int) < (len : Int) := by omega
    clear hc h3
    go_enter Try.func18, Try.ntmps18
    go_wp2
    go_ret
    exact ⟨x, rfl, ⟨x0, x1⟩, rfl⟩
  · have hltI : ¬ (i : Int) < (len : Int) := by omega
    go_enter Try.func18, Try.ntmps18
    go_wp2
    go_ret
    exact ⟨_, rfl, ⟨by omega, by omega⟩, rfl⟩

theorem mulOk_comm (a b : Int) : mulOk b a = mulOk a b := by simp [mulOk, Bool.and_comm]
theorem mulI_comm {a b : Int} (ha : 0 ≤ a) (ha2 : a ≤ 15) (hb : 0 ≤ b) (hb2 : b ≤ 15) : mulI b a = mulI a b := by
  unfold mulI
  rw [mul_comm0 a.toNat (by omega) b.toNat (by omega)]
theorem mulOk_parts {a b : Int} (h : mulOk a b = true) : (0 ≤ a ∧ a ≤ 15) ∧ 0 ≤ b ∧ b ≤ 15 := by
  simp only [mulOk, Bool.and_eq_true] at h
  exact ⟨inB_true h.1, inB_true h.2⟩
theorem mulS_comm (a b : Int) : mulS b a = mulS a b := by
  unfold mulS
  rw [mulOk_comm]
  by_cases h : mulOk a b = true
  · obtain ⟨⟨h1, h2⟩, h3, h4⟩ := mulOk_parts h
    rw [if_pos h, if_pos h, mulI_comm h1 h2 h3 h4]
  · rw [if_neg h, if_neg h]
theorem mulS_of {a b : Int} (ha : 0 ≤ a) (ha2 : a ≤ 15) (hb : 0 ≤ b) (hb2 : b ≤ 15) : mulS a b = mulI a b := by
  simp [mulS, mulOk, inB_mk ha ha2, inB_mk hb hb2]
theorem mulI_xr {a b c : Int} (ha : 0 ≤ a) (ha2 : a ≤ 15) (hb : 0 ≤ b) (hb2 : b ≤ 15) (hc : 0 ≤ c) (hc2 : c ≤ 15) : mulI a (xr b c) = xr (mulI a b) (mulI a c) := by
  have m1 := mulI_bd ha ha2 hb hb2
  have m2 := mulI_bd ha ha2 hc hc2
  rw [xr_nat hb hb2 hc hc2, xr_nat m1.1 m1.2 m2.1 m2.2]
  unfold mulI
  simp only [Int.toNat_natCast]
  rw [mul_xor0 a.toNat (by omega) b.toNat (by omega) c.toNat (by omega)]
theorem invOk_parts {a : Int} (h : invOk a = true) : 1 ≤ a ∧ a ≤ 15 := inB_true h

end Go.Proofs.Ytlemielobmbadaa
