/- Bytes that came in, for the laws that draw. -/
import Derived.Test.YtkhgdbnicpldkaaDoorCs
namespace Go.Proofs.YtkhgdbnicpldkaaDoor
open Go.RowKit

/-- Bytes that came in. -/
def RawB (w : World) (a : Option Addr) (len cap : Nat) (zs : List Int) : Prop :=
  (a = none ∧ len = 0 ∧ cap = 0 ∧ zs = []) ∨
  ∃ x, a = some x ∧ len ≤ cap ∧ cap ≤ maxLen ∧ zs.length = cap ∧ (∀ i, i < zs.length → w.cell? (x.add i) = some (.int .u8 (zs.getD i 0))) ∧ ∀ n ∈ zs, (Lit.int .u8 n).wf = true

theorem RawB.rd {w : World} {a : Option Addr} {len cap : Nat} {zs : List Int} (h : RawB w a len cap zs) (hl : len ≤ 281474976710656) : RdB w (.slice a len cap) := by
  rcases h with ⟨rfl, rfl, rfl, rfl⟩ | ⟨x, rfl, h1, h2, h3, h4, h5⟩
  · exact ⟨none, 0, 0, rfl, by omega, by omega, by omega⟩
  · refine ⟨some x, len, cap, rfl, h1, hl, fun hp => ?_⟩
    obtain ⟨b, off, spot⟩ := x
    have hc := h4 0 (by omega)
    have hspot : spot = none := by simpa [Addr.add] using World.cell?_spot hc
    subst hspot
    refine ⟨b, off, rfl, World.block_lt_of_cell? w _ (show w.cell? ⟨b, off, none⟩ = some (.int .u8 (zs.getD 0 0)) by simpa [Addr.add] using hc), fun j hj => ?_⟩
    have hj2 : j < zs.length := by omega
    have hw := h5 (zs.getD j 0) (by simp [List.getD, hj2])
    have hb := bounds_u8 hw
    refine ⟨zs.getD j 0, hb.1, by omega, ?_⟩
    have := h4 j hj2
    rw [← this]
    by_cases h0 : j = 0 <;> simp [Addr.add, h0]

theorem vBig_any (a : Option Addr) (len cap : Nat) (w : World) :
    Calls Tryd.prog 35 #[.slice a len cap] w fun e w' => e = .returned (.bool (decide (65536 < (len : Int)))) ∧ w = w' := by
  go_enter Tryd.func35, Tryd.ntmps35
  go_wp2
  go_ret
  exact ⟨rfl, rfl⟩
theorem RdB.behind {w w' : World} {v : Value} (h : RdB w v) (hb : Below w.heap.size w w') : RdB w' v := h.kept hb.size (fun j hj => hb.block j (h.lt j hj))
end Go.Proofs.YtkhgdbnicpldkaaDoor
