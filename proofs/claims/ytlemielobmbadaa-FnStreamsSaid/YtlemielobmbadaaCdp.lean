/- Plain Lean: what FnCodes asks. -/
import Derived.Test.YtlemielobmbadaaCodP
namespace Go.Proofs.Ytlemielobmbadaa
open Go.RowKit

theorem agree_set {c d us : List Int} {p : Nat} {v : Int} (h : agree c d us) (hp : (p : Int) ∈ us) : agree (c.set p v) d us := by
  refine ⟨by rw [List.length_set]; exact h.1, fun q hq => ?_⟩
  rw [List.getElem?_set, if_neg (fun e => hq (by rw [← e]; exact hp))]
  exact h.2 q hq
theorem agree_refl (c us : List Int) : agree c c us := ⟨rfl, fun _ _ => rfl⟩
/-- Two places at most. -/
def qs2 (i k : Nat) : List Int := if i = k then [(i : Int)] else if i < k then [(i : Int), (k : Int)] else [(k : Int), (i : Int)]
theorem qs2_few {i k : Nat} (hi : i < 15) (hk : k < 15) : Few (qs2 i k) ∧ (i : Int) ∈ qs2 i k ∧ (k : Int) ∈ qs2 i k := by
  unfold qs2
  by_cases e : i = k
  · rw [if_pos e]; subst e; exact ⟨.one hi, by simp, by simp⟩
  · rw [if_neg e]
    by_cases h : i < k
    · rw [if_pos h]; exact ⟨.two h hk, by simp, by simp⟩
    · rw [if_neg h]; exact ⟨.two (by omega) hi, by simp, by simp⟩
theorem two_err {c : List Int} (hc : CW c) {i k : Nat} (hi : i < 15) (hk : k < 15) {a b : Int} (ha : Sym a) (hb : Sym b) :
    blkOk ((c.set i a).set k b) = true ∧ decBlkGot ((c.set i a).set k b) = true ∧ decBlkR ((c.set i a).set k b) = c.drop 4 ∧ (decBlkP ((c.set i a).set k b)).length ≤ 2 := by
  obtain ⟨f1, f2, f3⟩ := qs2_few hi hk
  have hs : symL ((c.set i a).set k b) = true := symL_set (symL_set hc.sym _ ha) _ hb
  have hl : ((c.set i a).set k b).length = 15 := by rw [List.length_set, List.length_set]; exact hc.len
  have hag : agree ((c.set i a).set k b) c (qs2 i k) := agree_set (agree_set (agree_refl c _) f2) f3
  obtain ⟨ps, h1, h2, h3⟩ := dec_cw hc hl hs f1 hag
  have hok : blkOk ((c.set i a).set k b) = true := by simp [blkOk, hl, hs]
  refine ⟨hok, by unfold decBlkGot; rw [hok, h1]; rfl, ?_, ?_⟩
  · unfold decBlkR decData; rw [hok, if_pos rfl, h1]; show List.drop 4 (fillR _ ps) = _; rw [h2]
  · unfold decBlkP decPl; rw [hok, if_pos rfl, h1]; exact h3
/-- Places in a row. -/
def rowI (p n : Nat) : List Int := (List.range n).map fun i => ((p + i : Nat) : Int)
theorem rowI_len (p n : Nat) : (rowI p n).length = n := by simp [rowI]
theorem rowI_snoc (p n : Nat) : rowI p (n + 1) = rowI p n ++ [((p + n : Nat) : Int)] := by simp [rowI, List.range_succ]
theorem rowI_get (p n i : Nat) (h : i < n) : (rowI p n)[i]?.getD 0 = ((p + i : Nat) : Int) := by simp [rowI, h]
theorem rowI_rising {p n : Nat} (h : p + n ≤ 15) : rising (rowI p n) 15 = true := by
  unfold rising
  rw [rowI_len]
  refine List.all_eq_true.2 fun i hi => ?_
  have hi := List.mem_range.1 hi
  simp only [risAt, Bool.and_eq_true, Bool.or_eq_true, decide_eq_true_eq]
  rw [rowI_get p n i hi]
  refine ⟨inB_mk (by omega) (by omega), ?_⟩
  by_cases h0 : i = 0
  · exact .inl (by omega)
  · right
    rw [rowI_get p n (i - 1) (by omega)]
    omega
theorem erased {c x : List Int} (hc : CW c) {p n : Nat} (hpn : p + n ≤ 15) (hn : n ≤ 4) (hl : x.length = 15) (hs : symL x = true) (h : agree x c (rowI p n)) :
    erOk x (rowI p n) = true ∧ erGot x (rowI p n) = true ∧ erR x (rowI p n) = c.drop 4 := by
  have hr := rowI_rising hpn
  have hok : erOk x (rowI p n) = true := by simp [erOk, blkOk, hl, hs, hr, rowI_len, hn]
  obtain ⟨h1, h2⟩ := erase_cw hc (ris_pl hr (by rw [rowI_len]; exact hn)) h
  have hg : erGot x (rowI p n) = true := by simp [erGot, hok, h1]
  exact ⟨hok, hg, by unfold erR; rw [hg, if_pos rfl, h2]⟩
theorem agree_grow {c d : List Int} {p n : Nat} {v : Int} (h : agree c d (rowI p n)) : agree (c.set (p + n) v) d (rowI p (n + 1)) := by
  refine agree_set ⟨h.1, fun q hq => h.2 q fun e => hq ?_⟩ (by rw [rowI_snoc]; simp)
  rw [rowI_snoc]; exact List.mem_append_left _ e
end Go.Proofs.Ytlemielobmbadaa
