/- Plain Lean: the places at which a block is corrected. -/
import Derived.Test.YtlemielobmbadaaBa21
namespace Go.Proofs.Ytlemielobmbadaa
open Go.RowKit

def has0 (l : List Int) : Bool := l.any fun v => v == 0
/-- What the program asks of places: that values are found, and none is 0. -/
def hit (xs ps : List Int) : Bool := fillOk xs ps && !(has0 (solR ps (synV xs)))
theorem hit_nil (xs : List Int) : hit xs [] = fillOk xs [] := by
  have e : has0 (solR [] (synV xs)) = false := by unfold solR sol; split <;> rfl
  simp [hit, e]
theorem pl_nil : Pl [] := ⟨by simp, by simp, by simp⟩
theorem pl_one {a : Nat} (h : a < 15) : Pl [(a : Int)] := ⟨by simp, by simp; omega, by simp⟩
theorem pl_two {a b : Nat} (h : a < b) (hb : b < 15) : Pl [(a : Int), (b : Int)] := ⟨by simp, by simp; omega, by simp; omega⟩
theorem hit_of {xs ps : List Int} (hl : xs.length = 15) (hs : symL xs = true) (hP : Pl ps) (hz : ∀ i, i < ps.length → fin ps (synV xs) i = 0 → fillOk xs ps = false) : hit xs ps = fillOk xs ps := by
  unfold hit
  cases hf : fillOk xs ps
  · rfl
  · have e : has0 (solR ps (synV xs)) = false := by
      unfold solR
      rw [(era hl hs hP).1, hf, if_pos rfl]
      unfold has0 sol
      rw [List.any_eq_false]
      intro v hv
      obtain ⟨i, hi, rfl⟩ := List.mem_map.1 hv
      have hi' := List.mem_range.1 hi
      simp only [beq_iff_eq]
      intro h0
      have := hz i hi' h0
      rw [hf] at this; exact absurd this (by simp)
    rw [e]; rfl
theorem fill_less1 {xs : List Int} (hl : xs.length = 15) (hs : symL xs = true) {a : Nat} (ha : a < 15) (h0 : fillOk xs [] = false) (hz : fin [(a : Int)] (synV xs) 0 = 0) : fillOk xs [(a : Int)] = false := by
  cases hf : fillOk xs [(a : Int)]
  · rfl
  · have hP := pl_one ha
    have hS := synV_sym hs
    have hok := hf
    rw [← (era hl hs hP).1] at hok
    have sp := sol_spec hP hS hok
    have hF := fin_sym hP hS
    have := (sol_of pl_nil hS (x := fun _ => 0) (fun _ => Sym.zero) fun j hj => by
      rw [sp j hj]
      show xr 0 (mulI (fin [(a : Int)] (synV xs) 0) (V [(a : Int)] 0 j)) = 0
      rw [hz, zero_mulI (V_sym _ _ _)]; rfl).1
    rw [(era hl hs pl_nil).1, h0] at this
    exact absurd this (by simp)
theorem fill_less2 {xs : List Int} (hl : xs.length = 15) (hs : symL xs = true) {a b : Nat} (hab : a < b) (hb : b < 15) (h1 : fillOk xs [(a : Int)] = false) (h2 : fillOk xs [(b : Int)] = false)
    (i : Nat) (hi : i < 2) (hz : fin [(a : Int), (b : Int)] (synV xs) i = 0) : fillOk xs [(a : Int), (b : Int)] = false := by
  cases hf : fillOk xs [(a : Int), (b : Int)]
  · rfl
  · have hP := pl_two hab hb
    have hS := synV_sym hs
    have hok := hf
    rw [← (era hl hs hP).1] at hok
    have sp := sol_spec hP hS hok
    have hF := fin_sym hP hS
    have hi' : i = 0 ∨ i = 1 := by omega
    rcases hi' with rfl | rfl
    · have hPb := pl_one hb
      have := (sol_of hPb hS (x := fun _ => fin [(a : Int), (b : Int)] (synV xs) 1) (fun _ => hF 1) fun j hj => by
        rw [sp j hj]
        show xr (xr 0 (mulI (fin [(a : Int), (b : Int)] (synV xs) 0) (V [(a : Int), (b : Int)] 0 j))) (mulI (fin [(a : Int), (b : Int)] (synV xs) 1) (V [(b : Int)] 0 j)) = xr 0 (mulI _ (V [(b : Int)] 0 j))
        rw [hz, zero_mulI (V_sym _ _ _)]; rfl).1
      rw [(era hl hs hPb).1, h2] at this
      exact absurd this (by simp)
    · have hPa := pl_one (show a < 15 by omega)
      have := (sol_of hPa hS (x := fun _ => fin [(a : Int), (b : Int)] (synV xs) 0) (fun _ => hF 0) fun j hj => by
        rw [sp j hj]
        show xr (xr 0 (mulI (fin [(a : Int), (b : Int)] (synV xs) 0) (V [(a : Int)] 0 j))) (mulI (fin [(a : Int), (b : Int)] (synV xs) 1) (V [(a : Int), (b : Int)] 1 j)) = xr 0 (mulI _ (V [(a : Int)] 0 j))
        rw [hz, zero_mulI (V_sym _ _ _), xr_zero (Sym.zero.xr ((hF 0).mul (V_sym _ _ _)))]).1
      rw [(era hl hs hPa).1, h1] at this
      exact absurd this (by simp)

/-- The first list, with one number more from k on, as many as asked, for which something is found. -/
def lk (g : Nat → List Int → Option (List Int)) (l : List Int) : Nat → Nat → Option (List Int)
  | 0, _ => none
  | m + 1, k => match g (k + 1) (l ++ [(k : Int)]) with
    | some r => some r
    | none => lk g l m (k + 1)
def look (ok : List Int → Bool) : Nat → Nat → List Int → Option (List Int)
  | 0, _, l => if ok l then some l else none
  | c + 1, k, l => lk (look ok c) l (15 - k) k
theorem lk_none {g : Nat → List Int → Option (List Int)} {l : List Int} : ∀ m k, lk g l m k = none → ∀ j, k ≤ j → j < k + m → g (j + 1) (l ++ [(j : Int)]) = none
  | 0, k, _, j, h1, h2 => by omega
  | m + 1, k, h, j, h1, h2 => by
    unfold lk at h
    split at h
    · simp at h
    · rename_i hg
      by_cases e : j = k
      · subst e; exact hg
      · exact lk_none m (k + 1) h j (by omega) (by omega)
theorem lk_congr {g g' : Nat → List Int → Option (List Int)} {l : List Int} : ∀ m k, (∀ j, k ≤ j → j < k + m → g (j + 1) (l ++ [(j : Int)]) = g' (j + 1) (l ++ [(j : Int)])) → lk g l m k = lk g' l m k
  | 0, k, _ => rfl
  | m + 1, k, h => by
    unfold lk
    rw [h k (Nat.le_refl _) (by omega), lk_congr m (k + 1) fun j h1 h2 => h j (by omega) (by omega)]
theorem lk_some {g : Nat → List Int → Option (List Int)} {l r : List Int} : ∀ m k, lk g l m k = some r → ∃ j, k ≤ j ∧ j < k + m ∧ g (j + 1) (l ++ [(j : Int)]) = some r
  | 0, k, h => by simp [lk] at h
  | m + 1, k, h => by
    unfold lk at h
    split at h
    · rename_i r' hg
      exact ⟨k, Nat.le_refl _, by omega, by rw [hg]; exact h⟩
    · obtain ⟨j, h1, h2, h3⟩ := lk_some m (k + 1) h
      exact ⟨j, by omega, by omega, h3⟩
theorem look_zero {ok : List Int → Bool} {k : Nat} {l : List Int} (h : ok l = false) : look ok 0 k l = none := by simp [look, h]
theorem look_zero_iff {ok : List Int → Bool} {k : Nat} {l : List Int} (h : look ok 0 k l = none) : ok l = false := by
  cases e : ok l
  · rfl
  · simp [look, e] at h
theorem look_one_none {ok : List Int → Bool} (h : look ok 1 0 [] = none) : ∀ a : Nat, a < 15 → ok [(a : Int)] = false := fun a ha => look_zero_iff (lk_none _ _ h a (by omega) (by omega))

theorem hit0 (xs : List Int) : look (hit xs) 0 0 [] = look (fillOk xs) 0 0 [] := by simp [look, hit_nil]
theorem hit1 {xs : List Int} (hl : xs.length = 15) (hs : symL xs = true) (h0 : fillOk xs [] = false) : look (hit xs) 1 0 [] = look (fillOk xs) 1 0 [] := by
  unfold look
  refine lk_congr _ _ fun j _ h2 => ?_
  have hj : j < 15 := by omega
  show look (hit xs) 0 _ [(j : Int)] = look (fillOk xs) 0 _ [(j : Int)]
  have e := hit_of hl hs (pl_one hj) fun i hi hz => by
    have : i = 0 := by simpa using hi
    subst this; exact fill_less1 hl hs hj h0 hz
  simp [look, e]
theorem hit2 {xs : List Int} (hl : xs.length = 15) (hs : symL xs = true) (h1 : ∀ a : Nat, a < 15 → fillOk xs [(a : Int)] = false) : look (hit xs) 2 0 [] = look (fillOk xs) 2 0 [] := by
  unfold look
  refine lk_congr _ _ fun a _ ha => ?_
  unfold look
  refine lk_congr _ _ fun b hab hb => ?_
  have hb' : b < 15 := by omega
  show look (hit xs) 0 _ [(a : Int), (b : Int)] = look (fillOk xs) 0 _ [(a : Int), (b : Int)]
  have e := hit_of hl hs (pl_two (show a < b by omega) hb') fun i hi hz => fill_less2 hl hs (by omega) hb' (h1 a (by omega)) (h1 b hb') i (by simpa using hi) hz
  simp [look, e]

theorem lk_hit {g : Nat → List Int → Option (List Int)} {l r : List Int} {k : Nat} (hk : k < 15) (h : g (k + 1) (l ++ [(k : Int)]) = some r) : lk g l (15 - k) k = some r := by
  rw [show 15 - k = (14 - k) + 1 by omega, lk, h]
theorem lk_step {g : Nat → List Int → Option (List Int)} {l : List Int} {k : Nat} (hk : k < 15) (h : g (k + 1) (l ++ [(k : Int)]) = none) : lk g l (15 - k) k = lk g l (15 - (k + 1)) (k + 1) := by
  rw [show 15 - k = (15 - (k + 1)) + 1 by omega, lk, h]
theorem lk_end {g : Nat → List Int → Option (List Int)} {l : List Int} {k : Nat} (hk : 15 ≤ k) : lk g l (15 - k) k = none := by
  rw [show 15 - k = 0 by omega, lk]
theorem look_zero_some {ok : List Int → Bool} {k : Nat} {l : List Int} (h : ok l = true) : look ok 0 k l = some l := by simp [look, h]
theorem fill_nil (xs : List Int) : fillOk xs [] = eqL (syn xs) [0, 0, 0, 0] := by
  have hf : ∀ j, fin [] (synV xs) j = synV xs j := fun j => rfl
  have h1 : fillOk xs [] = true ↔ ∀ j, j < 4 → synV xs j = 0 := by
    show solOk [] (synV xs) = true ↔ _
    rw [solOk_iff]
    exact ⟨fun H j hj => by rw [← hf j]; exact H j hj (Nat.zero_le _), fun H j hj _ => by rw [hf j]; exact H j hj⟩
  have h2 : eqL (syn xs) [0, 0, 0, 0] = true ↔ ∀ j, j < 4 → synV xs j = 0 := by
    show decide ([synV xs 0, synV xs 1, synV xs 2, synV xs 3] = [0, 0, 0, 0]) = true ↔ _
    simp only [decide_eq_true_eq, List.cons.injEq, and_true]
    exact ⟨fun ⟨a, b, c, d⟩ j hj => by rcases j with _ | _ | _ | _ | j <;> first | assumption | omega, fun H => ⟨H 0 (by omega), H 1 (by omega), H 2 (by omega), H 3 (by omega)⟩⟩
  have h3 := h1.trans h2.symm
  clear h1 h2 hf
  generalize fillOk xs [] = a at *
  generalize eqL (syn xs) [0, 0, 0, 0] = b at *
  cases a <;> cases b <;> simp_all
theorem fillR_nil (xs : List Int) : fillR xs [] = xs := by unfold fillR; split <;> rfl

/-- The places at which a block is corrected, if there are any. -/
def dec (xs : List Int) : Option (List Int) :=
  match look (fillOk xs) 0 0 [] with
  | some r => some r
  | none => match look (fillOk xs) 1 0 [] with
    | some r => some r
    | none => look (fillOk xs) 2 0 []
theorem dec0 {xs : List Int} {r : List Int} (h : look (fillOk xs) 0 0 [] = some r) : dec xs = some r := by simp [dec, h]
theorem dec1 {xs : List Int} {r : List Int} (h0 : look (fillOk xs) 0 0 [] = none) (h : look (fillOk xs) 1 0 [] = some r) : dec xs = some r := by simp [dec, h0, h]
theorem dec2 {xs : List Int} (h0 : look (fillOk xs) 0 0 [] = none) (h : look (fillOk xs) 1 0 [] = none) : dec xs = look (fillOk xs) 2 0 [] := by simp [dec, h0, h]
theorem look0_some {ok : List Int → Bool} {k : Nat} {l r : List Int} (h : look ok 0 k l = some r) : r = l ∧ ok l = true := by
  unfold look at h
  split at h
  · rename_i hk; exact ⟨by simpa using h.symm, hk⟩
  · simp at h
theorem dec_some {xs r : List Int} (h : dec xs = some r) : Pl r ∧ fillOk xs r = true ∧ r.length ≤ 2 := by
  unfold dec at h
  split at h
  · rename_i e
    obtain ⟨rfl, h2⟩ := look0_some e
    simp only [Option.some.injEq] at h
    subst h
    exact ⟨pl_nil, h2, by simp⟩
  · split at h
    · rename_i e
      simp only [Option.some.injEq] at h
      subst h
      obtain ⟨a, _, ha, e2⟩ := lk_some _ _ e
      obtain ⟨rfl, h2⟩ := look0_some e2
      exact ⟨pl_one (by omega), h2, by simp⟩
    · obtain ⟨a, _, ha, e2⟩ := lk_some _ _ h
      obtain ⟨b, hab, hb, e3⟩ := lk_some _ _ e2
      obtain ⟨rfl, h2⟩ := look0_some e3
      exact ⟨pl_two (by omega) (by omega), h2, by simp⟩
/-- DecodeBlock. -/
def decData (xs : List Int) : List Int := match dec xs with | some ps => (fillR xs ps).drop 4 | none => []
def decPl (xs : List Int) : List Int := match dec xs with | some ps => ps | none => []
def decBlkR (xs : List Int) : List Int := if blkOk xs then decData xs else []
def decBlkP (xs : List Int) : List Int := if blkOk xs then decPl xs else []
def decBlkGot (xs : List Int) : Bool := blkOk xs && (dec xs).isSome
theorem decPl_len (xs : List Int) : (decPl xs).length ≤ 2 := by
  unfold decPl; split
  · rename_i h; exact (dec_some h).2.2
  · simp
theorem decBlkP_len (xs : List Int) : (decBlkP xs).length ≤ 2 := by unfold decBlkP; split; exact decPl_len xs; simp
theorem decBlkR_len (xs : List Int) : (decBlkR xs).length ≤ 15 := by
  unfold decBlkR; split
  · rename_i h
    unfold decData; split
    · simp [blkOk] at h; rw [List.length_drop, fillR_len]; omega
    · simp
  · simp
end Go.Proofs.Ytlemielobmbadaa
