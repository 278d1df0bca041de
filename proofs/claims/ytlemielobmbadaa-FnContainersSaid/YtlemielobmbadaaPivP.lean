/- Rows of integers in a slice of slices: what it means that it holds a matrix of four rows. -/
import Derived.Test.YtlemielobmbadaaSolW
namespace Go.Proofs.Ytlemielobmbadaa
open Go.RowKit

/-- A row's header. -/
def hd (gs cps : Nat → Nat) (N j : Nat) : Value := .slice (some ⟨gs j, 0, none⟩) N (cps j)
/-- Four rows of N numbers: the headers lie in block G, row j in block gs j. -/
structure MatS (B0 : Nat) (w : World) (N : Nat) (M : Mat) (G : Nat) (gs cps : Nat → Nat) : Prop where
  glo : B0 ≤ G
  lo : ∀ j, j < 4 → B0 ≤ gs j
  lt : G < w.heap.size
  hdr : ∀ j, j < 4 → w.cell? ⟨G, j, none⟩ = some (.slice (some ⟨gs j, 0, none⟩) N (cps j))
  fz : ∀ j, w.frozen? ⟨G, j, none⟩ = false
  glt : ∀ j, j < 4 → gs j < w.heap.size
  gne : ∀ j, j < 4 → gs j ≠ G
  cap : ∀ j, j < 4 → N ≤ cps j
  ent : ∀ j, j < 4 → ∀ c, c < N → w.cell? ⟨gs j, c, none⟩ = some (.int .i64 (M j c))
theorem MatS.below {B0 : Nat} {w w' : World} {N : Nat} {M : Mat} {G : Nat} {gs cps : Nat → Nat} (h : MatS B0 w N M G gs cps) (hb : Below w.heap.size w w') : MatS B0 w' N M G gs cps where
  glo := h.glo
  lo := h.lo
  lt := Nat.lt_of_lt_of_le h.lt hb.size
  hdr j hj := by rw [hb.cell (p := ⟨G, j, none⟩) h.lt]; exact h.hdr j hj
  fz j := by rw [hb.frozen (p := ⟨G, j, none⟩) h.lt]; exact h.fz j
  glt j hj := Nat.lt_of_lt_of_le (h.glt j hj) hb.size
  gne := h.gne
  cap := h.cap
  ent j hj c hc := by rw [hb.cell (p := ⟨gs j, c, none⟩) (h.glt j hj)]; exact h.ent j hj c hc
theorem MatS.congr {B0 : Nat} {w : World} {N : Nat} {M M' : Mat} {G : Nat} {gs cps : Nat → Nat} (h : MatS B0 w N M G gs cps) (e : ∀ j, j < 4 → ∀ c, c < N → M j c = M' j c) : MatS B0 w N M' G gs cps :=
  { h with ent := fun j hj c hc => by rw [← e j hj c hc]; exact h.ent j hj c hc }
/-- A row replaced. -/
theorem MatS.row {B0 : Nat} {w : World} {N : Nat} {M : Mat} {G : Nat} {gs cps : Nat → Nat} (h : MatS B0 w N M G gs cps) {j b cp : Nat} (hj : j < 4) {x : Nat → Int} (hlo : B0 ≤ b) (hb : b < w.heap.size) (hne : b ≠ G) (hcp : N ≤ cp)
    (hx : ∀ c, c < N → w.cell? ⟨b, c, none⟩ = some (.int .i64 (x c))) :
    MatS B0 (w.setCell ⟨G, j, none⟩ (.slice (some ⟨b, 0, none⟩) N cp)) N (fun j' c => if j' = j then x c else M j' c) G (fun j' => if j' = j then b else gs j') (fun j' => if j' = j then cp else cps j') where
  glo := h.glo
  lo j' hj' := by
    show B0 ≤ if j' = j then b else gs j'
    split
    · exact hlo
    · exact h.lo j' hj'
  lt := by simpa using h.lt
  hdr j' hj' := by
    by_cases e : j' = j
    · subst e
      rw [World.cell?_setCell_same _ _ _ (h.hdr j' hj')]; simp
    · rw [World.cell?_setCell_other _ _ _ _ (by simp <;> omega), h.hdr j' hj']; simp [e]
  fz j' := by rw [World.frozen?_setCell]; exact h.fz j'
  glt j' hj' := by
    show (if j' = j then b else gs j') < _
    split
    · simpa using hb
    · simpa using h.glt j' hj'
  gne j' hj' := by
    show (if j' = j then b else gs j') ≠ _
    split
    · exact hne
    · exact h.gne j' hj'
  cap j' hj' := by
    show N ≤ if j' = j then cp else cps j'
    split
    · exact hcp
    · exact h.cap j' hj'
  ent j' hj' c hc := by
    show (w.setCell _ _).cell? ⟨if j' = j then b else gs j', c, none⟩ = some (.int .i64 (if j' = j then x c else M j' c))
    by_cases e : j' = j
    · rw [if_pos e, if_pos e, World.cell?_setCell_other _ _ _ _ (by simp <;> exact fun h => absurd h.symm hne)]; exact hx c hc
    · rw [if_neg e, if_neg e, World.cell?_setCell_other _ _ _ _ (by simp <;> exact fun h' => absurd h'.symm (h.gne j' hj'))]; exact h.ent j' hj' c hc
theorem MatS.dr {B0 : Nat} {w w' : World} {N : Nat} {M : Mat} {G : Nat} {gs cps : Nat → Nat} (h : MatS B0 w N M G gs cps) (hd : Dr w w') : MatS B0 w' N M G gs cps := by
  obtain ⟨n, rfl⟩ := hd
  exact ⟨h.glo, h.lo, h.lt, h.hdr, h.fz, h.glt, h.gne, h.cap, h.ent⟩

/-- A row of the call's own that is not empty: where it lies. -/
theorem row_at {w : World} {base : Nat} {v : Value} {n : Nat} {xs : List Int} (h : w.ownsRow base 3 1 v n (ints xs)) (hn : 0 < n) :
    ∃ b cp, v = .slice (some ⟨b, 0, none⟩) n cp ∧ base ≤ b ∧ b < w.heap.size ∧ n ≤ cp ∧ ∀ c, c < n → w.cell? ⟨b, c, none⟩ = some (.int .i64 (xs[c]?.getD 0)) := by
  have ho := own_of_row h
  obtain ⟨hl, h⟩ := h
  have hn' : n = xs.length := by simpa using hl.symm
  rcases h with ⟨_, h0⟩ | ⟨g, cap, cur, rfl, hb, hg, h1, h2, h3, h4⟩
  · omega
  · refine ⟨g, cap, rfl, hb, (Array.getElem?_eq_some_iff.1 hg).1, h1, fun c hc => ?_⟩
    have := (ho.cellAt rfl).2 c (by omega)
    rwa [Nat.zero_add] at this

end Go.Proofs.Ytlemielobmbadaa
