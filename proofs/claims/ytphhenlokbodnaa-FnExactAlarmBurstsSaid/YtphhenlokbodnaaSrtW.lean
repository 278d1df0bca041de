/- The library's slices.Sort and slices.Compact of integers, for slices of the call's own. -/
import Derived.Test.YtphhenlokbodnaaSrtP
import Derived.Test.YtphhenlokbodnaaShelf
namespace Go.Proofs.Ytphhenlokbodnaa
open Go.RowKit Go.Sort Go.Lib

theorem sortI_own (v : Value) (xs : List Int) (base : Nat) (w : World) (h : Own w base v xs) (hl : xs.length ≤ 1099511627776) :
    Calls Try.prog 55 #[v] w fun e w' => e = .returned (.tuple #[]) ∧ Own w' base v (srt xs) ∧ w.grownBy w' v.ownBlock := by
  have h0 := h
  rcases h with ⟨rfl, rfl⟩ | ⟨g, off, cap, cur, rfl, hb, ⟨T, hg⟩, h1, h2, h3, h4⟩
  · refine (Try.slices_Sort_int_none none 0 w).mono ?_
    rintro e w' ⟨rfl, rfl⟩
    exact ⟨rfl, .inl ⟨rfl, by unfold srt; simp⟩, ⟨rfl, rfl, rfl, Nat.le_refl _, fun _ _ _ => rfl⟩⟩
  · refine (Try.slices_Sort_int g off cap xs w h0.holds (Array.getElem?_eq_some_iff.1 hg).1 (by omega)).mono ?_
    rintro e w' ⟨rfl, n, os, rfl⟩
    have := h0.putRow (q := n) (os := os) (ts := srt xs) (m := xs.length) (srt_len xs) (by rw [srt_len]; exact Nat.le_refl _)
    rw [List.take_of_length_le (by rw [srt_len]; exact Nat.le_refl _)] at this
    exact ⟨rfl, this, grownBy_putRow _⟩
theorem compactI_own (v : Value) (xs : List Int) (base : Nat) (w : World) (h : Own w base v xs) (hl : xs.length ≤ 1099511627776) :
    Calls Try.prog 56 #[v] w fun e w' => ∃ v', e = .returned v' ∧ v'.ownBlock = v.ownBlock ∧ Own w' base v' (cpt xs) ∧ w.grownBy w' v.ownBlock := by
  have h0 := h
  rcases h with ⟨rfl, rfl⟩ | ⟨g, off, cap, cur, rfl, hb, ⟨T, hg⟩, h1, h2, h3, h4⟩
  · refine (Try.slices_Compact_int_empty none 0 w).mono ?_
    rintro e w' ⟨rfl, rfl⟩
    exact ⟨_, rfl, rfl, .inl ⟨rfl, rfl⟩, ⟨rfl, rfl, rfl, Nat.le_refl _, fun _ _ _ => rfl⟩⟩
  · refine (Try.slices_Compact_int g off cap xs w h0.holds (by omega) h1).mono ?_
    rintro e w' ⟨rfl, n, rfl⟩
    have hle : (Lib.compact xs).length ≤ xs.length := cpt_len xs
    have hT : (Lib.compact xs ++ List.replicate (xs.length - (Lib.compact xs).length) 0).length = xs.length := by rw [List.length_append, List.length_replicate]; omega
    have := h0.putRow (q := n) (os := #[]) (ts := Lib.compact xs ++ List.replicate (xs.length - (Lib.compact xs).length) 0) (m := (Lib.compact xs).length) hT (by omega)
    rw [List.take_left, grow_empty] at this
    have g2 := grownBy_putRow (w := w) (g := g) (off := off) (n := n) (os := #[]) (Lib.compact xs ++ List.replicate (xs.length - (Lib.compact xs).length) 0).toArray
    rw [grow_empty] at g2
    exact ⟨_, rfl, rfl, this, g2⟩
end Go.Proofs.Ytphhenlokbodnaa
