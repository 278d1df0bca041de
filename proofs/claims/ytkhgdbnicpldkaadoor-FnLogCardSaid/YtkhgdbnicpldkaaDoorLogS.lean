/- Walks: the reference's reading of records. -/
import Derived.Test.YtkhgdbnicpldkaaDoorLogC
namespace Go.Proofs.YtkhgdbnicpldkaaDoor
open Go.RowKit

/-- What is asked of a text's parts: the first one, and whether there is another. -/
def SpPost (w : World) (s : L) (b : UInt8) (e : Ending) (w' : World) : Prop :=
  ∃ g n cap, e = .returned (.slice (some ⟨g, 0, none⟩) n cap) ∧ 1 ≤ n ∧ n ≤ s.length + 1 ∧ n ≤ cap ∧ (2 ≤ n ↔ hasB b s = true) ∧ g < w'.heap.size ∧ w'.cell? ⟨g, 0, none⟩ = some (.string (mk (bef b s))) ∧ w.heap.size ≤ g ∧ Below w.heap.size w w'
theorem bef_at {s : ByteArray} {b : UInt8} {k : Nat} (hk : k < s.size) (h : hasB b (s.data.toList.take k) = false) (e : s[k] = b) : bef b s.data.toList = s.data.toList.take k ∧ hasB b s.data.toList = true := by
  have e1 : s.data.toList = s.data.toList.take k ++ b :: s.data.toList.drop (k + 1) := by
    have h1 := List.take_append_drop k s.data.toList
    rw [List.drop_eq_getElem_cons (by simpa using hk)] at h1
    rw [← e]
    exact h1.symm
  obtain ⟨b1, b2, b3⟩ := bef_app (r := s.data.toList.drop (k + 1)) h
  rw [← e1] at b1 b3
  exact ⟨b1, b3⟩
theorem has_step {s : ByteArray} {b : UInt8} {k : Nat} (hk : k < s.size) (h : hasB b (s.data.toList.take k) = false) (e : s[k] ≠ b) : hasB b (s.data.toList.take (k + 1)) = false := by
  unfold hasB at *
  rw [take_snoc s k hk, List.any_append, h]
  simp [e]

set_option maxHeartbeats 3200000 in
set_option maxRecDepth 100000 in
theorem l1Split_any (s : ByteArray) (b : UInt8) (hs : s.size ≤ 4000000) (w : World) :
    Calls Tryd.prog 67 #[.string s, .int .u8 (b.toNat : Int)] w (SpPost w s.data.toList b) := by
  have HSZ := Lib.hid (size_data s)
  have HTK := Lib.hid (ext_take s)
  have HDR := Lib.hid (ext_drop s)
  have HAT := Lib.hid (fun k hk h e => bef_at (s := s) (b := b) (k := k) hk h e)
  have HST := Lib.hid (fun k hk h e => has_step (s := s) (b := b) (k := k) hk h e)
  have HTA := Lib.hid (take_all s)
  have HBN := Lib.hid (fun h => bef_none (b := b) (l := s.data.toList) h)
  generalize hsl : s.data.toList = sl at *
  have h0 : (w.alloc (.cells #[] 9)).ownsRow w.heap.size 9 1 (.slice (some ⟨w.heap.size, 0, none⟩) 0 0) 0 [] :=
    World.ownsRow_lit (base := w.heap.size) (e := 9) (size := 1) w #[] 0 (Nat.le_refl _) (by simp) rfl
  have hb0 : Below w.heap.size w (w.alloc (.cells #[] 9)) := (Below.refl _ _).alloc (Nat.le_refl _) _
  clear hsl
  go_enter Tryd.func67, Tryd.ntmps67
  go_wp2
  go_loopw [5, 6, 7] (fun o f i wr => ∃ (k n m : Nat) (ss : List Value), k ≤ s.size ∧ i = .int .i64 k ∧ n ≤ k ∧ f = .int .i64 n ∧ m ≤ k ∧ Hid ((m = 0 → n = 0 ∧ hasB b (sl.take k) = false) ∧ (0 < m → hasB b sl = true ∧ ss[0]? = some (.string (mk (bef b sl))))) ∧
      wr.ownsRow w.heap.size 9 1 o m ss ∧ Hid (Below w.heap.size w wr)) (fun _ _ i _ => s.size - (intOf i).toNat)
  case atStart => exact ⟨0, 0, 0, [], by omega, rfl, by omega, rfl, by omega, ⟨fun _ => ⟨rfl, by simp [hasB]⟩, fun h => by omega⟩, h0, hb0⟩
  case round =>
    obtain ⟨k, n, m, ss, hk, rfl, hn, rfl, hm, HI, ho, HB⟩ := hrel
    have hsz : w.heap.size ≤ wr.heap.size := HB.out.size
    by_cases hlt : k < s.size
    · have hnI : (n : Int) ≤ (k : Int) := by omega
      have hkI : (k : Int) ≤ (s.size : Int) := by omega
      by_cases he : s[k] = b
      · have h1 : ((s[k].toNat : Int) == (b.toNat : Int)) = true := by rw [he]; simp
        have HN : Hid (m = 0 → s.extract n k = mk (bef b sl) ∧ hasB b sl = true) := fun h0 => by
          obtain ⟨rfl, h2⟩ := HI.out.1 h0
          obtain ⟨a1, a2⟩ := HAT.out k hlt h2 he
          exact ⟨by rw [HTK.out, a1], a2⟩
        clear he
        go_wp2_with (at_builtin; refine wpList_pushCells rfl (.tmp 20) (.tmp 25) 86 rfl 9 (.string ⟨#[]⟩) 1 16 Tryd.underlying86 Tryd.infoStr rfl (by omega) (by omega) w.heap.size _ m ss rfl ho #[.string (s.extract n k)] rfl (by simp [Value.oneCell']) rfl rfl (by omega) hsz ?_; intro v5 w5 ho5 hg5; have hB5 := Lib.hid (below_row HB.out ho hg5 (Nat.le_refl _) hsz))
        go_roundw
        case rel =>
          refine ⟨k + 1, k + 1, m + 1, _, by omega, by go_num, by omega, by go_num, by omega, ⟨fun h => by omega, fun _ => ?_⟩, ho5, hB5.out⟩
          by_cases h0 : m = 0
          · have hl := ho.1
            subst h0
            have : ss = [] := List.eq_nil_of_length_eq_zero (by simpa using hl)
            subst this
            exact ⟨(HN.out rfl).2, by rw [← (HN.out rfl).1]; rfl⟩
          · obtain ⟨a1, a2⟩ := HI.out.2 (by omega)
            exact ⟨a1, by rw [List.getElem?_append_left (by have := ho.1; omega)]; exact a2⟩
        case measure => simp [intOf]; omega
      · have h1 : ((s[k].toNat : Int) == (b.toNat : Int)) = false := by
          rw [beq_eq_false_iff_ne]; intro e; exact he (UInt8.toNat_inj.1 (by omega))
        have HN := Lib.hid (fun h => HST.out k hlt h he)
        clear he
        go_wp2
        go_roundw
        case rel => exact ⟨k + 1, n, m, ss, by omega, by go_num, by omega, rfl, by omega, ⟨fun h => ⟨(HI.out.1 h).1, HN.out (HI.out.1 h).2⟩, HI.out.2⟩, ho, HB.out⟩
        case measure => simp [intOf]; omega
    · obtain rfl : k = s.size := by omega
      have hnI : (n : Int) ≤ (s.size : Int) := by omega
      have HN : Hid (m = 0 → s.extract n s.size = mk (bef b sl) ∧ hasB b sl = false) := fun h0 => by
        obtain ⟨rfl, h2⟩ := HI.out.1 h0
        rw [HTA.out] at h2
        exact ⟨by rw [HDR.out, (HBN.out h2).1]; rfl, h2⟩
      go_wp2_with (at_builtin; refine wpList_pushCells rfl (.tmp 29) (.tmp 33) 86 rfl 9 (.string ⟨#[]⟩) 1 16 Tryd.underlying86 Tryd.infoStr rfl (by omega) (by omega) w.heap.size _ m ss rfl ho #[.string (s.extract n s.size)] rfl (by simp [Value.oneCell']) rfl rfl (by omega) hsz ?_; intro v5 w5 ho5 hg5; have hB5 := Lib.hid (below_row HB.out ho hg5 (Nat.le_refl _) hsz))
      go_ret
      obtain ⟨g, cap, rfl, hgb, hglt⟩ := ho5.form (by omega)
      have hcap : m + 1 ≤ cap := by
        rcases ho5.2 with ⟨h, _⟩ | ⟨g', cap', cur, h, _, _, h3, _⟩
        · simp at h
        · simp only [Value.slice.injEq] at h
          obtain ⟨_, _, rfl⟩ := h
          exact h3
      have hc := ho5.cells (g := g) rfl
      refine ⟨g, m + 1, cap, rfl, by omega, by have := HSZ.out; omega, hcap, ?_, hglt, ?_, hgb, hB5.out⟩
      · by_cases h0 : m = 0
        · have := (HN.out h0).2
          rw [this, h0]; simp
        · rw [(HI.out.2 (by omega)).1]; simp; omega
      · have h2 : (ss ++ [Value.string (s.extract n s.size)])[0]? = some (.string (mk (bef b sl))) := by
          by_cases h0 : m = 0
          · have hl := ho.1
            subst h0
            have : ss = [] := List.eq_nil_of_length_eq_zero (by simpa using hl)
            subst this
            rw [← (HN.out rfl).1]; rfl
          · rw [List.getElem?_append_left (by have := ho.1; omega)]; exact (HI.out.2 (by omega)).2
        have := hc 0 _ h2
        simpa [Addr.add] using this
end Go.Proofs.YtkhgdbnicpldkaaDoor
