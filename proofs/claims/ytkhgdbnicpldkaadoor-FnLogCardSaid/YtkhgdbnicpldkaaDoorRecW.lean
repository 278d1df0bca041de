/- Walks: valid records. -/
import Derived.Test.YtkhgdbnicpldkaaDoorProg
import Derived.Test.YtkhgdbnicpldkaaDoorRecP
import Derived.WalkSpells
import Derived.WalkLawsBesides
import Derived.Deep.QuietTactic
import Derived.BigQuiet
import Derived.Handy
import Derived.Lib.Bytealg
import Derived.Test.YtkhgdbnicpldkaaDoorShelf
namespace Go.Proofs.YtkhgdbnicpldkaaDoor
open Go.RowKit

theorem inside_any (n lo hi : Int) (w : World) : Calls Tryd.prog 45 #[.int .i64 n, .int .i64 lo, .int .i64 hi] w fun e w' => e = .returned (.bool (inB n lo hi)) ∧ w = w' := by
  by_cases h1 : lo ≤ n
  · have hd : decide (lo ≤ n) = true := by simpa using h1
    go_enter Tryd.func45, Tryd.ntmps45
    go_wp2
    go_ret
    exact ⟨by simp [inB, h1], rfl⟩
  · have hd : decide (lo ≤ n) = false := by simpa using h1
    go_enter Tryd.func45, Tryd.ntmps45
    go_wp2
    go_ret
    exact ⟨by rw [inB, hd]; rfl, rfl⟩
theorem l1In_any (n lo hi : Int) (w : World) : Calls Tryd.prog 42 #[.int .i64 n, .int .i64 lo, .int .i64 hi] w fun e w' => e = .returned (.bool (inB n lo hi)) ∧ w = w' := by
  by_cases h1 : lo ≤ n
  · have hd : decide (lo ≤ n) = true := by simpa using h1
    go_enter Tryd.func42, Tryd.ntmps42
    go_wp2
    go_ret
    exact ⟨by simp [inB, h1], rfl⟩
  · have hd : decide (lo ≤ n) = false := by simpa using h1
    go_enter Tryd.func42, Tryd.ntmps42
    go_wp2
    go_ret
    exact ⟨by rw [inB, hd]; rfl, rfl⟩

set_option maxHeartbeats 1600000 in
theorem isPlain_any (s : ByteArray) (w : World) (hs : s.size ≤ maxLen) :
    Calls Tryd.prog 56 #[.string s] w fun e w' => e = .returned (.bool (plainL s.data.toList)) ∧ w = w' := by
  unfold maxLen at hs
  have HN := Lib.hid (fun k (hk : k < s.size) => all_no (s := s) (p := plainB) (k := k) hk)
  have HA := Lib.hid (take_all s)
  have HR := Lib.hid (show ∀ b, s.data.toList.all plainB = b → plainL s.data.toList = b from fun b h => h)
  generalize plainL s.data.toList = r at *
  go_enter Tryd.func56, Tryd.ntmps56
  go_wp2
  go_loop [3] (fun i => ∃ k : Nat, k ≤ s.size ∧ i = .int .i64 k ∧ Hid ((s.data.toList.take k).all plainB = true)) (fun i => s.size - (intOf i).toNat)
  case atStart => exact ⟨0, Nat.zero_le _, rfl, by simp [Hid]⟩
  case round =>
    obtain ⟨k, hk, rfl, HT⟩ := hrel
    by_cases hlt : k < s.size
    · cases hp : plainB s[k]
      · have hno := Lib.hid (HR.out _ (HN.out k hlt hp))
        have hp2 : ((s[k].toNat : Int) < 32 ∨ 126 < (s[k].toNat : Int)) ∨ ((s[k].toNat : Int) == 35) = true := by
          simp [plainB, inB] at hp; simp; omega
        by_cases h1 : (s[k].toNat : Int) < 32
        · go_wp2
          go_ret
          exact ⟨by rw [hno.out]; rfl, rfl⟩
        · by_cases h2 : 126 < (s[k].toNat : Int)
          · go_wp2
            go_ret
            exact ⟨by rw [hno.out]; rfl, rfl⟩
          · have h3 : ((s[k].toNat : Int) == 35) = true := by
              rcases hp2 with h | h
              · omega
              · exact h
            clear hp2
            go_wp2
            go_ret
            exact ⟨by rw [hno.out]; rfl, rfl⟩
      · have hst := Lib.hid (all_step hlt HT.out hp)
        have h1 : ¬ (s[k].toNat : Int) < 32 := by simp [plainB, inB] at hp; omega
        have h2 : ¬ 126 < (s[k].toNat : Int) := by simp [plainB, inB] at hp; omega
        have h3 : ((s[k].toNat : Int) == 35) = false := by simp [plainB, inB] at hp; simp; omega
        clear hp
        go_wp2
        go_round
        case rel => exact ⟨k + 1, by omega, by go_num, hst.out⟩
        case measure => simp [intOf]; omega
    · obtain rfl : k = s.size := by omega
      have hh := HT.out
      rw [HA.out] at hh
      have HH := Lib.hid (HR.out _ hh)
      clear hh
      go_wp2
      go_ret
      exact ⟨by rw [HH.out]; rfl, rfl⟩

set_option maxHeartbeats 1600000 in
theorem l27Plain_any (s : ByteArray) (most : Int) (w : World) (hs : s.size ≤ maxLen) :
    Calls Tryd.prog 61 #[.string s, .int .i64 most] w fun e w' => e = .returned (.bool (plainL s.data.toList && decide ((s.size : Int) ≤ most))) ∧ w = w' := by
  unfold maxLen at hs
  have HN := Lib.hid (fun k (hk : k < s.size) => all_no (s := s) (p := plainB) (k := k) hk)
  have HA := Lib.hid (take_all s)
  have HR := Lib.hid (show ∀ b, s.data.toList.all plainB = b → plainL s.data.toList = b from fun b h => h)
  generalize plainL s.data.toList = r at *
  go_enter Tryd.func61, Tryd.ntmps61
  go_wp2
  go_loop [5] (fun i => ∃ k : Nat, k ≤ s.size ∧ i = .int .i64 k ∧ Hid ((s.data.toList.take k).all plainB = true)) (fun i => s.size - (intOf i).toNat)
  case atStart => exact ⟨0, Nat.zero_le _, rfl, by simp [Hid]⟩
  case round =>
    obtain ⟨k, hk, rfl, HT⟩ := hrel
    by_cases hlt : k < s.size
    · have hw : wrap64 (s[k].toNat : Int) = (s[k].toNat : Int) := IntWalk.wrap64_in _ (by have := s[k].toNat_lt; omega)
      have hpb : plainB s[k] = (inB (s[k].toNat : Int) 32 126 && !((s[k].toNat : Int) == 35)) := rfl
      cases h1 : inB (s[k].toNat : Int) 32 126
      · have hno := Lib.hid (HR.out _ (HN.out k hlt (by rw [hpb, h1]; rfl)))
        clear hpb
        go_wp2_with (go_at_call 42; refine (l1In_any _ _ _ _).mono ?_; rintro e w' ⟨rfl, rfl⟩)
        go_ret
        exact ⟨by rw [hno.out]; rfl, rfl⟩
      · cases h3 : ((s[k].toNat : Int) == 35)
        · have hst := Lib.hid (all_step hlt HT.out (by rw [hpb, h1, h3]; rfl))
          clear hpb
          go_wp2_with (go_at_call 42; refine (l1In_any _ _ _ _).mono ?_; rintro e w' ⟨rfl, rfl⟩)
          go_round
          case rel => exact ⟨k + 1, by omega, by go_num, hst.out⟩
          case measure => simp [intOf]; omega
        · have hno := Lib.hid (HR.out _ (HN.out k hlt (by rw [hpb, h1, h3]; rfl)))
          clear hpb
          go_wp2_with (go_at_call 42; refine (l1In_any _ _ _ _).mono ?_; rintro e w' ⟨rfl, rfl⟩)
          go_ret
          exact ⟨by rw [hno.out]; rfl, rfl⟩
    · obtain rfl : k = s.size := by omega
      have hh := HT.out
      rw [HA.out] at hh
      have HH := Lib.hid (HR.out _ hh)
      clear hh
      go_wp2
      go_ret
      exact ⟨by rw [HH.out]; rfl, rfl⟩

set_option maxHeartbeats 1600000 in
theorem l1Stands_any (s : ByteArray) (b : UInt8) (w : World) (hs : s.size ≤ maxLen) :
    Calls Tryd.prog 62 #[.string s, .int .u8 (b.toNat : Int)] w fun e w' => e = .returned (.bool (standsL s.data.toList b)) ∧ w = w' := by
  unfold maxLen at hs
  have HN := Lib.hid (fun k (hk : k < s.size) => any_yes (s := s) (p := fun c => (c.toNat : Int) == (b.toNat : Int)) (k := k) hk)
  have HA := Lib.hid (take_all s)
  have HR := Lib.hid (show ∀ r, s.data.toList.any (fun c => (c.toNat : Int) == (b.toNat : Int)) = r → standsL s.data.toList b = r from fun b h => h)
  generalize standsL s.data.toList b = r at *
  go_enter Tryd.func62, Tryd.ntmps62
  go_wp2
  go_loop [5] (fun i => ∃ k : Nat, k ≤ s.size ∧ i = .int .i64 k ∧ Hid ((s.data.toList.take k).any (fun c => (c.toNat : Int) == (b.toNat : Int)) = false)) (fun i => s.size - (intOf i).toNat)
  case atStart => exact ⟨0, Nat.zero_le _, rfl, by simp [Hid]⟩
  case round =>
    obtain ⟨k, hk, rfl, HT⟩ := hrel
    by_cases hlt : k < s.size
    · cases h1 : ((s[k].toNat : Int) == (b.toNat : Int))
      · have hst := Lib.hid (any_step hlt HT.out h1)
        go_wp2
        go_round
        case rel => exact ⟨k + 1, by omega, by go_num, hst.out⟩
        case measure => simp [intOf]; omega
      · have hno := Lib.hid (HR.out _ (HN.out k hlt h1))
        go_wp2
        go_ret
        exact ⟨by rw [hno.out]; rfl, rfl⟩
    · obtain rfl : k = s.size := by omega
      have hh := HT.out
      rw [HA.out] at hh
      have HH := Lib.hid (HR.out _ hh)
      clear hh
      go_wp2
      go_ret
      exact ⟨by rw [HH.out]; rfl, rfl⟩

theorem index_ge1 (l : List UInt8) (b : UInt8) : -1 ≤ Go.Lib.indexByte l b := by
  induction l with
  | nil => simp [Go.Lib.indexByte]
  | cons a l ih => unfold Go.Lib.indexByte; split; omega; split; omega; omega
theorem stands_index (l : List UInt8) (b : UInt8) : decide (0 ≤ Go.Lib.indexByte l b) = standsL l b := by
  induction l with
  | nil => rfl
  | cons a l ih =>
    have hg := index_ge1 l b
    have e : standsL (a :: l) b = (((a.toNat : Int) == (b.toNat : Int)) || standsL l b) := rfl
    have e2 : Go.Lib.indexByte (a :: l) b = if a == b then 0 else if Go.Lib.indexByte l b == -1 then -1 else Go.Lib.indexByte l b + 1 := rfl
    rw [e, ← ih, e2]
    generalize Go.Lib.indexByte l b = x at *
    by_cases h : a = b
    · subst h; simp
    · have h1 : ((a.toNat : Int) == (b.toNat : Int)) = false := by
        rw [beq_eq_false_iff_ne]; intro e; exact h (UInt8.toNat_inj.1 (by omega))
      have h2 : (a == b) = false := by simpa using h
      rw [h1, h2]
      simp only [Bool.false_or, Bool.false_eq_true, if_false]
      by_cases h3 : x = -1
      · rw [h3]; rfl
      · have h4 : (x == -1) = false := by simpa using h3
        rw [h4]
        simp only [Bool.false_eq_true, if_false]
        rw [decide_eq_decide]; omega

set_option maxHeartbeats 1600000 in
theorem implIsRec_any (c r : ByteArray) (w : World) (hc : c.size ≤ maxLen) (hr : r.size ≤ maxLen) :
    Calls Tryd.prog 37 #[.agg #[.string c, .string r]] w fun e w' => e = .returned (.bool (recOk c r)) ∧ Below w.heap.size w w' := by
  have hB := (Below.refl w.heap.size w).alloc (Nat.le_refl _) (.cells #[.string c, .string r] 27)
  have hR : recOk c r = (inB (c.size : Int) 1 160 && inB (r.size : Int) 0 200 && plainL c.data.toList && plainL r.data.toList && !(standsL c.data.toList 64)) := rfl
  have HR := Lib.hid hR
  clear hR
  generalize recOk c r = b at *
  cases h1 : inB (c.size : Int) 1 160
  · go_enter Tryd.func37, Tryd.ntmps37
    go_wp2_with (go_at_call 45; refine (inside_any _ _ _ _).mono ?_; rintro e w' ⟨rfl, rfl⟩)
    go_ret
    exact ⟨by rw [HR.out, h1]; rfl, hB⟩
  by_cases h2 : (r.size : Int) ≤ 200
  case neg =>
    have h2d : decide ((r.size : Int) ≤ 200) = false := by simpa using h2
    have H2 := Lib.hid (inB_hi (lo := 0) (show (200 : Int) < r.size by omega))
    go_enter Tryd.func37, Tryd.ntmps37
    go_wp2_with (go_at_call 45; refine (inside_any _ _ _ _).mono ?_; rintro e w' ⟨rfl, rfl⟩)
    go_ret
    exact ⟨by rw [HR.out, h1, H2.out]; rfl, hB⟩
  have H2 := Lib.hid (inB_mk (show (0 : Int) ≤ r.size by omega) h2)
  cases h3 : plainL c.data.toList
  · go_enter Tryd.func37, Tryd.ntmps37
    go_wp2_with (first | (go_at_call 45; refine (inside_any _ _ _ _).mono ?_; rintro e w' ⟨rfl, rfl⟩) | (go_at_call 56; refine (isPlain_any _ _ (by assumption)).mono ?_; rintro e w' ⟨rfl, rfl⟩))
    go_ret
    exact ⟨by rw [HR.out, h1, H2.out, h3]; rfl, hB⟩
  cases h4 : plainL r.data.toList
  · go_enter Tryd.func37, Tryd.ntmps37
    go_wp2_with (first | (go_at_call 45; refine (inside_any _ _ _ _).mono ?_; rintro e w' ⟨rfl, rfl⟩) | (go_at_call 56; refine (isPlain_any _ _ (by assumption)).mono ?_; rintro e w' ⟨rfl, rfl⟩))
    go_ret
    exact ⟨by rw [HR.out, h1, H2.out, h3, h4]; rfl, hB⟩
  have H5 := Lib.hid (stands_index c.data.toList 64)
  go_enter Tryd.func37, Tryd.ntmps37
  go_wp2_with (first | (go_at_call 45; refine (inside_any _ _ _ _).mono ?_; rintro e w' ⟨rfl, rfl⟩) | (go_at_call 56; refine (isPlain_any _ _ (by assumption)).mono ?_; rintro e w' ⟨rfl, rfl⟩) | (go_at_call 57; refine (Tryd.strings_Contains_one _ 64 _).mono ?_; rintro e w' ⟨rfl, rfl⟩; rw [H5.out]))
  go_ret
  exact ⟨by rw [HR.out, h1, H2.out, h3, h4]; rfl, hB⟩

set_option maxHeartbeats 1600000 in
theorem l27Good_any (c r : ByteArray) (w : World) (hc : c.size ≤ maxLen) (hr : r.size ≤ maxLen) :
    Calls Tryd.prog 43 #[.agg #[.string c, .string r]] w fun e w' => e = .returned (.bool (recOk c r)) ∧ Below w.heap.size w w' := by
  have hB := (Below.refl w.heap.size w).alloc (Nat.le_refl _) (.cells #[.string c, .string r] 27)
  have hR : recOk c r = (inB (c.size : Int) 1 160 && inB (r.size : Int) 0 200 && plainL c.data.toList && plainL r.data.toList && !(standsL c.data.toList 64)) := rfl
  have HR := Lib.hid hR
  clear hR
  generalize recOk c r = b at *
  by_cases h0 : c.size = 0
  · have hl : c.toList = [] := by rw [ByteArray.toList_eq]; exact List.eq_nil_of_length_eq_zero (by simpa using h0)
    have hl2 : c.toList.isEmpty = true := by rw [hl]; rfl
    have H1 := Lib.hid (inB_lo (hi := 160) (show (c.size : Int) < 1 by omega))
    go_enter Tryd.func43, Tryd.ntmps43
    go_wp2
    go_ret
    exact ⟨by rw [HR.out, H1.out]; rfl, hB⟩
  have hl : c.toList ≠ [] := by
    rw [ByteArray.toList_eq]; intro e
    have := congrArg List.length e
    simp at this; exact h0 (by simp [this])
  have hl2 : c.toList.isEmpty = false := by simpa using hl
  clear hl
  cases h3 : plainL c.data.toList && decide ((c.size : Int) ≤ 160)
  · have HN := Lib.hid (show b = false from by
      rw [HR.out]
      rcases Bool.and_eq_false_iff.1 h3 with h | h
      · simp [h]
      · rw [inB_hi (by simpa using h)]; rfl)
    go_enter Tryd.func43, Tryd.ntmps43
    go_wp2_with (first | (go_at_call 61; refine (l27Plain_any _ _ _ (by assumption)).mono ?_; rintro e w' ⟨rfl, rfl⟩; rw [h3]))
    go_ret
    exact ⟨by rw [HN.out]; rfl, hB⟩
  have H3 := Lib.hid h3
  have H1 := Lib.hid (show inB (c.size : Int) 1 160 = true from inB_mk (by omega) (by simpa using (Bool.and_eq_true_iff.1 h3).2))
  have HP := Lib.hid (Bool.and_eq_true_iff.1 h3).1
  clear h3
  cases h4 : standsL c.data.toList 64
  case true =>
    have HN := Lib.hid (show b = false from by rw [HR.out, h4]; simp)
    go_enter Tryd.func43, Tryd.ntmps43
    go_wp2_with (first | (go_at_call 61; refine (l27Plain_any _ _ _ (by assumption)).mono ?_; rintro e w' ⟨rfl, rfl⟩; rw [H3.out]) | (go_at_call 62; refine (l1Stands_any _ 64 _ (by assumption)).mono ?_; rintro e w' ⟨rfl, rfl⟩; rw [h4]))
    go_ret
    exact ⟨by rw [HN.out]; rfl, hB⟩
  have HN := Lib.hid (show b = (plainL r.data.toList && decide ((r.size : Int) ≤ 200)) from by
    rw [HR.out, H1.out, HP.out, h4]
    have : inB (r.size : Int) 0 200 = decide ((r.size : Int) ≤ 200) := by simp [inB]
    rw [this]; simp [Bool.and_comm])
  obtain ⟨q, hq⟩ : ∃ q, (plainL r.data.toList && decide ((r.size : Int) ≤ 200)) = q := ⟨_, rfl⟩
  rw [hq] at HN
  have HQ := Lib.hid hq
  clear hq
  go_enter Tryd.func43, Tryd.ntmps43
  go_wp2_with (first | (go_at_call 61; refine (l27Plain_any _ _ _ (by assumption)).mono ?_; rintro e w' ⟨rfl, rfl⟩; first | rw [H3.out] | rw [HQ.out]) | (go_at_call 62; refine (l1Stands_any _ 64 _ (by assumption)).mono ?_; rintro e w' ⟨rfl, rfl⟩; rw [h4]))
  go_ret
  exact ⟨by rw [HN.out]; rfl, hB⟩

theorem specIsRec_any (c r : ByteArray) (w : World) (hc : c.size ≤ maxLen) (hr : r.size ≤ maxLen) :
    Calls Tryd.prog 38 #[.agg #[.string c, .string r]] w fun e w' => e = .returned (.bool (recOk c r)) ∧ Below w.heap.size w w' := by
  have hB := (Below.refl w.heap.size w).alloc (Nat.le_refl _) (.cells #[.string c, .string r] 27)
  have hsz := hB.size
  go_enter Tryd.func38, Tryd.ntmps38
  go_wp2_with (go_at_call 43; refine (l27Good_any c r _ hc hr).mono ?_; rintro e w1 ⟨rfl, b1⟩)
  go_ret
  exact ⟨rfl, hB.trans (b1.mono hsz)⟩
end Go.Proofs.YtkhgdbnicpldkaaDoor
