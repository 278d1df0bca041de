/- Joined: XRecW XNumW XNumE XLogC XLogW XLogI. -/
import Derived.Test.YtonpcgdnfclidaaGreatDoorBh01
import Derived.Test.YtonpcgdnfclidaaGreatDoorBh03
import Derived.WalkSpells
import Derived.WalkLawsBesides
import Derived.Deep.QuietTactic
import Derived.BigQuiet
import Derived.Handy
import Derived.Lib.Bytealg
import Derived.Test.YtonpcgdnfclidaaGreatDoorShelf
import Derived.Test.YtonpcgdnfclidaaGreatDoorBh04
import Derived.Lib.SmallJoins
import Derived.Lib.AppendIntMem
import Derived.Test.YtonpcgdnfclidaaGreatDoorBh08
namespace Go.Proofs.YtonpcgdnfclidaaGreatDoor
open Go.RowKit

theorem inside_any (n lo hi : Int) (w : World) : Calls Tryz.prog 149 #[.int .i64 n, .int .i64 lo, .int .i64 hi] w fun e w' => e = .returned (.bool (inB n lo hi)) ∧ w = w' := by
  by_cases h1 : lo ≤ n
  · have hd : decide (lo ≤ n) = true := by simpa using h1
    go_enter Tryz.func149, Tryz.ntmps149
    go_wp2
    go_ret
    exact ⟨by simp [inB, h1], rfl⟩
  · have hd : decide (lo ≤ n) = false := by simpa using h1
    go_enter Tryz.func149, Tryz.ntmps149
    go_wp2
    go_ret
    exact ⟨by rw [inB, hd]; rfl, rfl⟩
set_option maxHeartbeats 1600000 in
theorem isPlain_any (s : ByteArray) (w : World) (hs : s.size ≤ maxLen) :
    Calls Tryz.prog 150 #[.string s] w fun e w' => e = .returned (.bool (plainL s.data.toList)) ∧ w = w' := by
  unfold maxLen at hs
  have HN := Lib.hid (fun k (hk : k < s.size) => all_no (s := s) (p := plainB) (k := k) hk)
  have HA := Lib.hid (take_all s)
  have HR := Lib.hid (show ∀ b, s.data.toList.all plainB = b → plainL s.data.toList = b from fun b h => h)
  generalize plainL s.data.toList = r at *
  go_enter Tryz.func150, Tryz.ntmps150
  go_wp2
  go_loop [3] (fun i => ∃ k : Nat, k ≤ s.size ∧ i = .int .i64 k ∧ Hid ((s.data.toList.take k).all plainB = true)) (fun i => s.size - (intOf i).toNat)
  case atStart => exact ⟨0, Nat.zero_le _, rfl, by simp [Hid]⟩
  case round =>
    obtain ⟨k, hk, rfl, HT⟩ := hrel
    by_cases hlt : k < s.size
    · cases hp : plainB s[k]
      · have hno := Lib.hid (HR.out _ (HN.out k hlt hp))
        have hp2 : ((s[k].toNat : Int) < 32 ∨ 126 < (s[k].toNat : Int)) ∨ ((s[k].toNat : Int) == 35) = true := by
          simp [plainB, inB] at hp; simp; omega
        by_cases h1 : (s[k].toNat : Int) < 32
        · go_wp2
          go_ret
          exact ⟨by rw [hno.out]; rfl, rfl⟩
        · by_cases h2 : 126 < (s[k].toNat : Int)
          · go_wp2
            go_ret
            exact ⟨by rw [hno.out]; rfl, rfl⟩
          · have h3 : ((s[k].toNat : Int) == 35) = true := by
              rcases hp2 with h | h
              · omega
              · exact h
            clear hp2
            go_wp2
            go_ret
            exact ⟨by rw [hno.out]; rfl, rfl⟩
      · have hst := Lib.hid (all_step hlt HT.out hp)
        have h1 : ¬ (s[k].toNat : Int) < 32 := by simp [plainB, inB] at hp; omega
        have h2 : ¬ 126 < (s[k].toNat : Int) := by simp [plainB, inB] at hp; omega
        have h3 : ((s[k].toNat : Int) == 35) = false := by simp [plainB, inB] at hp; simp; omega
        clear hp
        go_wp2
        go_round
        case rel => exact ⟨k + 1, by omega, by go_num, hst.out⟩
        case measure => simp [intOf]; omega
    · obtain rfl : k = s.size := by omega
      have hh := HT.out
      rw [HA.out] at hh
      have HH := Lib.hid (HR.out _ hh)
      clear hh
      go_wp2
      go_ret
      exact ⟨by rw [HH.out]; rfl, rfl⟩

set_option maxHeartbeats 1600000 in
theorem l27Plain_any (s : ByteArray) (most : Int) (w : World) (hs : s.size ≤ maxLen) :
    Calls Tryz.prog 162 #[.string s, .int .i64 most] w fun e w' => e = .returned (.bool (plainL s.data.toList && decide ((s.size : Int) ≤ most))) ∧ w = w' := by
  unfold maxLen at hs
  have HN := Lib.hid (fun k (hk : k < s.size) => all_no (s := s) (p := plainB) (k := k) hk)
  have HA := Lib.hid (take_all s)
  have HR := Lib.hid (show ∀ b, s.data.toList.all plainB = b → plainL s.data.toList = b from fun b h => h)
  generalize plainL s.data.toList = r at *
  go_enter Tryz.func162, Tryz.ntmps162
  go_wp2
  go_loop [5] (fun i => ∃ k : Nat, k ≤ s.size ∧ i = .int .i64 k ∧ Hid ((s.data.toList.take k).all plainB = true)) (fun i => s.size - (intOf i).toNat)
  case atStart => exact ⟨0, Nat.zero_le _, rfl, by simp [Hid]⟩
  case round =>
    obtain ⟨k, hk, rfl, HT⟩ := hrel
    by_cases hlt : k < s.size
    · have hw : wrap64 (s[k].toNat : Int) = (s[k].toNat : Int) := IntWalk.wrap64_in _ (by have := s[k].toNat_lt; omega)
      have hpb : plainB s[k] = (inB (s[k].toNat : Int) 32 126 && !((s[k].toNat : Int) == 35)) := rfl
      cases h1 : inB (s[k].toNat : Int) 32 126
      · have hno := Lib.hid (HR.out _ (HN.out k hlt (by rw [hpb, h1]; rfl)))
        clear hpb
        go_wp2_with (go_at_call 82; refine (l1In_any _ _ _ _).mono ?_; rintro e w' ⟨rfl, rfl⟩)
        go_ret
        exact ⟨by rw [hno.out]; rfl, rfl⟩
      · cases h3 : ((s[k].toNat : Int) == 35)
        · have hst := Lib.hid (all_step hlt HT.out (by rw [hpb, h1, h3]; rfl))
          clear hpb
          go_wp2_with (go_at_call 82; refine (l1In_any _ _ _ _).mono ?_; rintro e w' ⟨rfl, rfl⟩)
          go_round
          case rel => exact ⟨k + 1, by omega, by go_num, hst.out⟩
          case measure => simp [intOf]; omega
        · have hno := Lib.hid (HR.out _ (HN.out k hlt (by rw [hpb, h1, h3]; rfl)))
          clear hpb
          go_wp2_with (go_at_call 82; refine (l1In_any _ _ _ _).mono ?_; rintro e w' ⟨rfl, rfl⟩)
          go_ret
          exact ⟨by rw [hno.out]; rfl, rfl⟩
    · obtain rfl : k = s.size := by omega
      have hh := HT.out
      rw [HA.out] at hh
      have HH := Lib.hid (HR.out _ hh)
      clear hh
      go_wp2
      go_ret
      exact ⟨by rw [HH.out]; rfl, rfl⟩

set_option maxHeartbeats 1600000 in
theorem l1Stands_any (s : ByteArray) (b : UInt8) (w : World) (hs : s.size ≤ maxLen) :
    Calls Tryz.prog 163 #[.string s, .int .u8 (b.toNat : Int)] w fun e w' => e = .returned (.bool (standsL s.data.toList b)) ∧ w = w' := by
  unfold maxLen at hs
  have HN := Lib.hid (fun k (hk : k < s.size) => any_yes (s := s) (p := fun c => (c.toNat : Int) == (b.toNat : Int)) (k := k) hk)
  have HA := Lib.hid (take_all s)
  have HR := Lib.hid (show ∀ r, s.data.toList.any (fun c => (c.toNat : Int) == (b.toNat : Int)) = r → standsL s.data.toList b = r from fun b h => h)
  generalize standsL s.data.toList b = r at *
  go_enter Tryz.func163, Tryz.ntmps163
  go_wp2
  go_loop [5] (fun i => ∃ k : Nat, k ≤ s.size ∧ i = .int .i64 k ∧ Hid ((s.data.toList.take k).any (fun c => (c.toNat : Int) == (b.toNat : Int)) = false)) (fun i => s.size - (intOf i).toNat)
  case atStart => exact ⟨0, Nat.zero_le _, rfl, by simp [Hid]⟩
  case round =>
    obtain ⟨k, hk, rfl, HT⟩ := hrel
    by_cases hlt : k < s.size
    · cases h1 : ((s[k].toNat : Int) == (b.toNat : Int))
      · have hst := Lib.hid (any_step hlt HT.out h1)
        go_wp2
        go_round
        case rel => exact ⟨k + 1, by omega, by go_num, hst.out⟩
        case measure => simp [intOf]; omega
      · have hno := Lib.hid (HR.out _ (HN.out k hlt h1))
        go_wp2
        go_ret
        exact ⟨by rw [hno.out]; rfl, rfl⟩
    · obtain rfl : k = s.size := by omega
      have hh := HT.out
      rw [HA.out] at hh
      have HH := Lib.hid (HR.out _ hh)
      clear hh
      go_wp2
      go_ret
      exact ⟨by rw [HH.out]; rfl, rfl⟩

theorem index_ge1 (l : List UInt8) (b : UInt8) : -1 ≤ Go.Lib.indexByte l b := by
  induction l with
  | nil => simp [Go.Lib.indexByte]
  | cons a l ih => unfold Go.Lib.indexByte; split; omega; split; omega; omega
theorem stands_index (l : List UInt8) (b : UInt8) : decide (0 ≤ Go.Lib.indexByte l b) = standsL l b := by
  induction l with
  | nil => rfl
  | cons a l ih =>
    have hg := index_ge1 l b
    have e : standsL (a :: l) b = (((a.toNat : Int) == (b.toNat : Int)) || standsL l b) := rfl
    have e2 : Go.Lib.indexByte (a :: l) b = if a == b then 0 else if Go.Lib.indexByte l b == -1 then -1 else Go.Lib.indexByte l b + 1 := rfl
    rw [e, ← ih, e2]
    generalize Go.Lib.indexByte l b = x at *
    by_cases h : a = b
    · subst h; simp
    · have h1 : ((a.toNat : Int) == (b.toNat : Int)) = false := by
        rw [beq_eq_false_iff_ne]; intro e; exact h (UInt8.toNat_inj.1 (by omega))
      have h2 : (a == b) = false := by simpa using h
      rw [h1, h2]
      simp only [Bool.false_or, Bool.false_eq_true, if_false]
      by_cases h3 : x = -1
      · rw [h3]; rfl
      · have h4 : (x == -1) = false := by simpa using h3
        rw [h4]
        simp only [Bool.false_eq_true, if_false]
        rw [decide_eq_decide]; omega

set_option maxHeartbeats 1600000 in
theorem implIsRec_any (c r : ByteArray) (w : World) (hc : c.size ≤ maxLen) (hr : r.size ≤ maxLen) :
    Calls Tryz.prog 127 #[.agg #[.string c, .string r]] w fun e w' => e = .returned (.bool (recOk c r)) ∧ Below w.heap.size w w' := by
  have hB := (Below.refl w.heap.size w).alloc (Nat.le_refl _) (.cells #[.string c, .string r] 139)
  have hR : recOk c r = (inB (c.size : Int) 1 160 && inB (r.size : Int) 0 200 && plainL c.data.toList && plainL r.data.toList && !(standsL c.data.toList 64)) := rfl
  have HR := Lib.hid hR
  clear hR
  generalize recOk c r = b at *
  cases h1 : inB (c.size : Int) 1 160
  · go_enter Tryz.func127, Tryz.ntmps127
    go_wp2_with (go_at_call 149; refine (inside_any _ _ _ _).mono ?_; rintro e w' ⟨rfl, rfl⟩)
    go_ret
    exact ⟨by rw [HR.out, h1]; rfl, hB⟩
  by_cases h2 : (r.size : Int) ≤ 200
  case neg =>
    have h2d : decide ((r.size : Int) ≤ 200) = false := by simpa using h2
    have H2 := Lib.hid (inB_hi (lo := 0) (show (200 : Int) < r.size by omega))
    go_enter Tryz.func127, Tryz.ntmps127
    go_wp2_with (go_at_call 149; refine (inside_any _ _ _ _).mono ?_; rintro e w' ⟨rfl, rfl⟩)
    go_ret
    exact ⟨by rw [HR.out, h1, H2.out]; rfl, hB⟩
  have H2 := Lib.hid (inB_mk (show (0 : Int) ≤ r.size by omega) h2)
  cases h3 : plainL c.data.toList
  · go_enter Tryz.func127, Tryz.ntmps127
    go_wp2_with (first | (go_at_call 149; refine (inside_any _ _ _ _).mono ?_; rintro e w' ⟨rfl, rfl⟩) | (go_at_call 150; refine (isPlain_any _ _ (by assumption)).mono ?_; rintro e w' ⟨rfl, rfl⟩))
    go_ret
    exact ⟨by rw [HR.out, h1, H2.out, h3]; rfl, hB⟩
  cases h4 : plainL r.data.toList
  · go_enter Tryz.func127, Tryz.ntmps127
    go_wp2_with (first | (go_at_call 149; refine (inside_any _ _ _ _).mono ?_; rintro e w' ⟨rfl, rfl⟩) | (go_at_call 150; refine (isPlain_any _ _ (by assumption)).mono ?_; rintro e w' ⟨rfl, rfl⟩))
    go_ret
    exact ⟨by rw [HR.out, h1, H2.out, h3, h4]; rfl, hB⟩
  have H5 := Lib.hid (stands_index c.data.toList 64)
  go_enter Tryz.func127, Tryz.ntmps127
  go_wp2_with (first | (go_at_call 149; refine (inside_any _ _ _ _).mono ?_; rintro e w' ⟨rfl, rfl⟩) | (go_at_call 150; refine (isPlain_any _ _ (by assumption)).mono ?_; rintro e w' ⟨rfl, rfl⟩) | (go_at_call 151; refine (Tryz.strings_Contains_one _ 64 _).mono ?_; rintro e w' ⟨rfl, rfl⟩; rw [H5.out]))
  go_ret
  exact ⟨by rw [HR.out, h1, H2.out, h3, h4]; rfl, hB⟩

set_option maxHeartbeats 1600000 in
theorem l27Good_any (c r : ByteArray) (w : World) (hc : c.size ≤ maxLen) (hr : r.size ≤ maxLen) :
    Calls Tryz.prog 141 #[.agg #[.string c, .string r]] w fun e w' => e = .returned (.bool (recOk c r)) ∧ Below w.heap.size w w' := by
  have hB := (Below.refl w.heap.size w).alloc (Nat.le_refl _) (.cells #[.string c, .string r] 139)
  have hR : recOk c r = (inB (c.size : Int) 1 160 && inB (r.size : Int) 0 200 && plainL c.data.toList && plainL r.data.toList && !(standsL c.data.toList 64)) := rfl
  have HR := Lib.hid hR
  clear hR
  generalize recOk c r = b at *
  by_cases h0 : c.size = 0
  · have hl : c.toList = [] := by rw [ByteArray.toList_eq]; exact List.eq_nil_of_length_eq_zero (by simpa using h0)
    have hl2 : c.toList.isEmpty = true := by rw [hl]; rfl
    have H1 := Lib.hid (inB_lo (hi := 160) (show (c.size : Int) < 1 by omega))
    go_enter Tryz.func141, Tryz.ntmps141
    go_wp2
    go_ret
    exact ⟨by rw [HR.out, H1.out]; rfl, hB⟩
  have hl : c.toList ≠ [] := by
    rw [ByteArray.toList_eq]; intro e
    have := congrArg List.length e
    simp at this; exact h0 (by simp [this])
  have hl2 : c.toList.isEmpty = false := by simpa using hl
  clear hl
  cases h3 : plainL c.data.toList && decide ((c.size : Int) ≤ 160)
  · have HN := Lib.hid (show b = false from by
      rw [HR.out]
      rcases Bool.and_eq_false_iff.1 h3 with h | h
      · simp [h]
      · rw [inB_hi (by simpa using h)]; rfl)
    go_enter Tryz.func141, Tryz.ntmps141
    go_wp2_with (first | (go_at_call 162; refine (l27Plain_any _ _ _ (by assumption)).mono ?_; rintro e w' ⟨rfl, rfl⟩; rw [h3]))
    go_ret
    exact ⟨by rw [HN.out]; rfl, hB⟩
  have H3 := Lib.hid h3
  have H1 := Lib.hid (show inB (c.size : Int) 1 160 = true from inB_mk (by omega) (by simpa using (Bool.and_eq_true_iff.1 h3).2))
  have HP := Lib.hid (Bool.and_eq_true_iff.1 h3).1
  clear h3
  cases h4 : standsL c.data.toList 64
  case true =>
    have HN := Lib.hid (show b = false from by rw [HR.out, h4]; simp)
    go_enter Tryz.func141, Tryz.ntmps141
    go_wp2_with (first | (go_at_call 162; refine (l27Plain_any _ _ _ (by assumption)).mono ?_; rintro e w' ⟨rfl, rfl⟩; rw [H3.out]) | (go_at_call 163; refine (l1Stands_any _ 64 _ (by assumption)).mono ?_; rintro e w' ⟨rfl, rfl⟩; rw [h4]))
    go_ret
    exact ⟨by rw [HN.out]; rfl, hB⟩
  have HN := Lib.hid (show b = (plainL r.data.toList && decide ((r.size : Int) ≤ 200)) from by
    rw [HR.out, H1.out, HP.out, h4]
    have : inB (r.size : Int) 0 200 = decide ((r.size : Int) ≤ 200) := by simp [inB]
    rw [this]; simp [Bool.and_comm])
  obtain ⟨q, hq⟩ : ∃ q, (plainL r.data.toList && decide ((r.size : Int) ≤ 200)) = q := ⟨_, rfl⟩
  rw [hq] at HN
  have HQ := Lib.hid hq
  clear hq
  go_enter Tryz.func141, Tryz.ntmps141
  go_wp2_with (first | (go_at_call 162; refine (l27Plain_any _ _ _ (by assumption)).mono ?_; rintro e w' ⟨rfl, rfl⟩; first | rw [H3.out] | rw [HQ.out]) | (go_at_call 163; refine (l1Stands_any _ 64 _ (by assumption)).mono ?_; rintro e w' ⟨rfl, rfl⟩; rw [h4]))
  go_ret
  exact ⟨by rw [HN.out]; rfl, hB⟩

end Go.Proofs.YtonpcgdnfclidaaGreatDoor
namespace Go.Proofs.YtonpcgdnfclidaaGreatDoor
open Go.RowKit

theorem i64w (n : Int) (h : -9223372036854775808 ≤ n) (h2 : n ≤ 9223372036854775807) : IntKind.i64.wrap n = n := IntWalk.i64_in _ (by omega)
set_option maxRecDepth 100000 in
theorem dig_run {r : Nat} (h : r < 10) (w : World) : (Instr.sliceAt 9 (.string ⟨#[48, 49, 50, 51, 52, 53, 54, 55, 56, 57]⟩) (some (.int .i64 (r : Int))) (some (.int .i64 ((r : Int) + 1))) none).run Tryz.prog w = .ok (.string (mk [UInt8.ofNat (48 + r)])) w := by
  have : r = 0 ∨ r = 1 ∨ r = 2 ∨ r = 3 ∨ r = 4 ∨ r = 5 ∨ r = 6 ∨ r = 7 ∨ r = 8 ∨ r = 9 := by omega
  rcases this with rfl | rfl | rfl | rfl | rfl | rfl | rfl | rfl | rfl | rfl <;> rfl
theorem dig_cut {n : Nat} (h : n < 10) : (⟨#[48, 49, 50, 51, 52, 53, 54, 55, 56, 57]⟩ : ByteArray).extract n (n + 1) = mk [UInt8.ofNat (48 + n)] := by
  have : n = 0 ∨ n = 1 ∨ n = 2 ∨ n = 3 ∨ n = 4 ∨ n = 5 ∨ n = 6 ∨ n = 7 ∨ n = 8 ∨ n = 9 := by omega
  rcases this with rfl | rfl | rfl | rfl | rfl | rfl | rfl | rfl | rfl | rfl <;> decide
set_option maxHeartbeats 1600000 in
set_option maxRecDepth 100000 in
theorem l1Num_any (n : Nat) : n ≤ 1000000000 → ∀ w : World, Calls Tryz.prog 101 #[.int .i64 n] w fun e w' => e = .returned (.string (mk (digs n))) ∧ ∃ m, w' = w.drewN m := by
  induction n using Nat.strongRecOn with
  | _ n ih =>
    intro hn w
    have h0 : ¬ (n : Int) < 0 := by omega
    by_cases h1 : n < 10
    · have h1I : (n : Int) < 10 := by omega
      have HD := Lib.hid (digs_small h1)
      go_enter Tryz.func101, Tryz.ntmps101
      go_wp2
      go_ret
      refine ⟨?_, 0, rfl⟩
      rw [HD.out, ← dig_cut h1]
      rfl
    · have h1I : ¬ (n : Int) < 10 := by omega
      have HD := Lib.hid (digs_big h1)
      have hq : (n : Int) / 10 = ((n / 10 : Nat) : Int) := by omega
      have hr : (n : Int) % 10 = ((n % 10 : Nat) : Int) := by omega
      have hqt : (n : Int).tdiv 10 = ((n / 10 : Nat) : Int) := by rw [Int.tdiv_eq_ediv_of_nonneg (by omega)]; exact hq
      have hrt : (n : Int).tmod 10 = ((n % 10 : Nat) : Int) := by rw [Int.tmod_eq_emod_of_nonneg (by omega)]; exact hr
      have hr10 : ((n % 10 : Nat) : Int) < 10 := by omega
      have hr10' : n % 10 < 10 := by omega
      have w1 : IntKind.i64.wrap ((n / 10 : Nat) : Int) = ((n / 10 : Nat) : Int) := i64w _ (by omega) (by omega)
      have w2 : IntKind.i64.wrap ((n % 10 : Nat) : Int) = ((n % 10 : Nat) : Int) := i64w _ (by omega) (by omega)
      have w3 : IntKind.i64.wrap (((n % 10 : Nat) : Int) + 1) = ((n % 10 : Nat) : Int) + 1 := i64w _ (by omega) (by omega)
      have HR := Lib.hid hr10'
      have hsl := dig_run hr10'
      generalize hgq : n / 10 = q at *
      generalize hgr : n % 10 = r at *
      have hc := Lib.hid (fun w => ih q (by omega) (by omega) w)
      have hlen : ¬ 9223372036854775807 < (digs q).length + 1 := by have := digs_len 9 q (by omega); omega
      clear ih hgq hgr
      go_enter Tryz.func101, Tryz.ntmps101
      go_wp2
      go_quiet ((go_at_call 101; exact Calls.quiet_of (hc.out _)))
      go_wp2
      go_ret
      refine ⟨?_, _, rfl⟩
      rw [HD.out]
      show Ending.returned (.string (mk (digs q) ++ mk [48 + UInt8.ofNat r])) = _
      rw [mk_append]
      congr 2
      simp

set_option maxHeartbeats 1600000 in
theorem l1Sum_any (s : ByteArray) (w : World) (hs : s.size ≤ maxLen) :
    Calls Tryz.prog 185 #[.string s] w fun e w' => e = .returned (.int .i64 (sumL s.data.toList)) ∧ w = w' := by
  unfold maxLen at hs
  have HA := Lib.hid (take_all s)
  go_enter Tryz.func185, Tryz.ntmps185
  go_wp2
  go_loop [3, 4] (fun h i => ∃ (k : Nat) (x : Int), k ≤ s.size ∧ i = .int .i64 k ∧ h = .int .i64 x ∧ (0 ≤ x ∧ x < 999979) ∧ Hid (sumL (s.data.toList.take k) = x)) (fun _ i => s.size - (intOf i).toNat)
  case atStart => exact ⟨0, 7, Nat.zero_le _, rfl, rfl, by omega, by simp [Hid, sumL]⟩
  case round =>
    obtain ⟨k, x, hk, rfl, rfl, ⟨hx0, hx1⟩, HX⟩ := hrel
    by_cases hlt : k < s.size
    · have hb : s[k].toNat < 256 := s[k].toNat_lt
      have hw : wrap64 (s[k].toNat : Int) = (s[k].toNat : Int) := IntWalk.wrap64_in _ (by omega)
      have HS := Lib.hid (show sumL (s.data.toList.take (k + 1)) = (41 * x + (s[k].toNat : Int) + 1) % 999979 from by rw [take_snoc s k hlt, sumL_snoc, HX.out]; rfl)
      go_wp2
      go_round
      case rel => exact ⟨k + 1, _, by omega, by go_num, rfl, by omega, HS.out⟩
      case measure => simp [intOf]; omega
    · obtain rfl : k = s.size := by omega
      have hh := HX.out
      rw [HA.out] at hh
      have HH := Lib.hid hh
      clear hh
      go_wp2
      go_ret
      exact ⟨by rw [HH.out]; rfl, rfl⟩

set_option maxHeartbeats 1600000 in
theorem checksum_any (s : ByteArray) (w : World) (hs : s.size ≤ maxLen) :
    Calls Tryz.prog 178 #[.string s] w fun e w' => e = .returned (.int .i64 (sumL s.data.toList)) ∧ w = w' := by
  unfold maxLen at hs
  have HA := Lib.hid (take_all s)
  go_enter Tryz.func178, Tryz.ntmps178
  go_wp2
  go_loop [3, 4] (fun h i => ∃ (k : Nat) (x : Int), k ≤ s.size ∧ i = .int .i64 k ∧ h = .int .i64 x ∧ (0 ≤ x ∧ x < 999979) ∧ Hid (sumL (s.data.toList.take k) = x)) (fun _ i => s.size - (intOf i).toNat)
  case atStart => exact ⟨0, 7, Nat.zero_le _, rfl, rfl, by omega, by simp [Hid, sumL]⟩
  case round =>
    obtain ⟨k, x, hk, rfl, rfl, ⟨hx0, hx1⟩, HX⟩ := hrel
    by_cases hlt : k < s.size
    · have hb : s[k].toNat < 256 := s[k].toNat_lt
      have hw : wrap64 (s[k].toNat : Int) = (s[k].toNat : Int) := IntWalk.wrap64_in _ (by omega)
      have HS := Lib.hid (show sumL (s.data.toList.take (k + 1)) = (41 * x + (s[k].toNat : Int) + 1) % 999979 from by rw [take_snoc s k hlt, sumL_snoc, HX.out]; rfl)
      go_wp2
      go_round
      case rel => exact ⟨k + 1, _, by omega, by go_num, rfl, by omega, HS.out⟩
      case measure => simp [intOf]; omega
    · obtain rfl : k = s.size := by omega
      have hh := HX.out
      rw [HA.out] at hh
      have HH := Lib.hid hh
      clear hh
      go_wp2
      go_ret
      exact ⟨by rw [HH.out]; rfl, rfl⟩

theorem seal_str (s : ByteArray) : s ++ mk [35] ++ mk (digs (sumL s.data.toList).toNat) = mk (sealL s.data.toList) := by
  rw [str_append, mk_append]; simp [sealL]
set_option maxHeartbeats 1600000 in
theorem l1Seal_any (s : ByteArray) (w : World) (hs : s.size ≤ 100000) :
    Calls Tryz.prog 164 #[.string s] w fun e w' => e = .returned (.string (mk (sealL s.data.toList))) ∧ ∃ m, w' = w.drewN m := by
  have hb := sumL_bd s.data.toList
  have hd := digs_len 5 (sumL s.data.toList).toNat (by omega)
  have HC := Lib.hid (fun w => l1Num_any (sumL s.data.toList).toNat (by omega) w)
  have HE := Lib.hid (seal_str s)
  have hx : (((sumL s.data.toList).toNat : Nat) : Int) = sumL s.data.toList := by omega
  rw [hx] at HC
  have HS := Lib.hid (fun w => l1Sum_any s w (by unfold maxLen; omega))
  generalize sumL s.data.toList = x at *
  clear hx
  generalize digs x.toNat = ds at *
  go_enter Tryz.func164, Tryz.ntmps164
  go_wp2_with (first | (go_at_call 185; refine (HS.out _).mono ?_; rintro e w' ⟨rfl, rfl⟩) | (go_at_call 101; refine (HC.out _).mono ?_; rintro e w' ⟨rfl, m, rfl⟩))
  go_ret
  exact ⟨by rw [← HE.out]; rfl, m, rfl⟩

theorem line_str (k : Nat) (c r : ByteArray) : mk (digs k) ++ mk [32] ++ c ++ mk [64] ++ r = mk (bodyL k c.data.toList r.data.toList) := by
  apply ba_ext
  rw [data_append, data_append, data_append, data_append, data_mk, data_mk, data_mk, data_mk]
  simp [bodyL]
theorem bodyL_len (k : Nat) (c r : List UInt8) : (bodyL k c r).length = (digs k).length + c.length + r.length + 2 := by simp [bodyL]; omega
set_option maxHeartbeats 1600000 in
set_option maxRecDepth 100000 in
theorem l27Line_any (k : Nat) (hk : k ≤ 99) (c r : ByteArray) (hc : c.size ≤ 1000) (hr : r.size ≤ 1000) (w : World) :
    Calls Tryz.prog 142 #[.int .i64 k, .agg #[.string c, .string r]] w fun e w' => e = .returned (.string (mk (lineL k c.data.toList r.data.toList))) ∧ Below w.heap.size w w' := by
  have hB := (Below.refl w.heap.size w).alloc (Nat.le_refl _) (.cells #[.string c, .string r] 139)
  have hd := digs_len 1 k (by omega)
  have HN := Lib.hid (fun w => l1Num_any k (by omega) w)
  have hbl := bodyL_len k c.data.toList r.data.toList
  rw [← size_data, ← size_data] at hbl
  have hsl := sealL_len (bodyL k c.data.toList r.data.toList)
  have HL : Hid (∀ w, Calls Tryz.prog 164 #[.string (mk (digs k) ++ ⟨#[32]⟩ ++ c ++ ⟨#[64]⟩ ++ r)] w fun e w' => e = .returned (.string (mk (sealL (bodyL k c.data.toList r.data.toList)))) ∧ ∃ m, w' = w.drewN m) := fun w => by
    have := l1Seal_any (mk (bodyL k c.data.toList r.data.toList)) w (by rw [mk_size]; omega)
    rw [show (mk (digs k) ++ ⟨#[32]⟩ ++ c ++ ⟨#[64]⟩ ++ r : ByteArray) = mk (bodyL k c.data.toList r.data.toList) from line_str k c r]
    rw [data_mk] at this
    exact this
  have HS := Lib.hid (show mk (sealL (bodyL k c.data.toList r.data.toList)) ++ mk [10] = mk (lineL k c.data.toList r.data.toList) from by rw [mk_append]; rfl)
  have z5 : ¬ 9223372036854775807 < (sealL (bodyL k c.data.toList r.data.toList)).length + 1 := by omega
  generalize sealL (bodyL k c.data.toList r.data.toList) = sl at *
  generalize lineL k c.data.toList r.data.toList = ll at *
  clear hbl hsl
  generalize digs k = ds at *
  have z1 : ¬ 9223372036854775807 < ds.length + 1 := by omega
  have z2 : ¬ 9223372036854775807 < ds.length + 1 + c.size := by omega
  have z3 : ¬ 9223372036854775807 < ds.length + 1 + c.size + 1 := by omega
  have z4 : ¬ 9223372036854775807 < ds.length + 1 + c.size + 1 + r.size := by omega
  go_enter Tryz.func142, Tryz.ntmps142
  go_wp2
  go_quiet (first | (go_at_call 101; exact Calls.quiet_of (HN.out _)) | (go_at_call 164; exact Calls.quiet_of (HL.out _)))
  go_wp2
  go_ret
  exact ⟨by rw [← HS.out]; rfl, hB.trans ⟨rfl, rfl, rfl, Nat.le_refl _, fun _ _ => rfl⟩⟩

/-- The table of powers of ten lies as the program lays it. -/
abbrev TabOk (w : World) : Prop := Go.Lib.TabIs Tryz.prog w "internal/strconv.uint64pow10" .u64 Go.Lib.pow10Tab
theorem tabNo : ∃ g, Tryz.prog.globalNamed "internal/strconv.uint64pow10" = some g := ⟨0, by kernel_rfl⟩
theorem TabOk.below {w w' : World} (h : TabOk w) (hb : Below w.heap.size w w') : TabOk w' := by
  obtain ⟨g, hg⟩ := tabNo
  exact Go.Joins.tab_stays hg h hb (Nat.le_refl _)
theorem itoa_any (n : Int) (h0 : 0 ≤ n) (h1 : n ≤ 1000000000) (w : World) (ht : TabOk w) :
    Calls Tryz.prog 75 #[.int .i64 n] w fun e w' => e = .returned (.string (mk (digs n.toNat))) ∧ Below w.heap.size w w' := by
  refine (Tryz.strconv_Itoa n (by omega) (by omega) w ht).mono ?_
  rintro e w' ⟨rfl, k, os, rfl⟩
  refine ⟨?_, Go.Lib.below_grow _ _ (Nat.le_refl _) k os⟩
  rw [show Go.Lib.itoa n = digs n.toNat from by unfold Go.Lib.itoa; rw [if_neg (by omega)]]

set_option maxHeartbeats 1600000 in
theorem appCheck_any (s : ByteArray) (w : World) (hs : s.size ≤ 3000) (hh : standsL s.data.toList 35 = false) (ht : TabOk w) :
    Calls Tryz.prog 152 #[.string s] w fun e w' => e = .returned (.tuple #[.string (mk (sealL s.data.toList)), .bool true]) ∧ Below w.heap.size w w' := by
  have hb := sumL_bd s.data.toList
  have hd := digs_len 5 (sumL s.data.toList).toNat (by omega)
  have HC := Lib.hid (itoa_any (sumL s.data.toList) hb.1 (by omega) w ht)
  have HE := Lib.hid (seal_str s)
  have HS := Lib.hid (fun w => checksum_any s w (by unfold maxLen; omega))
  have H5 := Lib.hid (stands_index s.data.toList 35)
  rw [hh] at H5
  generalize sumL s.data.toList = x at *
  generalize digs x.toNat = ds at *
  have z0 : ¬ (4000 : Int) < (s.size : Int) := by omega
  have z1 : ¬ (4000 : Int) < ((s.size + 1 + ds.length : Nat) : Int) := by omega
  have z2 : s.size + 1 + ds.length ≤ 4000 := by omega
  go_enter Tryz.func152, Tryz.ntmps152
  go_wp2_with (first | (go_at_call 151; refine (Tryz.strings_Contains_one _ 35 _).mono ?_; rintro e w' ⟨rfl, rfl⟩; rw [H5.out]) | (go_at_call 178; refine (HS.out _).mono ?_; rintro e w' ⟨rfl, rfl⟩) | (go_at_call 75; refine (HC.out).mono ?_; rintro e w1 ⟨rfl, b1⟩))
  go_ret2
  exact ⟨by rw [← HE.out]; rfl, b1⟩

end Go.Proofs.YtonpcgdnfclidaaGreatDoor
namespace Go.Proofs.YtonpcgdnfclidaaGreatDoor
open Go.RowKit

set_option maxHeartbeats 1600000 in
set_option maxRecDepth 100000 in
theorem encodeRec_any (k : Nat) (hk : k ≤ 99) (c r : ByteArray) (hok : recOk c r = true) (w : World) (ht : TabOk w) :
    Calls Tryz.prog 128 #[.int .i64 k, .agg #[.string c, .string r]] w fun e w' => e = .returned (.string (mk (lineL k c.data.toList r.data.toList))) ∧ Below w.heap.size w w' := by
  have hB := (Below.refl w.heap.size w).alloc (Nat.le_refl _) (.cells #[.string c, .string r] 139)
  obtain ⟨_, hc, hr, _⟩ := recOk_parts hok
  have hd := digs_len 1 k (by omega)
  have hbl := bodyL_len k c.data.toList r.data.toList
  rw [← size_data, ← size_data] at hbl
  have hsl := sealL_len (bodyL k c.data.toList r.data.toList)
  have HT := Lib.hid ht
  have HL : Hid (∀ w', Below w.heap.size w w' → Calls Tryz.prog 152 #[.string (mk (digs k) ++ ⟨#[32]⟩ ++ c ++ ⟨#[64]⟩ ++ r)] w' fun e w'' => e = .returned (.tuple #[.string (mk (sealL (bodyL k c.data.toList r.data.toList))), .bool true]) ∧ Below w'.heap.size w' w'') := fun w' hb => by
    have := appCheck_any (mk (bodyL k c.data.toList r.data.toList)) w' (by rw [mk_size]; omega) (by rw [data_mk]; exact body_hash hok) (HT.out.below hb)
    rw [show (mk (digs k) ++ ⟨#[32]⟩ ++ c ++ ⟨#[64]⟩ ++ r : ByteArray) = mk (bodyL k c.data.toList r.data.toList) from line_str k c r]
    rw [data_mk] at this
    exact this
  have HI : Hid (∀ w, Calls Tryz.prog 75 #[.int .i64 k] w fun e w' => e = .returned (.string (mk (digs k))) ∧ w' = w) := fun w => Tryz.strconv_Itoa_small k (by omega) w
  have HS := Lib.hid (show mk (sealL (bodyL k c.data.toList r.data.toList)) ++ mk [10] = mk (lineL k c.data.toList r.data.toList) from by rw [mk_append]; rfl)
  have z5 : ¬ 9223372036854775807 < (sealL (bodyL k c.data.toList r.data.toList)).length + 1 := by omega
  generalize sealL (bodyL k c.data.toList r.data.toList) = sl at *
  generalize lineL k c.data.toList r.data.toList = ll at *
  clear hbl hsl hok ht
  generalize digs k = ds at *
  have z1 : ¬ 9223372036854775807 < ds.length + 1 := by omega
  have z2 : ¬ 9223372036854775807 < ds.length + 1 + c.size := by omega
  have z3 : ¬ 9223372036854775807 < ds.length + 1 + c.size + 1 := by omega
  have z4 : ¬ 9223372036854775807 < ds.length + 1 + c.size + 1 + r.size := by omega
  have hsz : w.heap.size ≤ (w.alloc (.cells #[.string c, .string r] 139)).drew.heap.size := by simp
  go_enter Tryz.func128, Tryz.ntmps128
  go_wp2
  go_region_with (first | (go_at_call 75; refine (HI.out _).mono ?_; rintro e w' ⟨rfl, rfl⟩) | (go_at_call 152; refine (HL.out _ hB.drew).mono ?_; rintro e w1 ⟨rfl, b1⟩))
  all_goals (go_wp2; go_ret; exact ⟨by rw [← HS.out]; rfl, hB.drew.trans (b1.mono hsz)⟩)
end Go.Proofs.YtonpcgdnfclidaaGreatDoor
namespace Go.Proofs.YtonpcgdnfclidaaGreatDoor
open Go.RowKit

theorem Tryz.infoStr : (Tryz.prog.info? 9).map (fun i => (i.zero, i.size, i.bytes)) = some (some (.string ⟨#[]⟩), 1, 16) := by kernel_rfl
theorem Tryz.infoRec : (Tryz.prog.info? 139).map (fun i => (i.zero, i.size, i.bytes)) = some (some (.agg #[.string ⟨#[]⟩, .string ⟨#[]⟩]), 2, 32) := by kernel_rfl

theorem wpList_pushCells {P : Program} {ops : Array Oper} {rest : List Oper} {o : Oper} {a : Act} {Q : Exit → Act → World → Prop} {wr : World} (hgd : o.guard = none) (s x : Operand) (T : TypeId)
    (ho : o.op = .call { callee := .builtin .append, args := #[s, x], argTypes := #[T, T] }) (e : TypeId) (z : Value) (size bytes : Nat) (ht : P.underlying T = some (.slice e))
    (hinfo : (P.info? e).map (fun i => (i.zero, i.size, i.bytes)) = some (some z, size, bytes)) (hzs : z.cells.size = size) (hsz : 0 < size) (hby : bytes ≤ 1000)
    (base : Nat) (v : Value) (n : Nat) (xs : List Value) (hs : a.eval s = v) (hown : wr.ownsRow base e size v n xs) (news : Array Value) (hl : news.size = size) (h1 : ∀ u ∈ news.toList, u.oneCell' = true)
    {b : Nat} (hx : a.eval x = .slice (some ⟨b, 0, none⟩) 1 1) (hb : b = wr.heap.size) (hn : n ≤ 10000000) (hbase : base ≤ wr.heap.size)
    (h : ∀ v' w', w'.ownsRow base e size v' (n + 1) (xs ++ news.toList) → wr.grownBy w' v.ownBlock → wpList P ops Q rest (a.put o.dst v') w') :
    wpList P ops Q (o :: rest) a (wr.alloc (.cells news e)) := by
  subst hb
  obtain ⟨i0, hi, hz0, hz1, hz2⟩ := info_parts hinfo
  refine wpList_append_own _ hgd s x T ho base e i0 z size bytes ht hi hz0 hz1 hz2 hzs hsz v n xs hs (hown.alloc _) ⟨wr.heap.size, 0, none⟩ 1 1 news.toList hx (by simp [hl]) ?_ h1 (by unfold maxLen; omega) ?_ (by simp; omega) ?_
  · intro j u hu
    have e1 : (⟨wr.heap.size, 0, none⟩ : Addr).add j = ⟨wr.heap.size, j, none⟩ := by unfold Addr.add; split <;> simp_all
    rw [e1, cell_of_row _ _ _ _ _ _ (heap_alloc_new wr _)]
    simpa using hu
  · have : (n + 1) * bytes ≤ (n + 1) * 1000 := Nat.mul_le_mul_left _ hby
    omega
  · intro v' w' g1 g2 _
    exact h v' w' g1 ((World.grownBy_alloc _ _ _).trans' g2)
theorem row_ne {w : World} {base base' : Nat} {e e' : TypeId} {size size' n n' : Nat} {v v' : Value} {xs xs' : List Value} (hne : e ≠ e') (h : w.ownsRow base e size v n xs) (h' : w.ownsRow base' e' size' v' n' xs') :
    ∀ k, v.ownBlock = some k → v'.ownBlock = some k → False := by
  intro k hk hk'
  rcases h.2 with ⟨rfl, _⟩ | ⟨g, cap, cur, rfl, _, h2, _⟩
  · simp [Value.ownBlock] at hk
  · rcases h'.2 with ⟨rfl, _⟩ | ⟨g', cap', cur', rfl, _, h2', _⟩
    · simp [Value.ownBlock] at hk'
    · simp only [Value.ownBlock, Option.some.injEq] at hk hk'
      subst hk
      subst hk'
      rw [h2] at h2'
      simp only [Option.some.injEq, Obj.cells.injEq] at h2'
      exact hne h2'.2.1
theorem row_kept {w w' : World} {base : Nat} {e : TypeId} {size : Nat} {v : Value} {n : Nat} {xs : List Value} (h : w.ownsRow base e size v n xs) (hk : ∀ k, v.ownBlock = some k → w'.heap[k]? = w.heap[k]?) : w'.ownsRow base e size v n xs := by
  refine ⟨h.1, ?_⟩
  rcases h.2 with h | ⟨g, cap, cur, rfl, h1, h2, h3⟩
  · exact .inl h
  · exact .inr ⟨g, cap, cur, rfl, h1, by rw [hk g rfl]; exact h2, h3⟩
theorem row_below {w w' : World} {base : Nat} {e : TypeId} {size : Nat} {v : Value} {n : Nat} {xs : List Value} (h : w.ownsRow base e size v n xs) (hb : Below w.heap.size w w') : w'.ownsRow base e size v n xs :=
  row_kept h fun k hk => hb.block k (h.lt k hk).2
theorem below_row {B base : Nat} {u w w' : World} {v : Value} {n size : Nat} {xs : List Value} {e : TypeId} (hb : Below B u w) (hown : w.ownsRow base e size v n xs) (hg : w.grownBy w' v.ownBlock) (hB : B ≤ base) (hB2 : B ≤ w.heap.size) : Below B u w' :=
  hb.grown hg hB2 fun k hk => by have := (hown.lt k hk).1; omega
theorem ext_take (s : ByteArray) (n : Nat) : s.extract 0 n = mk (s.data.toList.take n) := ba_ext (by simp [ByteArray.data_extract])
theorem ext_drop (s : ByteArray) (n : Nat) : s.extract n s.size = mk (s.data.toList.drop n) := ba_ext (by
  have e : List.take (s.size - n) (List.drop n s.data.toList) = List.drop n s.data.toList := List.take_of_length_le (by simp)
  simpa [ByteArray.data_extract] using e)
theorem below_drewN {B : Nat} {a w : World} (h : Below B a w) (n : Nat) : Below B a (w.drewN n) := h.trans ⟨rfl, rfl, rfl, Nat.le_refl _, fun _ _ => rfl⟩
end Go.Proofs.YtonpcgdnfclidaaGreatDoor
namespace Go.Proofs.YtonpcgdnfclidaaGreatDoor
open Go.RowKit

/-- The library's MaxLen is a number. -/
def MaxOk (w : World) : Prop := ∃ m : Int, w.cell? ⟨1, 0, none⟩ = some (.int .i64 m)
theorem MaxOk.below {w w' : World} (h : MaxOk w) (hb : Below w.heap.size w w') : MaxOk w' := by
  obtain ⟨m, hm⟩ := h
  exact ⟨m, by rw [hb.cell (p := ⟨1, 0, none⟩) (World.block_lt_of_cell? w _ hm)]; exact hm⟩
theorem MaxOk.drewN {w : World} (h : MaxOk w) (n : Nat) : MaxOk (w.drewN n) := h
theorem TabOk.drewN {w : World} (h : TabOk w) (n : Nat) : TabOk (w.drewN n) := h
theorem cut_any (s : ByteArray) (b : UInt8) (w : World) (hs : s.size < 4294967281) (hm : MaxOk w) :
    Calls Tryz.prog 126 #[.string s, .string ⟨#[b]⟩] w fun e w' => e = .returned (.tuple #[.string (mk (bef b s.data.toList)), .string (mk (aft b s.data.toList)), .bool (hasB b s.data.toList)]) ∧ ∃ n, w' = w.drewN n := by
  obtain ⟨m, hm⟩ := hm
  refine (Tryz.strings_Cut s ⟨#[b]⟩ m w hs hm).mono ?_
  rintro e w' ⟨rfl, h⟩
  have e : Go.Lib.cut s.data.toList (⟨#[b]⟩ : ByteArray).data.toList = (bef b s.data.toList, aft b s.data.toList, hasB b s.data.toList) := cut_one _ _
  rw [e]
  exact ⟨rfl, h⟩
theorem aft_len (b : UInt8) (l : L) : (aft b l).length ≤ l.length := by rw [aft_drop, List.length_drop]; omega

def RdPost (w : World) (s : L) (k : Nat) (e : Ending) (w' : World) : Prop :=
  Below w.heap.size w w' ∧ ((∃ c r, rdR s k = some (c, r) ∧ e = .returned (.tuple #[.agg #[.string (mk c), .string (mk r)], .int .i64 (((bef 10 s).length : Int) + 1), .bool true])) ∨
    (rdR s k = none ∧ ∃ x y : ByteArray, e = .returned (.tuple #[.agg #[.string x, .string y], .int .i64 0, .bool false])))
theorem rd_no {s : L} {k : Nat} (h : hasB 10 s = false ∨ ¬ k < 60 ∨ pI k (bef 10 s) = none) : rdR s k = none := by
  unfold rdR
  split
  · rename_i hh
    rcases h with h | h | h
    · rw [h] at hh; simp at hh
    · exact absurd hh.2 h
    · exact h
  · rfl
theorem pI_no {k : Nat} {line : L} (h : ¬ (recOk (mk (bef 64 (aft 32 (bef 35 line)))) (mk (aft 64 (aft 32 (bef 35 line)))) = true ∧ lineL k (bef 64 (aft 32 (bef 35 line))) (aft 64 (aft 32 (bef 35 line))) = line ++ [10])) : pI k line = none := by
  unfold pI; simp only; rw [if_neg h]
theorem pI_yes {k : Nat} {line : L} (h1 : recOk (mk (bef 64 (aft 32 (bef 35 line)))) (mk (aft 64 (aft 32 (bef 35 line)))) = true) (h2 : lineL k (bef 64 (aft 32 (bef 35 line))) (aft 64 (aft 32 (bef 35 line))) = line ++ [10]) :
    pI k line = some (bef 64 (aft 32 (bef 35 line)), aft 64 (aft 32 (bef 35 line))) := by
  unfold pI; simp only; rw [if_pos ⟨h1, h2⟩]

set_option maxHeartbeats 3200000 in
set_option maxRecDepth 100000 in
theorem readRecord_any (s : ByteArray) (k : Nat) (hs : s.size ≤ 4294960000) (hk : k ≤ 1000) (w : World) (ht : TabOk w) (hm : MaxOk w) :
    Calls Tryz.prog 93 #[.string s, .int .i64 k] w (RdPost w s.data.toList k) := by
  obtain ⟨sl, hsl⟩ : ∃ l, s.data.toList = l := ⟨_, rfl⟩
  have hs' : sl.length ≤ 4294960000 := by rw [← hsl, ← size_data]; exact hs
  have HSL := Lib.hid hsl
  clear hsl
  rw [HSL.out]
  obtain ⟨ln, hln⟩ : ∃ l, bef 10 sl = l := ⟨_, rfl⟩
  obtain ⟨tx, htx⟩ : ∃ l, bef 35 ln = l := ⟨_, rfl⟩
  obtain ⟨rs, hrs⟩ : ∃ l, aft 32 tx = l := ⟨_, rfl⟩
  obtain ⟨c, hc⟩ : ∃ l, bef 64 rs = l := ⟨_, rfl⟩
  obtain ⟨r, hr⟩ : ∃ l, aft 64 rs = l := ⟨_, rfl⟩
  have l1 : ln.length ≤ 4294960000 := by have := bef_len 10 sl; rw [hln] at this; omega
  have l2 : tx.length ≤ 4294960000 := by have := bef_len 35 ln; rw [htx] at this; omega
  have l3 : rs.length ≤ 4294960000 := by have := aft_len 32 tx; rw [hrs] at this; omega
  have l4 : c.length ≤ 4294960000 := by have := bef_len 64 rs; rw [hc] at this; omega
  have l5 : r.length ≤ 4294960000 := by have := aft_len 64 rs; rw [hr] at this; omega
  have K1 : Hid (∀ w, MaxOk w → Calls Tryz.prog 126 #[.string s, .string ⟨#[10]⟩] w fun e w' => e = .returned (.tuple #[.string (mk ln), .string (mk (aft 10 sl)), .bool (hasB 10 sl)]) ∧ ∃ n, w' = w.drewN n) := fun w hm => by
    have := cut_any s 10 w (by omega) hm
    rw [HSL.out, hln] at this; exact this
  have K2 : Hid (∀ w, MaxOk w → Calls Tryz.prog 126 #[.string (mk ln), .string ⟨#[35]⟩] w fun e w' => e = .returned (.tuple #[.string (mk tx), .string (mk (aft 35 ln)), .bool (hasB 35 ln)]) ∧ ∃ n, w' = w.drewN n) := fun w hm => by
    have := cut_any (mk ln) 35 w (by rw [mk_size]; omega) hm
    rw [data_mk, htx] at this; exact this
  have K3 : Hid (∀ w, MaxOk w → Calls Tryz.prog 126 #[.string (mk tx), .string ⟨#[32]⟩] w fun e w' => e = .returned (.tuple #[.string (mk (bef 32 tx)), .string (mk rs), .bool (hasB 32 tx)]) ∧ ∃ n, w' = w.drewN n) := fun w hm => by
    have := cut_any (mk tx) 32 w (by rw [mk_size]; omega) hm
    rw [data_mk, hrs] at this; exact this
  have K4 : Hid (∀ w, MaxOk w → Calls Tryz.prog 126 #[.string (mk rs), .string ⟨#[64]⟩] w fun e w' => e = .returned (.tuple #[.string (mk c), .string (mk r), .bool (hasB 64 rs)]) ∧ ∃ n, w' = w.drewN n) := fun w hm => by
    have := cut_any (mk rs) 64 w (by rw [mk_size]; omega) hm
    rw [data_mk, hc, hr] at this; exact this
  have HNO := Lib.hid (fun h => rd_no (s := sl) (k := k) h)
  rw [hln] at HNO
  have HPN := Lib.hid (fun h => pI_no (k := k) (line := ln) h)
  have HPY := Lib.hid (fun h1 h2 => pI_yes (k := k) (line := ln) h1 h2)
  rw [htx, hrs, hc, hr] at HPN HPY
  have HLN := Lib.hid hln
  clear hln htx hrs hc hr
  have hb0 : Below w.heap.size w (w.alloc (.cells #[.string ⟨#[]⟩, .string ⟨#[]⟩] 139)) := (Below.refl _ _).alloc (Nat.le_refl _) _
  have HMW := Lib.hid (fun w' (hb : Below w.heap.size w w') => hm.below hb)
  have HTW := Lib.hid (fun w' (hb : Below w.heap.size w w') => ht.below hb)
  clear ht hm
  go_enter Tryz.func93, Tryz.ntmps93
  go_wp2_with fail
  refine (K1.out _ (HMW.out _ hb0)).mono ?_
  rintro e w1 ⟨rfl, n1, rfl⟩
  have hb1 := below_drewN hb0 n1
  go_wp2_with fail
  refine (K2.out _ (HMW.out _ hb1)).mono ?_
  rintro e w1 ⟨rfl, n2, rfl⟩
  have hb2 := below_drewN hb0 (n1 + n2)
  go_wp2_with fail
  refine (K3.out _ (HMW.out _ hb2)).mono ?_
  rintro e w1 ⟨rfl, n3, rfl⟩
  have hb3 := below_drewN hb0 (n1 + n2 + n3)
  go_wp2_with fail
  refine (K4.out _ (HMW.out _ hb3)).mono ?_
  rintro e w1 ⟨rfl, n4, rfl⟩
  have hb4 := below_drewN hb0 (n1 + n2 + n3 + n4)
  have hst : Below w.heap.size w (((((w.alloc (.cells #[.string ⟨#[]⟩, .string ⟨#[]⟩] 139)).drewN (n1 + n2 + n3 + n4)).setCell ⟨w.heap.size, 0, none⟩ (.string ⟨#[]⟩)).setCell ⟨w.heap.size, 1, none⟩ (.string ⟨#[]⟩)).alloc (.cells #[.string (mk c), .string (mk r)] 139)) :=
    ((hb4.setCell (p := ⟨w.heap.size, 0, none⟩) (Nat.le_refl _) _).setCell (p := ⟨w.heap.size, 1, none⟩) (Nat.le_refl _) _).alloc (by simp) _
  cases hf : hasB 10 sl
  · have HN := Lib.hid (HNO.out (.inl hf))
    have HST := Lib.hid hst
    clear hst
    go_wp2
    exact bodyPost_ret (v := .tuple #[.agg #[.string ⟨#[]⟩, .string ⟨#[]⟩], .int .i64 0, .bool false]) (by simp [results, Tryz.results93, go_sem]) rfl ⟨HST.out, .inr ⟨HN.out, _, _, rfl⟩⟩
  by_cases hk6 : k < 60
  case neg =>
    have HN := Lib.hid (HNO.out (.inr (.inl hk6)))
    have hkI : (60 : Int) ≤ (k : Int) := by omega
    have HST := Lib.hid hst
    clear hst
    go_wp2
    exact bodyPost_ret (v := .tuple #[.agg #[.string ⟨#[]⟩, .string ⟨#[]⟩], .int .i64 0, .bool false]) (by simp [results, Tryz.results93, go_sem]) rfl ⟨HST.out, .inr ⟨HN.out, _, _, rfl⟩⟩
  have hkI : ¬ (60 : Int) ≤ (k : Int) := by omega
  clear hst
  have hz1 : ((w.alloc (.cells #[.string ⟨#[]⟩, .string ⟨#[]⟩] 139)).drewN (n1 + n2 + n3 + n4)).heap.size = w.heap.size + 1 := by simp
  have hB5 : Below w.heap.size w (((w.alloc (.cells #[.string ⟨#[]⟩, .string ⟨#[]⟩] 139)).drewN (n1 + n2 + n3 + n4)).alloc (.cells #[.string (mk c), .string (mk r)] 139)) := hb4.alloc (by simp) _
  have hcells : ∀ w6, Below (w.heap.size + 2) (((w.alloc (.cells #[.string ⟨#[]⟩, .string ⟨#[]⟩] 139)).drewN (n1 + n2 + n3 + n4)).alloc (.cells #[.string (mk c), .string (mk r)] 139)) w6 →
      w6.cell? ⟨w.heap.size, 0, none⟩ = some (.string ⟨#[]⟩) ∧ w6.cell? ⟨w.heap.size, 1, none⟩ = some (.string ⟨#[]⟩) ∧ w6.frozen? ⟨w.heap.size, 0, none⟩ = false ∧ w6.frozen? ⟨w.heap.size, 1, none⟩ = false ∧
      w6.cell? ⟨w.heap.size + 1, 0, none⟩ = some (.string (mk c)) ∧ w6.cell? ⟨w.heap.size + 1, 1, none⟩ = some (.string (mk r)) := fun w6 hb => by
    have g0 : w6.heap[w.heap.size]? = some (.cells #[.string ⟨#[]⟩, .string ⟨#[]⟩] 139 (0, 0)) := by
      rw [hb.block _ (by omega), heap_alloc_old _ _ (by rw [hz1]; omega)]
      exact heap_alloc_new w _
    have g1 : w6.heap[w.heap.size + 1]? = some (.cells #[.string (mk c), .string (mk r)] 139 (0, 0)) := by
      rw [hb.block _ (by omega)]
      have := heap_alloc_new ((w.alloc (.cells #[.string ⟨#[]⟩, .string ⟨#[]⟩] 139)).drewN (n1 + n2 + n3 + n4)) (.cells #[.string (mk c), .string (mk r)] 139)
      rw [hz1] at this
      exact this
    refine ⟨?_, ?_, frozen_of_row _ _ _ _ _ g0, frozen_of_row _ _ _ _ _ g0, ?_, ?_⟩
    · rw [cell_of_row _ _ _ _ _ _ g0]; rfl
    · rw [cell_of_row _ _ _ _ _ _ g0]; rfl
    · rw [cell_of_row _ _ _ _ _ _ g1]; rfl
    · rw [cell_of_row _ _ _ _ _ _ g1]; rfl
  have HC := Lib.hid hcells
  have HB5 := Lib.hid hB5
  have hs5 : (((w.alloc (.cells #[.string ⟨#[]⟩, .string ⟨#[]⟩] 139)).drewN (n1 + n2 + n3 + n4)).alloc (.cells #[.string (mk c), .string (mk r)] 139)).heap.size = w.heap.size + 2 := by simp
  have HS5 := Lib.hid hs5
  clear hcells hB5 hz1 hs5
  have HREC := Lib.hid (fun w => implIsRec_any (mk c) (mk r) w (by rw [mk_size]; unfold maxLen; omega) (by rw [mk_size]; unfold maxLen; omega))
  cases hok : recOk (mk c) (mk r)
  · have HN := Lib.hid (HNO.out (.inr (.inr (HPN.out (by rw [hok]; simp)))))
    rw [hok] at HREC
    go_wp2_with fail
    refine (HREC.out _).mono ?_
    rintro e w6 ⟨rfl, b6⟩
    rw [HS5.out] at b6
    obtain ⟨q1, q2, q3, q4, q5, q6⟩ := HC.out w6 b6
    have hbf := Lib.hid (((HB5.out.trans (b6.mono (by omega))).setCell (p := ⟨w.heap.size, 0, none⟩) (Nat.le_refl _) (.string ⟨#[]⟩)).setCell (p := ⟨w.heap.size, 1, none⟩) (Nat.le_refl _) (.string ⟨#[]⟩))
    clear b6
    go_wp2
    exact bodyPost_ret (v := .tuple #[.agg #[.string ⟨#[]⟩, .string ⟨#[]⟩], .int .i64 0, .bool false]) (by simp [results, Tryz.results93, go_sem, q1, q2]) rfl ⟨hbf.out, .inr ⟨HN.out, _, _, rfl⟩⟩
  have HENC := Lib.hid (fun w ht => encodeRec_any k (by omega) (mk c) (mk r) hok w ht)
  rw [data_mk, data_mk] at HENC
  rw [hok] at HREC
  have HOK := Lib.hid hok
  clear hok
  generalize hll : lineL k c r = ll at *
  go_wp2_with fail
  refine (HREC.out _).mono ?_
  rintro e w6 ⟨rfl, b6⟩
  rw [HS5.out] at b6
  obtain ⟨q1, q2, q3, q4, q5, q6⟩ := HC.out w6 b6
  have B6 := HB5.out.trans (b6.mono (by omega))
  go_wp2_with fail
  refine (HENC.out _ (HTW.out _ B6)).mono ?_
  rintro e w7 ⟨rfl, b7⟩
  have hs6 : w.heap.size + 2 ≤ w6.heap.size := by have := b6.size; rw [HS5.out] at this; exact this
  obtain ⟨p1, p2, p3, p4, p5, p6⟩ := HC.out w7 (b6.trans (b7.mono hs6))
  have hb7 := B6.trans (b7.mono (by omega))
  have HB7 := Lib.hid hb7
  have z1 : ¬ 9223372036854775807 < ln.length + 1 := by omega
  have z2 : (mk ln ++ ⟨#[10]⟩ : ByteArray).toList = ln ++ [10] := by rw [ByteArray.toList_eq, data_append]
  clear b6 b7 B6 hb7 q1 q2 q3 q4 q5 q6
  by_cases heq : ll = ln ++ [10]
  · have HPK := Lib.hid (HPY.out HOK.out heq)
    have HYES := Lib.hid (show rdR sl k = some (c, r) from by unfold rdR; rw [if_pos ⟨hf, hk6⟩, HLN.out]; exact HPK.out)
    have HLE := Lib.hid (show ((bef 10 sl).length : Int) = (ln.length : Int) from by rw [HLN.out])
    have hc1 : (ll == ln ++ [10]) = true := by simpa using heq
    have hc2 : (ll != ln ++ [10]) = false := by simpa using heq
    have hbf := Lib.hid ((HB7.out.setCell (p := ⟨w.heap.size, 0, none⟩) (Nat.le_refl _) (.string (mk c))).setCell (p := ⟨w.heap.size, 1, none⟩) (Nat.le_refl _) (.string (mk r)))
    clear hll heq HPK
    go_wp2
    exact bodyPost_ret (v := .tuple #[.agg #[.string (mk c), .string (mk r)], .int .i64 ((ln.length : Int) + 1), .bool true]) (by simp [results, Tryz.results93, go_sem, p1, p2]) rfl ⟨hbf.out, .inl ⟨c, r, HYES.out, by rw [HLE.out]⟩⟩
  · have HPK := Lib.hid (HPN.out (fun h => heq h.2))
    have HN := Lib.hid (HNO.out (.inr (.inr HPK.out)))
    have hc1 : (ll == ln ++ [10]) = false := by simpa using heq
    have hc2 : (ll != ln ++ [10]) = true := by simpa using heq
    have hbf := Lib.hid ((HB7.out.setCell (p := ⟨w.heap.size, 0, none⟩) (Nat.le_refl _) (.string ⟨#[]⟩)).setCell (p := ⟨w.heap.size, 1, none⟩) (Nat.le_refl _) (.string ⟨#[]⟩))
    clear hll heq HPK
    go_wp2
    exact bodyPost_ret (v := .tuple #[.agg #[.string ⟨#[]⟩, .string ⟨#[]⟩], .int .i64 0, .bool false]) (by simp [results, Tryz.results93, go_sem, p1, p2]) rfl ⟨hbf.out, .inr ⟨HN.out, _, _, rfl⟩⟩
end Go.Proofs.YtonpcgdnfclidaaGreatDoor
namespace Go.Proofs.YtonpcgdnfclidaaGreatDoor
open Go.RowKit

/-- A list of records, as cells; the places where records end, as cells. -/
def recC (o : List (L × L)) : List Value := o.flatMap fun q => [.string (mk q.1), .string (mk q.2)]
theorem recC_snoc (o : List (L × L)) (q : L × L) : recC (o ++ [q]) = recC o ++ [.string (mk q.1), .string (mk q.2)] := by simp [recC]
/-- The places where the records end: the same reading, once more. -/
def goE (s : L) : Nat → List (L × L) → Nat → List Int → List Int
  | 0, _, _, e => e
  | f + 1, o, n, e => match rdR (s.drop n) o.length with
    | some q => goE s f (o ++ [q]) (n + (bef 10 (s.drop n)).length + 1) (e ++ [((n + (bef 10 (s.drop n)).length + 1 : Nat) : Int)])
    | none => e
def finE (s : L) : List Int := goE s 61 [] 0 [0]
theorem goE_none {s : L} {f n : Nat} {o : List (L × L)} {e : List Int} (h : rdR (s.drop n) o.length = none) : goE s f o n e = e := by
  cases f with
  | zero => rfl
  | succ f => rw [goE, h]
theorem goE_some {s : L} {n : Nat} {o : List (L × L)} {e : List Int} {q : L × L} (hl : o.length < 60) (h : rdR (s.drop n) o.length = some q) :
    goE s (61 - o.length) o n e = goE s (61 - (o ++ [q]).length) (o ++ [q]) (n + (bef 10 (s.drop n)).length + 1) (e ++ [((n + (bef 10 (s.drop n)).length + 1 : Nat) : Int)]) := by
  rw [List.length_append, show 61 - o.length = (61 - (o.length + [q].length)) + 1 by simp; omega, goE, h]

def RrPost (w : World) (s : L) (e : Ending) (w' : World) : Prop :=
  ∃ v1 v2, e = .returned (.tuple #[v1, v2]) ∧ w'.ownsRow w.heap.size 139 2 v1 (finR s).1.length (recC (finR s).1) ∧ w'.ownsRow w.heap.size 3 1 v2 (finE s).length (ints (finE s)) ∧
    (finE s).length = (finR s).1.length + 1 ∧ (finE s)[(finR s).1.length]?.getD 0 = ((finR s).2 : Int) ∧ (finR s).2 ≤ s.length ∧ (finR s).1.length ≤ 60 ∧ Below w.heap.size w w'
set_option maxHeartbeats 3200000 in
set_option maxRecDepth 100000 in
theorem readRecords_any (s : ByteArray) (hs : s.size ≤ 4294960000) (w : World) (ht : TabOk w) (hm : MaxOk w) :
    Calls Tryz.prog 63 #[.string s] w (RrPost w s.data.toList) := by
  have hs' : s.data.toList.length ≤ 4294960000 := by rw [← size_data]; exact hs
  have HMW := Lib.hid (fun w' (hb : Below w.heap.size w w') => hm.below hb)
  have HTW := Lib.hid (fun w' (hb : Below w.heap.size w w') => ht.below hb)
  have HXD := Lib.hid (ext_drop s)
  have HSZ := Lib.hid (size_data s)
  obtain ⟨sl, hsl⟩ : ∃ l, s.data.toList = l := ⟨_, rfl⟩
  rw [hsl] at hs' HXD HSZ ⊢
  clear ht hm hsl
  have h0 : (w.alloc (.cells #[] 139)).ownsRow w.heap.size 139 2 (.slice (some ⟨w.heap.size, 0, none⟩) 0 0) 0 (recC []) :=
    World.ownsRow_lit (base := w.heap.size) (e := 139) (size := 2) w #[] 0 (Nat.le_refl _) (by simp) rfl
  have hb1 : Below w.heap.size w (w.alloc (.cells #[] 139)) := (Below.refl _ _).alloc (Nat.le_refl _) _
  have hsz1 : (w.alloc (.cells #[] 139)).heap.size = w.heap.size + 1 := by simp
  have h1 : ((w.alloc (.cells #[] 139)).alloc (.cells #[.int .i64 0] 3)).ownsRow w.heap.size 3 1 (.slice (some ⟨(w.alloc (.cells #[] 139)).heap.size, 0, none⟩) 1 1) 1 (ints [0]) :=
    World.ownsRow_lit (base := w.heap.size) (e := 3) (size := 1) (w.alloc (.cells #[] 139)) #[.int .i64 0] 1 hb1.size (by unfold maxLen; omega) rfl
  rw [hsz1] at h1
  have h0' := row_below h0 ((Below.refl _ _).alloc (Nat.le_refl _) (.cells #[.int .i64 0] 3))
  have hb2 : Below w.heap.size w ((w.alloc (.cells #[] 139)).alloc (.cells #[.int .i64 0] 3)) := hb1.alloc hb1.size _
  go_enter Tryz.func63, Tryz.ntmps63
  go_wp2
  go_loopw [4, 5, 6] (fun o e a wr => ∃ (rs : List (L × L)) (n m : Nat) (es : List Int), Hid (rs.length = m) ∧ m ≤ 60 ∧ n ≤ s.size ∧ a = .int .i64 n ∧ Hid (finR sl = goR sl (61 - m) rs n) ∧ Hid (finE sl = goE sl (61 - m) rs n es) ∧ Hid (es.length = m + 1) ∧ Hid (es[m]?.getD 0 = (n : Int)) ∧
      wr.ownsRow w.heap.size 139 2 o m (recC rs) ∧ wr.ownsRow w.heap.size 3 1 e (m + 1) (ints es) ∧ Hid (Below w.heap.size w wr)) (fun _ _ a _ => s.size - (intOf a).toNat)
  case atStart => exact ⟨[], 0, 0, [0], rfl, by omega, by omega, rfl, rfl, rfl, rfl, rfl, h0', h1, hb2⟩
  case round =>
    obtain ⟨rs, n, m, es, HM, hm60, hn, rfl, HR, HE, HEL, HEN, ho, he, HB⟩ := hrel
    have hlt := ho.lt
    obtain ⟨ao, co, rfl⟩ : ∃ a c, u4 = .slice a m c := by
      rcases ho.2 with ⟨h, h2⟩ | ⟨g, cap, cur, h, _⟩
      · exact ⟨none, 0, by rw [h, h2]⟩
      · exact ⟨_, _, h⟩
    have hsz : w.heap.size ≤ wr.heap.size := HB.out.size
    have hnI : (n : Int) ≤ (s.size : Int) := by omega
    have hRD := readRecord_any (s.extract n s.size) m (by rw [HXD.out, mk_size, List.length_drop]; omega) (by omega) wr (HTW.out _ HB.out) (HMW.out _ HB.out)
    rw [HXD.out, data_mk] at hRD
    have HBL := Lib.hid (fun h : hasB 10 (sl.drop n) = true => has_len h)
    go_wp2_with fail
    rw [HXD.out]
    refine hRD.mono ?_
    rintro e w2 ⟨b2, (⟨c, r, hr, rfl⟩ | ⟨hr, x, y, rfl⟩)⟩
    · obtain ⟨hhas, hm6⟩ := rdR_has hr
      have hbl := HBL.out hhas
      rw [List.length_drop] at hbl
      have HG := Lib.hid (goR_some (s := sl) (n := n) (o := rs) (q := (c, r)) (by rw [HM.out]; exact hm6) (by rw [HM.out]; exact hr))
      have HG2 := Lib.hid (goE_some (s := sl) (n := n) (o := rs) (e := es) (q := (c, r)) (by rw [HM.out]; exact hm6) (by rw [HM.out]; exact hr))
      rw [List.length_append, HM.out] at HG HG2
      generalize (bef 10 (sl.drop n)).length = bl at *
      have hbs : n + bl + 1 ≤ s.size := by have := HSZ.out; omega
      have hbsI : (n : Int) + ((bl : Int) + 1) ≤ (s.size : Int) := by omega
      have hcast : ((n + bl + 1 : Nat) : Int) = (n : Int) + ((bl : Int) + 1) := by omega
      rw [hcast] at HG2
      have HCA := Lib.hid hcast
      have ho2 := row_below ho b2
      have he2 := row_below he b2
      have hB2 := HB.out.trans (b2.mono hsz)
      have hs2 := hB2.size
      have hal : Below w2.heap.size w2 (w2.alloc (.cells #[.string (mk c), .string (mk r)] 139)) := (Below.refl _ _).alloc (Nat.le_refl _) _
      have ho3 := row_below ho2 hal
      have he3 := row_below he2 hal
      have hB3 := hB2.alloc hs2 (.cells #[.string (mk c), .string (mk r)] 139)
      have hs3 := hB3.size
      have he4 := row_below he3 ((Below.refl _ _).alloc (Nat.le_refl _) (.cells #[.string (mk c), .string (mk r)] 139))
      have HPC := Lib.hid (recC_snoc rs (c, r))
      clear hr hhas hbl hRD ho he ho2 he2 hB2 hs2 b2 hcast
      go_wp2_with (first
        | (at_builtin; refine wpList_pushCells rfl (.tmp 29) (.tmp 31) 104 rfl 139 (.agg #[.string ⟨#[]⟩, .string ⟨#[]⟩]) 2 32 Tryz.underlying104 Tryz.infoRec rfl (by omega) (by omega) w.heap.size _ m (recC rs) rfl ho3 #[.string (mk c), .string (mk r)] rfl (by simp [Value.oneCell']) rfl (by simp) (by omega) hs3 ?_; intro v5 w5 ho5 hg5; have hB5 := below_row hB3 ho3 hg5 (Nat.le_refl _) hs3; have he5 := row_kept he3 (fun k hk => hg5.block k (he3.lt k hk).2 (fun e => row_ne (by decide) he3 ho3 k hk e.symm)); have hs5 := hB5.size)
        | (at_builtin; refine wpList_push rfl (.tmp 33) (.tmp 35) 92 rfl Tryz.underlying92 Tryz.infoInt w.heap.size _ (m + 1) es rfl he5 rfl (by omega) hs5 ?_; intro v6 w6 he6 hg6; have hB6 := below_row hB5 he5 hg6 (Nat.le_refl _) hs5; have ho6 := row_kept ho5 (fun k hk => hg6.block k (ho5.lt k hk).2 (fun e => row_ne (by decide) ho5 he5 k hk e.symm))))
      go_roundw
      case rel =>
        refine ⟨rs ++ [(c, r)], n + bl + 1, m + 1, es ++ [(n : Int) + ((bl : Int) + 1)], ?_, by omega, by omega, ?_, ?_, ?_, ?_, ?_, ?_, ?_, hB6⟩
        · show (rs ++ [(c, r)]).length = m + 1
          rw [List.length_append, HM.out]; rfl
        · rw [HCA.out]
        · exact HR.out.trans HG.out
        · exact HE.out.trans HG2.out
        · show (es ++ [(n : Int) + ((bl : Int) + 1)]).length = m + 1 + 1
          rw [List.length_append, HEL.out]; rfl
        · show (es ++ [(n : Int) + ((bl : Int) + 1)])[m + 1]?.getD 0 = ((n + bl + 1 : Nat) : Int)
          rw [List.getElem?_append_right (by rw [HEL.out]; exact Nat.le_refl _), HEL.out, HCA.out]
          simp
        · rw [HPC.out]; exact ho6
        · exact he6
      case measure => simp only [intOf]; omega
    · have HG := Lib.hid (HR.out.trans (goR_none (s := sl) (n := n) (o := rs) (f := 61 - m) (by rw [HM.out]; exact hr)))
      have HG2 := Lib.hid (HE.out.trans (goE_none (s := sl) (n := n) (o := rs) (e := es) (f := 61 - m) (by rw [HM.out]; exact hr)))
      have ho2 := Lib.hid (row_below ho b2)
      have he2 := Lib.hid (row_below he b2)
      have hB2 := Lib.hid (HB.out.trans (b2.mono hsz))
      have hal : Below w2.heap.size w2 (w2.alloc (.cells #[.string x, .string y] 139)) := (Below.refl _ _).alloc (Nat.le_refl _) _
      clear hr hRD ho he b2
      go_wp2
      go_ret2
      refine ⟨_, _, rfl, ?_, ?_, ?_, ?_, ?_, ?_, hB2.out.alloc hB2.out.size _⟩
      · rw [HG.out, HM.out]; exact row_below ho2.out hal
      · rw [HG2.out, HEL.out]; exact row_below he2.out hal
      · rw [HG.out, HG2.out, HM.out, HEL.out]
      · rw [HG.out, HG2.out, HM.out]; exact HEN.out
      · rw [HG.out]; have := HSZ.out; show n ≤ sl.length; omega
      · rw [HG.out, HM.out]; exact hm60
end Go.Proofs.YtonpcgdnfclidaaGreatDoor
