/- Walks: names of nodes. -/
import Derived.Test.YtphhenlokbodnaaNamP
import Derived.Test.YtphhenlokbodnaaIntW
import Derived.Test.YtphhenlokbodnaaSymW
namespace Go.Proofs.Ytphhenlokbodnaa
open Go.RowKit
set_option maxRecDepth 100000

set_option maxHeartbeats 3200000 in
theorem isName_any (s : ByteArray) (w : World) (hs : s.size ≤ maxLen) :
    Calls Try.prog 62 #[.string s] w fun e w' => e = .returned (.bool (nameOk s)) ∧ Dr w w' := by
  unfold maxLen at hs
  have HN := Lib.hid (fun k (hk : k < s.size) h => nameOk_sgn (nam_no (s := s) (p := sgnB) (k := k) hk h))
  have HS := Lib.hid (fun k (hk : k < s.size) h e => nam_step (s := s) (p := sgnB) (k := k) hk h e)
  have HA := Lib.hid (nam_all s)
  have HH := Lib.hid (@nameOk_hd s)
  have HL := Lib.hid (@nameOk_len s)
  have HY := Lib.hid (@nameOk_yes s)
  have H0 := Lib.hid (@hd0_of s)
  generalize nameOk s = r at *
  go_enter Try.func62, Try.ntmps62
  go_wp2
  go_loopw [3, 4, 5, 8] (fun _ _ _ i wr => ∃ k : Nat, k ≤ s.size ∧ i = .int .i64 k ∧ Hid ((s.data.toList.take k).all sgnB = true) ∧ Hid (0 < k → hd0 s = true) ∧ Hid (Dr w wr)) (fun _ _ _ i _ => s.size - (intOf i).toNat)
  case atStart => exact ⟨0, Nat.zero_le _, rfl, by simp [Hid], fun h => by omega, Dr.refl _⟩
  case round =>
    obtain ⟨k, hk, rfl, HT, HK, HD⟩ := hrel
    by_cases hlt : k < s.size
    · have hltI : (k : Int) < (s.size : Int) := by omega
      have HN1 := Lib.hid (HN.out k hlt)
      have HS1 := Lib.hid (HS.out k hlt HT.out)
      have H01 := Lib.hid (fun h : k = 0 => show hd0 s = letB s[k] by subst h; exact H0.out hlt)
      have HSG := Lib.hid (show sgnB s[k] = ((decide (97 ≤ (s[k].toNat : Int)) && decide ((s[k].toNat : Int) ≤ 122)) || (decide (48 ≤ (s[k].toNat : Int)) && decide ((s[k].toNat : Int) ≤ 57))) from rfl)
      have HLE := Lib.hid (show letB s[k] = (decide (97 ≤ (s[k].toNat : Int)) && decide ((s[k].toNat : Int) ≤ 122)) from rfl)
      clear HN HS H0
      by_cases c1 : 97 ≤ (s[k].toNat : Int)
      · have c1d : decide (97 ≤ (s[k].toNat : Int)) = true := decide_eq_true c1
        have c3 : 48 ≤ (s[k].toNat : Int) := by omega
        have c3d : decide (48 ≤ (s[k].toNat : Int)) = true := decide_eq_true c3
        have c4 : ¬ (s[k].toNat : Int) ≤ 57 := by omega
        have c4d : decide ((s[k].toNat : Int) ≤ 57) = false := decide_eq_false c4
        by_cases c2 : (s[k].toNat : Int) ≤ 122
        · have c2d : decide ((s[k].toNat : Int) ≤ 122) = true := decide_eq_true c2
          have HT2 := Lib.hid (HS1.out (by rw [HSG.out, c1d, c2d]; rfl))
          have HK2 := Lib.hid (fun (_ : 0 < k + 1) => show hd0 s = true by
            by_cases h : k = 0
            · rw [H01.out h, HLE.out, c1d, c2d]; rfl
            · exact HK.out (by omega))
          go_wp2
          go_quiet (fail)
          go_wp2
          go_roundw
          case rel => exact ⟨k + 1, hlt, by go_num, HT2.out, HK2.out, HD.out.drewN _⟩
          case measure => simp [intOf]; omega
        · have c2d : decide ((s[k].toNat : Int) ≤ 122) = false := decide_eq_false c2
          have HF := Lib.hid (HN1.out (by rw [HSG.out, c1d, c2d, c3d, c4d]; rfl))
          go_wp2
          go_quiet (fail)
          go_wp2
          go_ret
          exact ⟨by rw [HF.out]; rfl, HD.out.drewN _⟩
      · have c1d : decide (97 ≤ (s[k].toNat : Int)) = false := decide_eq_false c1
        by_cases c3 : 48 ≤ (s[k].toNat : Int)
        · have c3d : decide (48 ≤ (s[k].toNat : Int)) = true := decide_eq_true c3
          by_cases c4 : (s[k].toNat : Int) ≤ 57
          · have c4d : decide ((s[k].toNat : Int) ≤ 57) = true := decide_eq_true c4
            by_cases h0 : k = 0
            · have HF := Lib.hid (HH.out (by rw [H01.out h0, HLE.out, c1d]; rfl))
              have h0I : (k : Int) = 0 := by omega
              have h0b : ((k : Int) == 0) = true := by simpa using h0I
              clear h0I h0 H01
              go_wp2
              go_quiet (fail)
              go_wp2
              go_ret
              exact ⟨by rw [HF.out]; rfl, HD.out.drewN _⟩
            · have h0b : ((k : Int) == 0) = false := by simp; omega
              have HT2 := Lib.hid (HS1.out (by rw [HSG.out, c1d, c3d, c4d]; rfl))
              have HK2 := Lib.hid (fun (_ : 0 < k + 1) => HK.out (by omega))
              go_wp2
              go_quiet (fail)
              go_wp2
              go_roundw
              case rel => exact ⟨k + 1, hlt, by go_num, HT2.out, HK2.out, HD.out.drewN _⟩
              case measure => simp [intOf]; omega
          · have c4d : decide ((s[k].toNat : Int) ≤ 57) = false := decide_eq_false c4
            have HF := Lib.hid (HN1.out (by rw [HSG.out, c1d, c3d, c4d]; rfl))
            go_wp2
            go_quiet (fail)
            go_wp2
            go_ret
            exact ⟨by rw [HF.out]; rfl, HD.out.drewN _⟩
        · have c3d : decide (48 ≤ (s[k].toNat : Int)) = false := decide_eq_false c3
          have HF := Lib.hid (HN1.out (by rw [HSG.out, c1d, c3d]; rfl))
          go_wp2
          go_quiet (fail)
          go_wp2
          go_ret
          exact ⟨by rw [HF.out]; rfl, HD.out.drewN _⟩
    · obtain rfl : k = s.size := by omega
      have hall := HT.out
      rw [HA.out] at hall
      have HR := Lib.hid (show inB (s.size : Int) 1 8 = r from by
        by_cases h : 1 ≤ s.size ∧ s.size ≤ 8
        · rw [HY.out h (HK.out (by omega)) hall]; simp [inB]; omega
        · rw [HL.out h]
          by_cases h1 : 1 ≤ s.size
          · simp [inB]; omega
          · simp [inB]; omega)
      clear HT HK HA HN HS HH HL HY H0 hall
      go_wp2_with (go_at_call 44; refine (within_any _ _ _ _).mono ?_; rintro e w' ⟨rfl, rfl⟩)
      go_ret
      exact ⟨by rw [← HR.out]; rfl, HD.out⟩
end Go.Proofs.Ytphhenlokbodnaa
