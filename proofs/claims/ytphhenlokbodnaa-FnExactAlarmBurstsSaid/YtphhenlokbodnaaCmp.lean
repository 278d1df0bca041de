/- Walks: cmp.Compare, cmp.Or. -/
import Derived.Test.YtphhenlokbodnaaFib
namespace Go.Proofs.Ytphhenlokbodnaa
open Go.RowKit
set_option maxRecDepth 100000

def cmpI (a b : Int) : Int := if a < b then -1 else if b < a then 1 else 0
theorem notNaN_any (a : Int) (w : World) : Calls Try.prog 90 #[.int .i64 a] w fun e w' => e = .returned (.bool false) ∧ w = w' := by
  have h : (a != a) = false := by simp
  go_enter Try.func90, Try.ntmps90
  go_wp2
  go_ret
  exact ⟨rfl, rfl⟩
theorem compare_any (a b : Int) (w : World) : Calls Try.prog 77 #[.int .i64 a, .int .i64 b] w fun e w' => e = .returned (.int .i64 (cmpI a b)) ∧ w = w' := by
  by_cases h1 : a < b
  · have h1d : decide (a < b) = true := decide_eq_true h1
    have HR := Lib.hid (show cmpI a b = -1 by unfold cmpI; rw [if_pos h1])
    go_enter Try.func77, Try.ntmps77
    go_wp2_with (go_at_call 90; refine (notNaN_any _ _).mono ?_; rintro e w' ⟨rfl, rfl⟩)
    go_ret
    exact ⟨by rw [HR.out]; rfl, rfl⟩
  have h1d : decide (a < b) = false := decide_eq_false h1
  by_cases h2 : b < a
  · have h2d : decide (b < a) = true := decide_eq_true h2
    have HR := Lib.hid (show cmpI a b = 1 by unfold cmpI; rw [if_neg h1, if_pos h2])
    go_enter Try.func77, Try.ntmps77
    go_wp2_with (go_at_call 90; refine (notNaN_any _ _).mono ?_; rintro e w' ⟨rfl, rfl⟩)
    go_ret
    exact ⟨by rw [HR.out]; rfl, rfl⟩
  · have h2d : decide (b < a) = false := decide_eq_false h2
    have HR := Lib.hid (show cmpI a b = 0 by unfold cmpI; rw [if_neg h1, if_neg h2])
    go_enter Try.func77, Try.ntmps77
    go_wp2_with (go_at_call 90; refine (notNaN_any _ _).mono ?_; rintro e w' ⟨rfl, rfl⟩)
    go_ret
    exact ⟨by rw [HR.out]; rfl, rfl⟩
/-- The first that is not 0. -/
def orI : List Int → Int
  | [] => 0
  | x :: xs => if x = 0 then orI xs else x
theorem orI_none : ∀ {xs : List Int}, xs.all (fun x => x == 0) = true → orI xs = 0
  | [], _ => rfl
  | x :: xs, h => by
    simp only [List.all_cons, Bool.and_eq_true, beq_iff_eq] at h
    rw [orI, if_pos h.1]; exact orI_none h.2
theorem orI_some : ∀ {xs : List Int} {k : Nat}, k < xs.length → (xs.take k).all (fun x => x == 0) = true → xs[k]?.getD 0 ≠ 0 → orI xs = xs[k]?.getD 0
  | [], k, hk, _, _ => by simp at hk
  | x :: xs, 0, _, _, e => by
    have e : x ≠ 0 := by simpa using e
    rw [orI, if_neg e]; simp
  | x :: xs, k + 1, hk, h, e => by
    simp only [List.take_succ_cons, List.all_cons, Bool.and_eq_true, beq_iff_eq] at h
    rw [orI, if_pos h.1, List.getElem?_cons_succ]
    exact orI_some (by simpa using hk) h.2 (by simpa using e)
theorem all0_more {xs : List Int} {k : Nat} (hk : k < xs.length) (h : (xs.take k).all (fun x => x == 0) = true) (e : xs[k]?.getD 0 = 0) : (xs.take (k + 1)).all (fun x => x == 0) = true := by
  rw [List.getElem?_eq_getElem hk] at e
  rw [List.take_add_one, List.all_append, h, List.getElem?_eq_getElem hk]
  simpa using e
set_option maxHeartbeats 1600000 in
theorem or_any (v : Value) (xs : List Int) (w : World) (h : Rd w v xs) :
    Calls Try.prog 76 #[v] w fun e w' => e = .returned (.int .i64 (orI xs)) ∧ w = w' := by
  obtain ⟨a, cap, n, HN, rfl, _, hnl, ha⟩ := h.opn
  have HA := Lib.hid ha
  have HO := Lib.hid (@orI_none xs)
  have HS := Lib.hid (fun k (hk : k < xs.length) => @orI_some xs k hk)
  have HM := Lib.hid (fun k (hk : k < xs.length) => @all0_more xs k hk)
  clear ha h
  generalize orI xs = r at *
  go_enter Try.func76, Try.ntmps76
  go_wp2
  go_loop [5, 8] (fun _ i => ∃ k : Nat, k ≤ n ∧ i = .int .i64 k ∧ Hid ((xs.take k).all (fun x => x == 0) = true)) (fun _ i => n - (intOf i).toNat)
  case atStart => exact ⟨0, Nat.zero_le _, rfl, by simp [Hid]⟩
  case round =>
    obtain ⟨k, hk, rfl, HT⟩ := hrel
    by_cases hlt : k < n
    · have hltI : (k : Int) < (n : Int) := by omega
      have hkx : k < xs.length := by rw [HN.out]; exact hlt
      obtain ⟨b, off, rfl, hbs, hcs⟩ := HA.out (by omega)
      have hc0 := hcs k hlt
      have HS1 := Lib.hid (HS.out k hkx HT.out)
      have HM1 := Lib.hid (HM.out k hkx HT.out)
      clear hcs hkx
      generalize xs[k]?.getD 0 = x at *
      by_cases he : x = 0
      · have HE := Lib.hid (HM1.out he)
        have heb : (x != 0) = false := by simp [he]
        clear he
        go_wp2
        go_round
        case rel => exact ⟨k + 1, by omega, by go_num, HE.out⟩
        case measure => simp [intOf]; omega
      · have HE := Lib.hid (HS1.out he)
        have heb : (x != 0) = true := by rw [bne_iff_ne]; exact he
        clear he
        go_wp2
        go_ret
        exact ⟨by rw [HE.out]; rfl, rfl⟩
    · obtain rfl : k = n := by omega
      have hall := HT.out
      rw [← HN.out, List.take_length] at hall
      have HE := Lib.hid (HO.out hall)
      clear hall
      go_wp2
      go_ret
      exact ⟨by rw [HE.out]; rfl, rfl⟩
end Go.Proofs.Ytphhenlokbodnaa
