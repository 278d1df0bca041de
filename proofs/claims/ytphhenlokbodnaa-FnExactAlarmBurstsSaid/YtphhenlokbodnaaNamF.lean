/- Walks: a name's place in a list. -/
import Derived.Test.YtphhenlokbodnaaNamS
import Derived.Test.YtphhenlokbodnaaFlt
namespace Go.Proofs.Ytphhenlokbodnaa
open Go.RowKit
set_option maxRecDepth 100000

def nilS : ByteArray := ⟨#[]⟩
def strE (s : ByteArray) : List Value := [.string s]
/-- The first place of a name, or -1. -/
def plc (ns : List ByteArray) (x : ByteArray) : Int := match ns.findIdx? (fun s => s.toList == x.toList) with | some i => (i : Int) | none => -1
theorem plc_none {ns : List ByteArray} {x : ByteArray} (h : ns.any (fun s => s.toList == x.toList) = false) : plc ns x = -1 := by
  unfold plc
  rw [List.findIdx?_eq_none_iff.2 fun s hs => by
    have := (List.any_eq_false.1 h) s hs
    simpa using this]
theorem plc_some {ns : List ByteArray} {x : ByteArray} {k : Nat} (hk : k < ns.length) (h : (ns.take k).any (fun s => s.toList == x.toList) = false) (e : ((ns[k]?.getD nilS).toList == x.toList) = true) : plc ns x = (k : Int) := by
  rw [List.getElem?_eq_getElem hk] at e
  unfold plc
  rw [List.findIdx?_eq_some_iff_getElem.2 ⟨hk, by simpa using e, fun j hj => by
    have := (List.any_eq_false.1 h) (ns[j]'(by omega)) (List.mem_take_iff_getElem.2 ⟨j, by omega, rfl⟩)
    simpa using this⟩]
theorem any_more {ns : List ByteArray} {x : ByteArray} {k : Nat} (hk : k < ns.length) (h : (ns.take k).any (fun s => s.toList == x.toList) = false) (e : ((ns[k]?.getD nilS).toList == x.toList) = false) : (ns.take (k + 1)).any (fun s => s.toList == x.toList) = false := by
  rw [List.getElem?_eq_getElem hk] at e
  rw [List.take_add_one, List.any_append, h, List.getElem?_eq_getElem hk]
  simpa using e
set_option maxHeartbeats 1600000 in
theorem l2Find_any (v : Value) (ns : List ByteArray) (x : ByteArray) (w : World) (h : Rdt w (flt 1 strE ns) v) :
    Calls Try.prog 72 #[v, .string x] w fun e w' => e = .returned (.int .i64 (plc ns x)) ∧ w = w' := by
  obtain ⟨a, n, cap, rfl, HN, _, hnl, ha⟩ := flt_opn (m := 1) (enc := strE) (fun _ => rfl) (by omega) nilS h
  have HA := Lib.hid ha
  have HP := Lib.hid (fun k (hk : k < ns.length) => @plc_some ns x k hk)
  have HM := Lib.hid (fun k (hk : k < ns.length) => @any_more ns x k hk)
  have HO := Lib.hid (@plc_none ns x)
  clear ha h
  generalize plc ns x = r at *
  go_enter Try.func72, Try.ntmps72
  go_wp2
  go_loop [5] (fun i => ∃ k : Nat, k ≤ n ∧ i = .int .i64 k ∧ Hid ((ns.take k).any (fun s => s.toList == x.toList) = false)) (fun i => n - (intOf i).toNat)
  case atStart => exact ⟨0, Nat.zero_le _, rfl, by simp [Hid]⟩
  case round =>
    obtain ⟨k, hk, rfl, HT⟩ := hrel
    by_cases hlt : k < n
    · have hltI : (k : Int) < (n : Int) := by omega
      have hkx : k < ns.length := by rw [HN.out]; exact hlt
      obtain ⟨b, off, rfl, hbs, hcs⟩ := HA.out (by omega)
      have hc0 := hcs k hlt 0 _ rfl
      rw [Nat.mul_one, Nat.add_zero] at hc0
      have HP1 := Lib.hid (HP.out k hkx HT.out)
      have HM1 := Lib.hid (HM.out k hkx HT.out)
      clear hcs hkx
      generalize ns[k]?.getD nilS = s at *
      by_cases he : (s.toList == x.toList) = true
      · have HE := Lib.hid (HP1.out he)
        go_wp2
        go_ret
        exact ⟨by rw [HE.out]; rfl, rfl⟩
      · have he : (s.toList == x.toList) = false := by simpa using he
        have HE := Lib.hid (HM1.out he)
        go_wp2
        go_round
        case rel => exact ⟨k + 1, by omega, by go_num, HE.out⟩
        case measure => simp [intOf]; omega
    · obtain rfl : k = n := by omega
      have hall := HT.out
      rw [← HN.out, List.take_length] at hall
      have HE := Lib.hid (HO.out hall)
      clear hall
      go_wp2
      go_ret
      exact ⟨by rw [HE.out]; rfl, rfl⟩
set_option maxHeartbeats 1600000 in
theorem indexS_any (v : Value) (ns : List ByteArray) (x : ByteArray) (w : World) (h : Rdt w (flt 1 strE ns) v) :
    Calls Try.prog 75 #[v, .string x] w fun e w' => e = .returned (.int .i64 (plc ns x)) ∧ w = w' := by
  obtain ⟨a, n, cap, rfl, HN, _, hnl, ha⟩ := flt_opn (m := 1) (enc := strE) (fun _ => rfl) (by omega) nilS h
  have HA := Lib.hid ha
  have HP := Lib.hid (fun k (hk : k < ns.length) => @plc_some ns x k hk)
  have HM := Lib.hid (fun k (hk : k < ns.length) => @any_more ns x k hk)
  have HO := Lib.hid (@plc_none ns x)
  clear ha h
  generalize plc ns x = r at *
  go_enter Try.func75, Try.ntmps75
  go_wp2
  go_loop [5, 8] (fun _ i => ∃ k : Nat, k ≤ n ∧ i = .int .i64 k ∧ Hid ((ns.take k).any (fun s => s.toList == x.toList) = false)) (fun _ i => n - (intOf i).toNat)
  case atStart => exact ⟨0, Nat.zero_le _, rfl, by simp [Hid]⟩
  case round =>
    obtain ⟨k, hk, rfl, HT⟩ := hrel
    by_cases hlt : k < n
    · have hltI : (k : Int) < (n : Int) := by omega
      have hkx : k < ns.length := by rw [HN.out]; exact hlt
      obtain ⟨b, off, rfl, hbs, hcs⟩ := HA.out (by omega)
      have hc0 := hcs k hlt 0 _ rfl
      rw [Nat.mul_one, Nat.add_zero] at hc0
      have HP1 := Lib.hid (HP.out k hkx HT.out)
      have HM1 := Lib.hid (HM.out k hkx HT.out)
      clear hcs hkx
      generalize ns[k]?.getD nilS = s at *
      by_cases he : (s.toList == x.toList) = true
      · have HE := Lib.hid (HP1.out he)
        have he2 : (x.toList == s.toList) = true := by rw [← he]; exact BEq.comm
        go_wp2
        go_ret
        exact ⟨by rw [HE.out]; rfl, rfl⟩
      · have he : (s.toList == x.toList) = false := by simpa using he
        have HE := Lib.hid (HM1.out he)
        have he2 : (x.toList == s.toList) = false := by rw [← he]; exact BEq.comm
        go_wp2
        go_round
        case rel => exact ⟨k + 1, by omega, by go_num, HE.out⟩
        case measure => simp [intOf]; omega
    · obtain rfl : k = n := by omega
      have hall := HT.out
      rw [← HN.out, List.take_length] at hall
      have HE := Lib.hid (HO.out hall)
      clear hall
      go_wp2
      go_ret
      exact ⟨by rw [HE.out]; rfl, rfl⟩
theorem containsS_any (v : Value) (ns : List ByteArray) (x : ByteArray) (w : World) (h : Rdt w (flt 1 strE ns) v) :
    Calls Try.prog 63 #[v, .string x] w fun e w' => e = .returned (.bool (decide (0 ≤ plc ns x))) ∧ w = w' := by
  have HI := Lib.hid (indexS_any v ns x w h)
  generalize plc ns x = r at *
  obtain ⟨a, n, cap, rfl, -, -, -, -⟩ := flt_opn (m := 1) (enc := strE) (fun _ => rfl) (by omega) nilS h
  clear h
  go_enter Try.func63, Try.ntmps63
  go_wp2_with (go_at_call 75; refine (HI.out).mono ?_; rintro e w' ⟨rfl, rfl⟩)
  go_ret
  exact ⟨rfl, rfl⟩
end Go.Proofs.Ytphhenlokbodnaa
