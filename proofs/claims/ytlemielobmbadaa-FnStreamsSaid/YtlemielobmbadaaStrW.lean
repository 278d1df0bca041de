/- Walks: EncodeStream. -/
import Derived.Test.YtlemielobmbadaaStrP
namespace Go.Proofs.Ytlemielobmbadaa
open Go.RowKit

def StrPost (w : World) (xs : List Int) (e : Ending) (w' : World) : Prop := ∃ v', e = .returned (.tuple #[v', .bool (strOk 11 xs)]) ∧ Own w' w.heap.size v' (streR xs) ∧ Below w.heap.size w w'
theorem StrPost.no {w w' : World} {xs : List Int} {e : Ending} {v' : Value} (h : strOk 11 xs = false) (he : e = .returned (.tuple #[v', .bool false])) (ho : Own w' w.heap.size v' []) (hb : Below w.heap.size w w') : StrPost w xs e w' :=
  ⟨v', by rw [h]; exact he, by unfold streR; rw [h]; exact ho, hb⟩
theorem StrPost.yes {w w' : World} {xs : List Int} {e : Ending} {v' : Value} {n : Nat} (h : strOk 11 xs = true) (hn : xs.length / 11 = n) (he : e = .returned (.tuple #[v', .bool true])) (ho : Own w' w.heap.size v' (turn (encAll xs n) n 15)) (hb : Below w.heap.size w w') : StrPost w xs e w' :=
  ⟨v', by rw [h]; exact he, by unfold streR; rw [if_pos h, hn]; exact ho, hb⟩

set_option maxHeartbeats 3200000 in
set_option maxRecDepth 100000 in
theorem specStr_any (v : Value) (xs : List Int) (w : World) (h : Rd w v xs) :
    Calls Try.prog 17 #[v] w (StrPost w xs) := by
  have ht := fun (b1 b2 b3 : Bool) h1 h2 h3 => strOk_of (m := 11) (xs := xs) (b1 := b1) (b2 := b2) (b3 := b3) h1 h2 h3
  obtain ⟨a, cap, n, HX, rfl, hnc, hla, HCM, ha⟩ := h.opnc
  rw [HX.out] at ht
  have HT := Lib.hid ht
  clear ht
  cases h1 : inB ((n : Int) / 11) 1 8
  · have hno := Lib.hid (HT.out false _ _ h1 rfl rfl)
    go_enter Try.func17, Try.ntmps17
    go_wp2_with (first | (go_at_call 71; refine (l1In_any _ _ _ _).mono ?_; rintro e w' ⟨rfl, rfl⟩))
    go_ret2
    exact StrPost.no hno.out rfl empty_any ((Below.refl _ _).alloc (Nat.le_refl _) _)
  by_cases h2 : (n : Int) % 11 = 0
  case neg =>
    have h2b : ((n : Int) % 11 != 0) = true := by rw [bne_iff_ne]; exact h2
    have hno := Lib.hid (HT.out true false _ h1 (decide_eq_false h2) rfl)
    clear h2
    go_enter Try.func17, Try.ntmps17
    go_wp2_with (first | (go_at_call 71; refine (l1In_any _ _ _ _).mono ?_; rintro e w' ⟨rfl, rfl⟩))
    go_ret2
    exact StrPost.no hno.out rfl empty_any ((Below.refl _ _).alloc (Nat.le_refl _) _)
  have h2b : ((n : Int) % 11 != 0) = false := by simp [h2]
  cases h3 : symL xs
  · have hno := Lib.hid (HT.out true true false h1 (decide_eq_true h2) h3)
    clear h2
    go_enter Try.func17, Try.ntmps17
    go_wp2_with (first | (go_at_call 71; refine (l1In_any _ _ _ _).mono ?_; rintro e w' ⟨rfl, rfl⟩) | (go_at_call 72; refine (l24Symbols_any _ xs _ h).mono ?_; rintro e w' ⟨rfl, rfl⟩))
    go_ret2
    exact StrPost.no hno.out rfl empty_any ((Below.refl _ _).alloc (Nat.le_refl _) _)
  have hok := HT.out true true true h1 (decide_eq_true h2) h3
  simp only [Bool.and_self] at hok
  obtain ⟨m, hm, hm1, hm8, hs, hq, hq2⟩ := strOk_parts (by omega) hok
  rw [HX.out] at hm hq
  have HOK := Lib.hid hok
  have HQ2 := Lib.hid hq2
  have HS := Lib.hid hs
  have HM := Lib.hid hm
  have hqq : (n : Int) / 11 = (m : Int) := hq
  obtain ⟨b, off, rfl, hbs, hc⟩ := ha (by omega)
  have HC := Lib.hid hc
  clear hok hs hq hq2 h2 hc hm
  have h0 : (w.alloc (.cells #[] 3)).ownsRow w.heap.size 3 1 (.slice (some ⟨w.heap.size, 0, none⟩) 0 0) 0 (ints (encAll xs 0)) :=
    World.ownsRow_lit (base := w.heap.size) (e := 3) (size := 1) w #[] 0 (Nat.le_refl _) (by simp) rfl
  have hb0 : Below w.heap.size w (w.alloc (.cells #[] 3)) := (Below.refl _ _).alloc (Nat.le_refl _) _
  rw [hqq] at h1
  go_enter Try.func17, Try.ntmps17
  go_wp2_with (first | (go_at_call 71; refine (l1In_any _ _ _ _).mono ?_; rintro e w' ⟨rfl, rfl⟩) | (go_at_call 72; refine (l24Symbols_any _ xs _ h).mono ?_; rintro e w' ⟨rfl, rfl⟩))
  go_loopw [5, 6] (fun o i wr => ∃ k : Nat, k ≤ m ∧ i = .int .i64 k ∧ wr.ownsRow w.heap.size 3 1 o (15 * k) (ints (encAll xs k)) ∧ Below w.heap.size w wr) (fun _ i _ => m - (intOf i).toNat)
  case atStart => exact ⟨0, by omega, rfl, h0, hb0⟩
  case round =>
    obtain ⟨k, hk, rfl, hown, hbel⟩ := hrel
    by_cases hlt : k < m
    · have hkI : (k : Int) < (m : Int) := by omega
      have hmI : (m : Int) ≤ 8 := by omega
      have hnI : (k : Int) * 11 + 11 ≤ (n : Int) := by have := HM.out; omega
      have hk11 : 11 * k + 11 ≤ n := by have := HM.out; omega
      have HSE := Lib.hid (show 11 * k = k * 11 from Nat.mul_comm _ _)
      have hrd := Lib.hid ((rd_sub HX.out hnc HCM.out hbs HC.out (k * 11) 11 (by omega)).below hbel (fun q hq => by have e : b = q := (by simpa [Value.ownBlock] using hq); omega))
      have hsl : (sub xs (k * 11) 11).length = 11 := sub_len (by rw [HX.out]; omega)
      have hdo : datOk (sub xs (k * 11) 11) = true := by simp [datOk, hsl, sub_sym HS.out]
      have HE := Lib.hid (show encR (sub xs (k * 11) 11) = encL (sub xs (k * 11) 11) from by unfold encR; rw [if_pos hdo])
      have HN := Lib.hid (show encAll xs (k + 1) = encAll xs k ++ encL (sub xs (k * 11) 11) from by show encAll xs k ++ encL (sub xs (11 * k) 11) = _; rw [HSE.out])
      have HEL := Lib.hid (encL_len hsl)
      have hsz := hbel.size
      clear hsl hdo
      go_wp2_with fail
      rw [show (k + 1) * 11 - k * 11 = 11 from by omega]
      refine (specEnc_any _ _ _ hrd.out).mono ?_
      rintro e w2 ⟨v2, rfl, o2, b2⟩
      rw [HE.out] at o2
      have hown2 := ownsRow_below hown b2 (fun q hq => (hown.lt q hq).2)
      have hb2 := hbel.trans (b2.mono hsz)
      have hs2 := hb2.size
      clear hown hbel
      go_wp2_with (at_builtin; refine wpList_cat rfl (.tmp 44) (.tmp 45) 24 rfl Try.underlying24 Try.infoInt w.heap.size _ (15 * k) (encAll xs k) rfl hown2 _ (encL (sub xs (k * 11) 11)) rfl o2.rd (by rw [HEL.out]; omega) (by rw [HEL.out]; omega) hs2 ?_; intro v3 w3 hown3 hgrow3; have hb3 := below_push hb2 hown2 hgrow3 (Nat.le_refl _) hs2; rw [← HN.out, HEL.out] at hown3)
      clear hown2 hb2 hgrow3
      go_roundw
      case rel => exact ⟨k + 1, by omega, by go_num, hown3, hb3⟩
      case measure => simp [intOf]; omega
    · obtain rfl : k = m := by omega
      have hlen : (encAll xs k).length = 15 * k := encAll_len (by rw [HX.out, HM.out]; omega)
      have HL := Lib.hid hlen
      have hrd := (own_of_row hown).rd
      clear hlen
      go_wp2_with (go_at_call 67; refine (l24Turn_any _ (encAll xs k) k 15 _ hrd (by rw [HL.out]; omega) (by omega) (by omega)).mono ?_; rintro e w4 ⟨v4, rfl, o4, b4⟩)
      go_ret2
      exact StrPost.yes HOK.out HQ2.out rfl (o4.mono hbel.size) (hbel.trans (b4.mono hbel.size))

set_option maxHeartbeats 3200000 in
set_option maxRecDepth 100000 in
theorem implStr_any (v : Value) (xs : List Int) (w : World) (h : Rd w v xs) :
    Calls Try.prog 16 #[v] w (StrPost w xs) := by
  have ht := fun (b1 b2 b3 : Bool) h1 h2 h3 => strOk_of (m := 11) (xs := xs) (b1 := b1) (b2 := b2) (b3 := b3) h1 h2 h3
  obtain ⟨a, cap, n, HX, rfl, hnc, hla, HCM, ha⟩ := h.opnc
  rw [HX.out] at ht
  have HT := Lib.hid ht
  clear ht
  cases h1 : inB ((n : Int) / 11) 1 8
  · have hno := Lib.hid (HT.out false _ _ h1 rfl rfl)
    go_enter Try.func16, Try.ntmps16
    go_wp2_with (first | (go_at_call 68; refine (within_any _ _ _ _).mono ?_; rintro e w' ⟨rfl, rfl⟩))
    go_ret2
    exact StrPost.no hno.out rfl own_nil (Below.refl _ _)
  by_cases h2 : (n : Int) % 11 = 0
  case neg =>
    have h2b : ((n : Int) % 11 != 0) = true := by rw [bne_iff_ne]; exact h2
    have hno := Lib.hid (HT.out true false _ h1 (decide_eq_false h2) rfl)
    clear h2
    go_enter Try.func16, Try.ntmps16
    go_wp2_with (first | (go_at_call 68; refine (within_any _ _ _ _).mono ?_; rintro e w' ⟨rfl, rfl⟩))
    go_ret2
    exact StrPost.no hno.out rfl own_nil (Below.refl _ _)
  have h2b : ((n : Int) % 11 != 0) = false := by simp [h2]
  cases h3 : symL xs
  · have hno := Lib.hid (HT.out true true false h1 (decide_eq_true h2) h3)
    clear h2
    go_enter Try.func16, Try.ntmps16
    go_wp2_with (first | (go_at_call 68; refine (within_any _ _ _ _).mono ?_; rintro e w' ⟨rfl, rfl⟩) | (go_at_call 69; refine (areSymbols_any _ xs _ h).mono ?_; rintro e w' ⟨rfl, rfl⟩))
    go_ret2
    exact StrPost.no hno.out rfl own_nil (Below.refl _ _)
  have hok := HT.out true true true h1 (decide_eq_true h2) h3
  simp only [Bool.and_self] at hok
  obtain ⟨m, hm, hm1, hm8, hs, hq, hq2⟩ := strOk_parts (by omega) hok
  rw [HX.out] at hm hq
  have HOK := Lib.hid hok
  have HQ2 := Lib.hid hq2
  have HS := Lib.hid hs
  have HM := Lib.hid hm
  have hqq : (n : Int) / 11 = (m : Int) := hq
  obtain ⟨b, off, rfl, hbs, hc⟩ := ha (by omega)
  have HC := Lib.hid hc
  clear hok hs hq hq2 h2 hc hm
  have h0 : (w.alloc (.cells #[] 3)).ownsRow w.heap.size 3 1 (.slice (some ⟨w.heap.size, 0, none⟩) 0 0) 0 (ints (encAll xs 0)) :=
    World.ownsRow_lit (base := w.heap.size) (e := 3) (size := 1) w #[] 0 (Nat.le_refl _) (by simp) rfl
  have hb0 : Below w.heap.size w (w.alloc (.cells #[] 3)) := (Below.refl _ _).alloc (Nat.le_refl _) _
  rw [hqq] at h1
  go_enter Try.func16, Try.ntmps16
  go_wp2_with (first | (go_at_call 68; refine (within_any _ _ _ _).mono ?_; rintro e w' ⟨rfl, rfl⟩) | (go_at_call 69; refine (areSymbols_any _ xs _ h).mono ?_; rintro e w' ⟨rfl, rfl⟩))
  go_loopw [5, 6] (fun o i wr => ∃ k : Nat, k ≤ m ∧ i = .int .i64 ((k * 11 : Nat) : Int) ∧ wr.ownsRow w.heap.size 3 1 o (15 * k) (ints (encAll xs k)) ∧ Below w.heap.size w wr) (fun _ i _ => n - (intOf i).toNat)
  case atStart => exact ⟨0, by omega, rfl, h0, hb0⟩
  case round =>
    obtain ⟨k, hk, rfl, hown, hbel⟩ := hrel
    by_cases hlt : k < m
    · have hkI : ((k * 11 : Nat) : Int) < (n : Int) := by have := HM.out; omega
      have hmI : (m : Int) ≤ 8 := by omega
      have hnI : (k : Int) * 11 + 11 ≤ (n : Int) := by have := HM.out; omega
      have hk11 : 11 * k + 11 ≤ n := by have := HM.out; omega
      have HSE := Lib.hid (show 11 * k = k * 11 from Nat.mul_comm _ _)
      have hrd := Lib.hid ((rd_sub HX.out hnc HCM.out hbs HC.out (k * 11) 11 (by omega)).below hbel (fun q hq => by have e : b = q := (by simpa [Value.ownBlock] using hq); omega))
      have hsl : (sub xs (k * 11) 11).length = 11 := sub_len (by rw [HX.out]; omega)
      have hdo : datOk (sub xs (k * 11) 11) = true := by simp [datOk, hsl, sub_sym HS.out]
      have HE := Lib.hid (show encR (sub xs (k * 11) 11) = encL (sub xs (k * 11) 11) from by unfold encR; rw [if_pos hdo])
      have HN := Lib.hid (show encAll xs (k + 1) = encAll xs k ++ encL (sub xs (k * 11) 11) from by show encAll xs k ++ encL (sub xs (11 * k) 11) = _; rw [HSE.out])
      have HEL := Lib.hid (encL_len hsl)
      have hsz := hbel.size
      have hss := sub_sym HS.out (k * 11) 11
      go_wp2_with fail
      rw [show k * 11 + 11 - k * 11 = 11 from by omega]
      refine (encoded_any _ _ _ hrd.out hsl hss).mono ?_
      rintro e w2 ⟨v2, rfl, o2, b2⟩
      have hown2 := ownsRow_below hown b2 (fun q hq => (hown.lt q hq).2)
      have hb2 := hbel.trans (b2.mono hsz)
      have hs2 := hb2.size
      clear hown hbel
      go_wp2_with (at_builtin; refine wpList_cat rfl (.tmp 31) (.tmp 37) 24 rfl Try.underlying24 Try.infoInt w.heap.size _ (15 * k) (encAll xs k) rfl hown2 _ (encL (sub xs (k * 11) 11)) rfl o2.rd (by rw [HEL.out]; omega) (by rw [HEL.out]; omega) hs2 ?_; intro v3 w3 hown3 hgrow3; have hb3 := below_push hb2 hown2 hgrow3 (Nat.le_refl _) hs2; rw [← HN.out, HEL.out] at hown3)
      clear hown2 hb2 hgrow3
      go_roundw
      case rel => exact ⟨k + 1, by omega, by rw [show (((k + 1) * 11 : Nat) : Int) = (k : Int) * 11 + 11 by omega], hown3, hb3⟩
      case measure => simp [intOf]; omega
    · obtain rfl : k = m := by omega
      have hlen : (encAll xs k).length = 15 * k := encAll_len (by rw [HX.out, HM.out]; omega)
      have HL := Lib.hid hlen
      have hrd := (own_of_row hown).rd
      clear hlen
      have hge : ¬ (((k * 11 : Nat) : Int) < (n : Int)) := by have := HM.out; omega
      have hte := inter_enc (xs := xs) (n := k) (by rw [HX.out]; exact HM.out) hm1 hm8 HS.out
      have HTE := Lib.hid hte
      clear hte
      go_wp2_with (go_at_call 11; refine (implInter_any _ (encAll xs k) (k : Int) _ hrd).mono ?_; rintro e w4 ⟨v4, rfl, o4, b4⟩; rw [HTE.out.1]; rw [HTE.out.2] at o4)
      go_ret2
      exact StrPost.yes HOK.out HQ2.out rfl (o4.mono hbel.size) (hbel.trans (b4.mono hbel.size))
end Go.Proofs.Ytlemielobmbadaa
