/- Walks: DecodeStream. -/
import Derived.Test.YtlemielobmbadaaDstP
import Derived.Test.YtlemielobmbadaaDecW
namespace Go.Proofs.Ytlemielobmbadaa
open Go.RowKit

def DstPost (w : World) (xs : List Int) (e : Ending) (w' : World) : Prop :=
  ∃ v', e = .returned (.tuple #[v', .int .i64 (dstN xs), .bool (dstTo xs).isSome, .bool (strOk 15 xs)]) ∧ Own w' w.heap.size v' (dstR xs) ∧ Below w.heap.size w w'
theorem DstPost.no {w w' : World} {xs : List Int} {e : Ending} {v' : Value} (h : strOk 15 xs = false) (he : e = .returned (.tuple #[v', .int .i64 0, .bool false, .bool false])) (ho : Own w' w.heap.size v' []) (hb : Below w.heap.size w w') : DstPost w xs e w' := by
  have e1 : dstTo xs = none := by unfold dstTo; rw [h]; rfl
  exact ⟨v', by unfold dstN; rw [h, e1]; exact he, by unfold dstR; rw [e1]; exact ho, hb⟩
theorem DstPost.fail {w w' : World} {xs : List Int} {e : Ending} {v' : Value} (h : strOk 15 xs = true) (e1 : dstTo xs = none) (he : e = .returned (.tuple #[v', .int .i64 0, .bool false, .bool true])) (ho : Own w' w.heap.size v' []) (hb : Below w.heap.size w w') : DstPost w xs e w' :=
  ⟨v', by unfold dstN; rw [h, e1]; exact he, by unfold dstR; rw [e1]; exact ho, hb⟩
theorem DstPost.yes {w w' : World} {xs o : List Int} {c : Nat} {e : Ending} {v' : Value} (h : strOk 15 xs = true) (e1 : dstTo xs = some (o, c)) (he : e = .returned (.tuple #[v', .int .i64 c, .bool true, .bool true])) (ho : Own w' w.heap.size v' o) (hb : Below w.heap.size w w') : DstPost w xs e w' :=
  ⟨v', by unfold dstN; rw [h, e1]; exact he, by unfold dstR; rw [e1]; exact ho, hb⟩

set_option maxHeartbeats 3200000 in
set_option maxRecDepth 100000 in
theorem implDst_any (v : Value) (xs : List Int) (w : World) (h : Rd w v xs) :
    Calls Try.prog 19 #[v] w (DstPost w xs) := by
  have ht := fun (b1 b2 b3 : Bool) h1 h2 h3 => strOk_of (m := 15) (xs := xs) (b1 := b1) (b2 := b2) (b3 := b3) h1 h2 h3
  obtain ⟨a, cap, n, HX, rfl, hnc, hla, HCM, ha⟩ := h.opnc
  rw [HX.out] at ht
  have HT := Lib.hid ht
  clear ht
  cases h1 : inB ((n : Int) / 15) 1 8
  · have hno := Lib.hid (HT.out false _ _ h1 rfl rfl)
    go_enter Try.func19, Try.ntmps19
    go_wp2_with (first | (go_at_call 68; refine (within_any _ _ _ _).mono ?_; rintro e w' ⟨rfl, rfl⟩))
    refine bodyPost_ret (results_tmp4 rfl _ _ _) rfl ?_
    exact DstPost.no hno.out rfl own_nil (Below.refl _ _)
  by_cases h2 : (n : Int) % 15 = 0
  case neg =>
    have h2b : ((n : Int) % 15 != 0) = true := by rw [bne_iff_ne]; exact h2
    have hno := Lib.hid (HT.out true false _ h1 (decide_eq_false h2) rfl)
    clear h2
    go_enter Try.func19, Try.ntmps19
    go_wp2_with (first | (go_at_call 68; refine (within_any _ _ _ _).mono ?_; rintro e w' ⟨rfl, rfl⟩))
    refine bodyPost_ret (results_tmp4 rfl _ _ _) rfl ?_
    exact DstPost.no hno.out rfl own_nil (Below.refl _ _)
  have h2b : ((n : Int) % 15 != 0) = false := by simp [h2]
  cases h3 : symL xs
  · have hno := Lib.hid (HT.out true true false h1 (decide_eq_true h2) h3)
    clear h2
    go_enter Try.func19, Try.ntmps19
    go_wp2_with (first | (go_at_call 68; refine (within_any _ _ _ _).mono ?_; rintro e w' ⟨rfl, rfl⟩) | (go_at_call 69; refine (areSymbols_any _ xs _ h).mono ?_; rintro e w' ⟨rfl, rfl⟩))
    refine bodyPost_ret (results_tmp4 rfl _ _ _) rfl ?_
    exact DstPost.no hno.out rfl own_nil (Below.refl _ _)
  have hok := HT.out true true true h1 (decide_eq_true h2) h3
  simp only [Bool.and_self] at hok
  obtain ⟨m, hm, hm1, hm8, hs, hq, hq2⟩ := strOk_parts (by omega) hok
  rw [HX.out] at hm hq
  have HOK := Lib.hid hok
  have HQ2 := Lib.hid hq2
  have HS := Lib.hid hs
  have HM := Lib.hid hm
  have hqq : (n : Int) / 15 = (m : Int) := hq
  obtain ⟨b, off, rfl, hbs, hc⟩ := ha (by omega)
  have HC := Lib.hid hc
  clear hok hs hq hq2 h2 hc hm
  obtain ⟨ys, hys⟩ : ∃ ys, dstAll xs = ys := ⟨_, rfl⟩
  have hysl : ys.length = 15 * m := by rw [← hys, dstAll, turn_len, HQ2.out]
  have hyss : symL ys = true := by rw [← hys]; exact turn_sym HS.out _ _ (by rw [HQ2.out, HX.out, HM.out])
  have HYT := Lib.hid (show turn xs 15 m = ys from by rw [← hys, dstAll, HQ2.out])
  have HDT := Lib.hid (show dstTo xs = decTo ys m from by unfold dstTo; rw [if_pos HOK.out, HQ2.out, hys])
  have HYL := Lib.hid hysl
  have HYS := Lib.hid hyss
  clear hysl hyss hys
  have HDE := Lib.hid (show tblOk xs (m : Int) = true ∧ deintL xs (m : Int) = ys from by rw [← HYT.out]; exact dst_deint (by rw [HX.out]; exact HM.out) hm1 hm8 HS.out)
  rw [hqq] at h1
  go_enter Try.func19, Try.ntmps19
  go_wp2_with (first | (go_at_call 68; refine (within_any _ _ _ _).mono ?_; rintro e w' ⟨rfl, rfl⟩) | (go_at_call 69; refine (areSymbols_any _ xs _ h).mono ?_; rintro e w' ⟨rfl, rfl⟩) | (go_at_call 13; refine (implDeint_any _ xs (m : Int) _ h).mono ?_; rintro e w1 ⟨v1, rfl, o1, b1⟩; rw [HDE.out.2] at o1; obtain ⟨ay, capy, ny, HNY, rfl, hncy, hlay, HCY, hay⟩ := o1.rd.opnc))
  have hsz1 := b1.size
  obtain ⟨by_, offy, rfl, hbsy, hcy⟩ := hay (by rw [← HNY.out, HYL.out]; omega)
  have HCC := Lib.hid hcy
  have hny : 15 * m ≤ ny := by rw [← HNY.out, HYL.out]; exact Nat.le_refl _
  have hny2 : ny ≤ 15 * m := by rw [← HNY.out, HYL.out]; exact Nat.le_refl _
  clear hcy hay o1
  have h0 : (w1.alloc (.cells #[] 3)).ownsRow w1.heap.size 3 1 (.slice (some ⟨w1.heap.size, 0, none⟩) 0 0) 0 (ints []) :=
    World.ownsRow_lit (base := w1.heap.size) (e := 3) (size := 1) w1 #[] 0 (Nat.le_refl _) (by simp) rfl
  have hb0 : Below w1.heap.size w1 (w1.alloc (.cells #[] 3)) := (Below.refl _ _).alloc (Nat.le_refl _) _
  go_loopw [9, 10, 11] (fun o c i wr => ∃ (k q : Nat) (l : List Int), k ≤ m ∧ i = .int .i64 ((k * 15 : Nat) : Int) ∧ c = .int .i64 q ∧ Hid (decTo ys k = some (l, q)) ∧ wr.ownsRow w1.heap.size 3 1 o (11 * k) (ints l) ∧ Below w1.heap.size w1 wr) (fun _ _ i _ => ny - (intOf i).toNat)
  case atStart => exact ⟨0, 0, [], by omega, rfl, rfl, rfl, h0, hb0⟩
  case round =>
    obtain ⟨k, q, l, hk, rfl, rfl, HD, hown, hbel⟩ := hrel
    have hlq := decTo_len k l q (by rw [HYL.out]; omega) HD.out
    by_cases hlt : k < m
    · have hkI : ((k * 15 : Nat) : Int) < (ny : Int) := by omega
      have hmI : (m : Int) ≤ 8 := by omega
      have hnI : (k : Int) * 15 + 15 ≤ (ny : Int) := by omega
      have hk15 : k * 15 + 15 ≤ ny := by omega
      have HSE := Lib.hid (show 15 * k = k * 15 from Nat.mul_comm _ _)
      have hrd := Lib.hid ((rd_sub HNY.out hncy HCY.out hbsy HCC.out (k * 15) 15 (by omega)).below hbel (fun q hq => by have e : by_ = q := (by simpa [Value.ownBlock] using hq); omega))
      have hsl : (sub ys (k * 15) 15).length = 15 := sub_len (by rw [HNY.out]; omega)
      have HBK := Lib.hid (show blkOk (sub ys (k * 15) 15) = true from by simp [blkOk, hsl, sub_sym HYS.out])
      have HSL := Lib.hid hsl
      have hsz := hbel.size
      have hq2 : q ≤ 16 := by omega
      have hql : l.length = 11 * k := hlq.1
      have HLL := Lib.hid hql
      clear hsl hlq hql
      go_wp2_with fail
      rw [show k * 15 + 15 - k * 15 = 15 from by omega]
      refine (corrected_any _ _ _ hrd.out (sub_sym HYS.out _ _) HSL.out).mono ?_
      rintro e w2 ⟨v2, v3, rfl, o2, o3, _, b2⟩
      have hb2 := hbel.trans (b2.mono hsz)
      have hs2 := hb2.size
      cases hd : dec (sub ys (k * 15) 15) with
      | none =>
        have HF := Lib.hid (HDT.out.trans (decTo_fail hlt (by rw [HSE.out]; exact hd)))
        go_wp2
        refine bodyPost_ret (results_tmp4 rfl _ _ _) rfl ?_
        have hB := b1.trans (hb2.mono hsz1)
        exact DstPost.fail HOK.out HF.out rfl own_nil hB
      | some ps =>
        have HST := Lib.hid (decTo_step HD.out (show dec (sub ys (15 * k) 15) = some ps by rw [HSE.out]; exact hd))
        have o4 : Own w2 wr.heap.size v2 ((fillR (sub ys (k * 15) 15) ps).drop 4) := by unfold decData at o2; rw [hd] at o2; exact o2
        have o5 : Own w2 wr.heap.size v3 ps := by unfold decPl at o3; rw [hd] at o3; exact o3
        have HFL := Lib.hid (show ((fillR (sub ys (k * 15) 15) ps).drop 4).length = 11 from by rw [List.length_drop, fillR_len, HSL.out])
        obtain ⟨a5, c5, n5, HN5, rfl, _, _, _⟩ := o5.rd.opn
        have hn5 : n5 ≤ 2 := by rw [← HN5.out]; exact (dec_some hd).2.2
        have hown2 := ownsRow_below hown b2 (fun q hq => (hown.lt q hq).2)
        clear hown hbel hd o2 o3 o5
        go_wp2_with (at_builtin; refine wpList_cat rfl (.tmp 57) (.tmp 58) 24 rfl Try.underlying24 Try.infoInt w1.heap.size _ (11 * k) l rfl hown2 _ ((fillR (sub ys (k * 15) 15) ps).drop 4) rfl o4.rd (by rw [HFL.out]; omega) (by rw [HFL.out]; omega) hs2 ?_; intro v6 w3 hown3 hgrow3; have hb3 := below_push hb2 hown2 hgrow3 (Nat.le_refl _) hs2; rw [HFL.out] at hown3)
        clear hown2 hb2 hgrow3
        go_roundw
        case rel => exact ⟨k + 1, q + n5, _, by omega, by rw [show (((k + 1) * 15 : Nat) : Int) = (k : Int) * 15 + 15 by omega], by go_num, by rw [HST.out, HSE.out, HN5.out]; rfl, hown3, hb3⟩
        case measure => simp [intOf]; omega
    · obtain rfl : k = m := by omega
      have hge : ¬ (((k * 15 : Nat) : Int) < (ny : Int)) := by rw [← HNY.out, HYL.out]; omega
      have HDD := Lib.hid (HDT.out.trans HD.out)
      have hB := Lib.hid (b1.trans (hbel.mono hsz1))
      have hO := Lib.hid (own_of_row hown)
      go_wp2
      refine bodyPost_ret (results_tmp4 rfl _ _ _) rfl ?_
      exact DstPost.yes HOK.out HDD.out rfl (hO.out.mono hsz1) hB.out
end Go.Proofs.Ytlemielobmbadaa
