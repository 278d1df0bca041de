/- The law FnStreams. -/
import Derived.Test.YtlemielobmbadaaStmD
import Derived.Test.YtlemielobmbadaaStmQ
import Derived.Test.YtlemielobmbadaaCdw
import Derived.Test.YtlemielobmbadaaStrW
import Derived.Test.YtlemielobmbadaaDstW
import Derived.Test.YtlemielobmbadaaLeavD
namespace Go.Proofs.Ytlemielobmbadaa
open Go.RowKit
set_option maxRecDepth 100000

/-- The list with a burst, and what has been since. -/
def BurSt (w0 : World) (S : List Int) (a i : Nat) (v : Value) (wx : World) : Prop := Below w0.heap.size w0 wx ∧ ∃ d, Bst S a i d ∧ Own wx w0.heap.size v d
theorem dstGood {xs : List Int} {n : Nat} {v : Value} {d : List Int} (h : ∃ c, c ≤ 2 * n ∧ dstTo d = some (xs, c)) (w : World) (hr : Rd w v d) :
    Calls Try.prog 19 #[v] w fun e w' => ∃ (p : Value) (c : Nat), e = .returned (.tuple #[p, .int .i64 (c : Int), .bool true, .bool true]) ∧ c ≤ 2 * n ∧ Own w' w.heap.size p xs ∧ Below w.heap.size w w' := by
  obtain ⟨c, hc, h⟩ := h
  obtain ⟨h1, h2, h3, h4⟩ := dst_got h
  refine (implDst_any v d w hr).mono ?_
  rintro e w' ⟨p, rfl, o, b⟩
  rw [h1, h2, h3]
  rw [h4] at o
  exact ⟨p, c, rfl, hc, o, b⟩
set_option maxHeartbeats 6400000 in
theorem FnStreams_walk (a0 : Option Addr) (len0 cap0 : Nat) (z0 : List Int) (w : World) (hr : RawB w a0 len0 cap0 z0) :
    Calls Try.prog 3 #[.slice a0 len0 cap0] w fun e w' => e = .returned (.bool true) ∧ Below w.heap.size w w' := by
  by_cases hbig : (65536 : Int) < (len0 : Int)
  · have hd : decide ((65536 : Int) < (len0 : Int)) = true := by simpa using hbig
    go_enter Try.func3, Try.ntmps3
    go_wp2_with fail
    refine (vBig_any _ _ _ _).mono ?_
    rintro e w' ⟨rfl, rfl⟩
    go_wp2
    go_ret
    exact ⟨rfl, Below.refl _ _⟩
  have hd : decide ((65536 : Int) < (len0 : Int)) = false := by simpa using hbig
  have hrd := hr.rd (by omega)
  have HRD := Lib.hid hrd
  have HRL := Lib.hid (fun (w' : World) (hb : Below w.heap.size w w') => RdB.below hrd hb)
  have HAT := Lib.hid (fun (i : Nat) (hi : i ≤ 1000000) => vAt_fix _ i w hrd hi)
  have HAK := Lib.hid (fun (w' : World) (hb : Below w.heap.size w w') (j : Nat) (hj : bb (.slice a0 len0 cap0) = some j) => hb.block j (hrd.lt j hj))
  clear hr hrd
  go_enter Try.func3, Try.ntmps3
  go_wp2_with fail
  refine (vBig_any _ _ _ _).mono ?_
  rintro e w' ⟨rfl, rfl⟩
  go_wp2_with fail
  refine (drawInter_any _ _ HRD.out).mono ?_
  rintro e w1 ⟨v1, xs, r, rfl, hl1, r0, r1, o1, b1⟩
  have B1 := Lib.hid b1
  have O1 := Lib.hid o1
  have HDI := Lib.hid (fun h : tblOk xs r = true => deint_inter h)
  clear b1 o1 hl1 r0 r1
  go_wp2_with fail
  refine (implInter_any v1 xs r _ O1.out.rd).mono ?_
  rintro e w2 ⟨v2, rfl, o2, b2⟩
  have B2 := Lib.hid (B1.out.trans (b2.mono B1.out.size))
  have O1' := Lib.hid (O1.out.belowAll b2)
  have O2 := Lib.hid o2
  clear b2 o2 B1 O1
  go_wp2_with fail
  refine (specInter_any v1 xs r _ O1'.out.rd).mono ?_
  rintro e w3 ⟨v3, rfl, o3, b3⟩
  have B3 := Lib.hid (B2.out.trans (b3.mono B2.out.size))
  have R1 := Lib.hid (O1'.out.belowAll b3).rd
  have R2 := Lib.hid (O2.out.belowAll b3).rd
  clear b3 o3 B2 O1' O2
  generalize hdk : tblOk xs r = ok at *
  have d1 : (ok != ok) = false := by simp
  go_upto_if 46 with fail
  go_cut [] from 47 to 60 (fun wx => Hid (Below w.heap.size w wx))
  case first =>
    cases ok
    · go_wp2_with fail
      go_meet
      exact B3.out
    obtain ⟨hok, hde⟩ := HDI.out rfl
    have HC := Lib.hid (fun w (h : Rd w v2 (interL xs r)) => implDeint_any v2 (interL xs r) r w h)
    rw [hok, hde] at HC
    clear hok hde HDI hdk
    go_wp2_with fail
    refine (HC.out _ R2.out).mono ?_
    rintro e w4 ⟨v4, rfl, o4, b4⟩
    have B4 := Lib.hid (B3.out.trans (b4.mono B3.out.size))
    have R4 := Lib.hid o4.rd
    have R5 := Lib.hid (R1.out.belowAll b4)
    clear b4 o4
    go_wp2_with fail
    refine (vSame _ _ xs _ R4.out R5.out).mono ?_
    rintro e w5 ⟨rfl, n5, rfl⟩
    have B6 := Lib.hid (show Below w.heap.size w (w4.drewN n5) from B4.out.trans ⟨rfl, rfl, rfl, Nat.le_refl _, fun _ _ => rfl⟩)
    go_wp2
    go_meet
    exact B6.out
  case rest =>
  have B5 := hcut
  clear HDI R1 R2 B3 hcut hdk d1
  go_wp2_with fail
  refine (drawEncS_any _ _ (HRL.out _ B5.out)).mono ?_
  rintro e w6 ⟨v6, ys, rfl, hl6, o6, b6⟩
  have B6 := Lib.hid (B5.out.trans (b6.mono B5.out.size))
  have O6 := Lib.hid o6
  clear b6 o6 B5
  go_wp2_with fail
  refine (implStr_any v6 ys _ O6.out.rd).mono ?_
  rintro e w7 ⟨v7, rfl, o7, b7⟩
  have B7 := Lib.hid (B6.out.trans (b7.mono B6.out.size))
  have O6' := Lib.hid (O6.out.belowAll b7)
  have O7 := Lib.hid o7
  clear b7 o7 B6 O6
  go_wp2_with fail
  refine (specStr_any v6 ys _ O6'.out.rd).mono ?_
  rintro e w8 ⟨v8, rfl, o8, b8⟩
  have B8 := Lib.hid (B7.out.trans (b8.mono B7.out.size))
  have R6 := Lib.hid (O6'.out.belowAll b8).rd
  have O7' := Lib.hid (O7.out.belowAll b8)
  clear b8 o8 B7 O6' O7
  have hno : strOk 11 ys = false → streR ys = [] := fun h => by unfold streR; rw [h]; rfl
  have hyes := @str_facts ys
  generalize strOk 11 ys = t at *
  cases t
  · have hnil := hno rfl
    have O9 := O7'.out
    rw [hnil] at O9
    obtain ⟨a, cap, n, HX, rfl, _⟩ := O9.rd.opn
    obtain rfl : n = 0 := HX.out.symm
    clear O9 O7' hyes hno hnil HX
    go_wp2
    go_ret
    exact ⟨rfl, B8.out⟩
  obtain ⟨n, hn, hn1, hn8, hys, hS, hSl, hSs⟩ := hyes rfl
  have HDN := Lib.hid (show ∀ (d : List Int) (a i : Nat), Bst (streR ys) a i d → i ≤ a + 2 * n → ∃ c, c ≤ 2 * n ∧ dstTo d = some (ys, c) from fun d a i h hi => Bst.done hn hn1 hn8 hys (by rw [← hS]; exact h) hi)
  have HST := Lib.hid (fun a : Nat => Bst.start hSs a)
  have HSL := Lib.hid hSl
  have h0n : 0 < 15 * n := by omega
  obtain ⟨g7, f7, k7, rfl, -, -, hk7, -⟩ := O7'.out.openN HSL.out h0n
  obtain ⟨a6, c6, n6, HN6, rfl, hn6c, -, -⟩ := R6.out.opn
  have HN6' := Lib.hid (show n6 = 11 * n by rw [← HN6.out]; exact hn)
  have R7 := Lib.hid O7'.out.rd
  have hdiv : (n6 : Int) / 11 = (n : Int) := by rw [HN6'.out]; omega
  have hL1 : (15 * (n : Int)) ≤ 120 := by omega
  have hL0 : 0 < (15 * (n : Int)) := by omega
  obtain ⟨x7, hx7, HX7⟩ := HAT.out 7 (by omega)
  obtain ⟨L, hLe⟩ : ∃ L : Nat, L = 15 * n := ⟨_, rfl⟩
  have HLe := Lib.hid hLe
  obtain ⟨q, hq⟩ : ∃ q : Nat, x7 % (L : Int) = (q : Int) := ⟨(x7 % (L : Int)).toNat, by
    have := Int.emod_nonneg x7 (show (L : Int) ≠ 0 by omega); omega⟩
  have hqL : q < L := by
    have := Int.emod_lt_of_pos x7 (show (0 : Int) < (L : Int) by omega); omega
  have hLb : 1 ≤ L ∧ L ≤ 120 := by omega
  have hL00 : ¬ (L : Int) = 0 := by omega
  rw [← hLe] at R7 HSL hk7
  simp only [← hLe]
  have HC7 := Lib.hid (HX7 w8 B8.out.size (HAK.out _ B8.out))
  clear hno hyes hn hys hS hSl hSs h0n O7' HN6 hLe HX7 hL1 hL0 hl6
  go_wp2_with fail
  refine (HC7.out).mono ?_
  rintro e w9 ⟨rfl, rfl⟩
  have hown0 : (w9.alloc (.cells #[] 3)).ownsRow w9.heap.size 3 1 (.slice (some ⟨w9.heap.size, 0, none⟩) 0 0) 0 (ints []) := World.ownsRow_lit (base := w9.heap.size) (e := 3) (size := 1) w9 #[] 0 (Nat.le_refl _) (by simp) rfl
  have hba := (Below.refl w9.heap.size w9).alloc (Nat.le_refl _) (.cells #[] 3)
  have hrdc := R7.out.belowAll hba
  have hly := Lib.hid (show 0 < (streR ys).length by rw [HSL.out]; omega)
  have hlm := Lib.hid (show 0 + (streR ys).length ≤ 1099511627776 by rw [HSL.out]; omega)
  go_wp2_with (at_builtin; go_loud (refine wpList_cat rfl (.tmp 96) (.tmp 97) 24 rfl Try.underlying24 Try.infoInt w9.heap.size (.slice (some ⟨w9.heap.size, 0, none⟩) 0 0) 0 [] rfl hown0 _ (streR ys) rfl hrdc hly.out hlm.out (by simp) ?_; intro v12 w10 hown10 hgrow10; have H10 := Lib.hid hown10; have G10 := Lib.hid hgrow10; clear hown10 hgrow10 hrdc hba hown0))
  try simp only [hq]
  have O10 := own_of_row H10.out
  obtain ⟨g3, f3, k3, rfl, hg3, hg3', hk3, hk3'⟩ := Own.openN (n := L) (show Own w10 w9.heap.size v12 (streR ys) from O10) HSL.out (by omega)
  have b10 : Below w9.heap.size w9 w10 := ((Below.refl _ _).alloc (Nat.le_refl _) _).grown G10.out (by simp) (fun k hk => by have e : w9.heap.size = k := (by simpa [Value.ownBlock] using hk); exact Nat.le_of_eq e)
  have HK9 := Lib.hid (fun (w' : World) (hb : Below w9.heap.size w9 w') => (show Below w.heap.size w w' ∧ Rd w' (.slice a6 n6 c6) ys from ⟨B8.out.trans (hb.mono B8.out.size), R6.out.belowAll hb⟩))
  have S10 := Lib.hid (show BurSt w9 (streR ys) q q (.slice (some ⟨g3, f3, none⟩) L k3) w10 from ⟨b10, _, HST.out q, O10⟩)
  clear hq O10 b10 H10 G10 B8 R6 R7 HC7 HST hdiv HN6' hly hlm
  go_wp2_with fail
  go_loopw [19] (fun iv wr => ∃ i : Nat, iv = .int .i64 (i : Int) ∧ q ≤ i ∧ i ≤ q + 2 * n ∧ i ≤ L ∧ Hid (BurSt w9 (streR ys) q i (.slice (some ⟨g3, f3, none⟩) L k3) wr)) (fun iv _ => 500 - (intOf iv).toNat)
  case atStart => exact ⟨q, rfl, by omega, by omega, by omega, S10.out⟩
  case round =>
    obtain ⟨i, rfl, hqi, hiq, hiL, HS⟩ := hrel
    obtain ⟨b, d, hd, ho⟩ := HS.out
    by_cases hc : i < q + 2 * n ∧ i < L
    · obtain ⟨hc1, hc2⟩ := hc
      have h1 : (i : Int) < (q : Int) + 2 * (n : Int) := by omega
      have h2 : (i : Int) < (L : Int) := by omega
      have h1b : decide ((i : Int) < (q : Int) + 2 * (n : Int)) = true := by simpa using h1
      have h2b : decide ((i : Int) < (L : Int)) = true := by simpa using h2
      obtain ⟨xi, hxi, HXi⟩ := HAT.out i (by omega)
      have HDL := Lib.hid (show d.length = L by rw [hd.1]; exact HSL.out)
      have hw := (HK9.out wr b).1
      have hx := symD hd.2.1 i
      have hcell := (ho.cellAt rfl).2 i (by rw [HDL.out]; exact hc2)
      have hfr := ho.frozenAt rfl (f3 + i)
      have HT := Lib.hid (ho.stored rfl i (by rw [HDL.out]; exact hc2) (xr (d[i]?.getD 0) (xi % 16)))
      have hx1 := hx.1
      have hx2 := hx.2
      have hxb : 0 ≤ xi % 16 ∧ xi % 16 ≤ 15 := by omega
      have hy1 := hxb.1
      have hy2 := hxb.2
      have HD2 := Lib.hid (hd.step hqi (show Sym (xr (d[i]?.getD 0) (xi % 16)) from xr_bd hx1 hx2 hy1 hy2))
      have HBW := Lib.hid b
      have HCi := HXi wr.drew hw.drew.size (HAK.out _ hw.drew)
      clear ho b hw hd HS HXi hxb hx
      go_wp2_with fail
      go_still_tail 12, (by kernel_rfl)
      still_call HCi
      repeat still_step
      refine wpStill_nil ?_
      go_wp2
      go_roundw
      case rel =>
        first
          | exact ⟨i + 1, by go_num, by omega, by omega, by omega, ⟨(HBW.out.grown HT.out.2 HBW.out.size (fun k hk => by cases hk; exact hg3)).drew, _, HD2.out, HT.out.1.drew⟩⟩
          | ((repeat apply Exists.intro); refine ⟨?_, rfl⟩; exact ⟨i + 1, by go_num, by omega, by omega, by omega, ⟨(HBW.out.grown HT.out.2 HBW.out.size (fun k hk => by cases hk; exact hg3)).drew, _, HD2.out, HT.out.1.drew⟩⟩)
      case measure =>
        show 500 - (intOf (Value.int .i64 ((i : Int) + 1))).toNat < 500 - (intOf (Value.int .i64 (i : Int))).toNat
        simp only [intOf]; omega
    · have HG := Lib.hid (HDN.out d q i hd hiq)
      have RD := Lib.hid ho.rd
      have HBW := Lib.hid b
      clear hd ho b HS
      have hor : (decide ((i : Int) < (q : Int) + 2 * (n : Int)) = false ∧ ¬ (i : Int) < (q : Int) + 2 * (n : Int)) ∨ ((decide ((i : Int) < (q : Int) + 2 * (n : Int)) = true ∧ (i : Int) < (q : Int) + 2 * (n : Int)) ∧ decide ((i : Int) < (L : Int)) = false ∧ ¬ (i : Int) < (L : Int)) := by
        by_cases h : i < q + 2 * n
        · exact .inr ⟨⟨by simp; omega, by omega⟩, by simp; omega, by omega⟩
        · exact .inl ⟨by simp; omega, by omega⟩
      rcases hor with ⟨f1, f2⟩ | ⟨⟨f1, f2⟩, f3', f4⟩
      all_goals
        go_wp2_with fail
        refine (dstGood HG.out _ RD.out).mono ?_
        rintro e w15 ⟨v20, c, rfl, hc2n, o20, b20⟩
        have HB20 := Lib.hid (HBW.out.trans (b20.mono HBW.out.size))
        have O20 := Lib.hid o20.rd
        have R20 := Lib.hid (HK9.out _ HB20.out).2
        have hcI : (c : Int) ≤ 2 * (n : Int) := by omega
        have hcb : decide ((c : Int) ≤ 2 * (n : Int)) = true := by simpa using hcI
        clear o20 b20
        go_wp2_with fail
        refine (vSame _ _ ys _ O20.out R20.out).mono ?_
        rintro e w17 ⟨rfl, n17, rfl⟩
        have HBF := Lib.hid (HK9.out _ (show Below w9.heap.size w9 (w15.drewN n17) from HB20.out.trans ⟨rfl, rfl, rfl, Nat.le_refl _, fun _ _ => rfl⟩)).1
        go_wp2
        go_ret
        exact ⟨rfl, HBF.out⟩
end Go.Proofs.Ytlemielobmbadaa
