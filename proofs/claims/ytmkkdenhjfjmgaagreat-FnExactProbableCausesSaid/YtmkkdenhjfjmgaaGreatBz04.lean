/- Joined: XMsk XBit XNetW XNetS XHas XMid XRecP. -/
import Derived.Test.YtmkkdenhjfjmgaaGreatBz03
import Derived.Test.YtmkkdenhjfjmgaaGreatBz01
import Derived.Deep.MidRow
import Derived.WalkKit
import Derived.Lib.Hide
namespace Go.Proofs.YtmkkdenhjfjmgaaGreat
open Go.RowKit Go.Sort
set_option maxRecDepth 100000

theorem mskN_bit (f c i : Nat) : (mskN f c).testBit i = (decide (f ≤ i) && decide (i < f + c)) := by
  unfold mskN
  rw [Nat.testBit_mul_two_pow, Nat.testBit_two_pow_sub_one]
  by_cases h : f ≤ i
  · simp only [h, decide_true, Bool.true_and, ge_iff_le]
    rw [decide_eq_decide]; omega
  · simp [h]
theorem mskN_meet (f c g d : Nat) (hc : 0 < c) (hd : 0 < d) : (mskN f c &&& mskN g d = 0) ↔ ¬ (f < g + d ∧ g < f + c) := by
  constructor
  · intro h ⟨h1, h2⟩
    have := congrArg (fun x => x.testBit (max f g)) h
    simp only [Nat.testBit_and, mskN_bit, Nat.zero_testBit, Bool.and_eq_false_iff, decide_eq_false_iff_not] at this
    omega
  · intro h
    apply Nat.eq_of_testBit_eq
    intro i
    simp only [Nat.testBit_and, mskN_bit, Nat.zero_testBit, Bool.and_eq_false_iff, decide_eq_false_iff_not]
    omega
theorem mskN_lt (f c : Nat) (h : f + c ≤ 24) : mskN f c < 16777216 := by
  unfold mskN
  have h1 : 2 ^ c * 2 ^ f ≤ 2 ^ 24 := by rw [← Nat.pow_add]; exact Nat.pow_le_pow_right (by omega) (by omega)
  have h2 : (2 ^ c - 1) * 2 ^ f + 2 ^ f = 2 ^ c * 2 ^ f := by
    have : 0 < 2 ^ c := Nat.two_pow_pos c
    rw [Nat.sub_mul, Nat.one_mul]
    exact Nat.sub_add_cancel (Nat.le_mul_of_pos_left _ this)
  have h3 : 0 < 2 ^ f := Nat.two_pow_pos f
  omega
theorem msk_val {f c : Nat} (h : f + c ≤ 24) : wrap64 (wrap64 (wrap64 ((2 : Int) ^ c) - 1) * (2 : Int) ^ f) = (mskN f c : Int) := by
  have hm := mskN_lt f c h
  have hc : 2 ^ c ≤ 2 ^ 24 := Nat.pow_le_pow_right (by omega) (by omega)
  have hc0 : 0 < 2 ^ c := Nat.two_pow_pos c
  have e1 : (2 : Int) ^ c = ((2 ^ c : Nat) : Int) := by simp
  have e2 : (2 : Int) ^ f = ((2 ^ f : Nat) : Int) := by simp
  rw [e1, e2]
  have w1 : wrap64 ((2 ^ c : Nat) : Int) = ((2 ^ c : Nat) : Int) := IntWalk.wrap64_in _ (by omega)
  have e3 : (((2 ^ c : Nat) : Int) - 1) = ((2 ^ c - 1 : Nat) : Int) := by omega
  have w2 : wrap64 ((2 ^ c - 1 : Nat) : Int) = ((2 ^ c - 1 : Nat) : Int) := IntWalk.wrap64_in _ (by omega)
  rw [w1, e3, w2, ← Int.natCast_mul]
  show wrap64 ((mskN f c : Nat) : Int) = _
  exact IntWalk.wrap64_in _ (by omega)
theorem maskOf_any (f c : Nat) (w : World) (h : f + c ≤ 24) :
    Calls Tryz.prog 181 #[.agg #[.int .i64 f, .int .i64 c]] w fun e w' => e = .returned (.int .i64 (mskN f c)) ∧ Below w.heap.size w w' := by
  obtain ⟨bx, bc, -, -⟩ := box_facts w #[.int .i64 f, .int .i64 c] 92
  have q0 := bc 0 _ rfl
  have q1 := bc 1 _ rfl
  have HBX := Lib.hid bx
  have HVV := Lib.hid (msk_val h)
  clear bc bx
  go_enter Tryz.func181, Tryz.ntmps181
  go_wp2
  go_quiet (fail)
  go_wp2
  go_ret
  exact ⟨by rw [← HVV.out]; rfl, ⟨HBX.out.os, HBX.out.tape, HBX.out.output, HBX.out.size, HBX.out.block⟩⟩
theorem l8Bits_any (f c : Nat) (w : World) (h : f + c ≤ 24) :
    Calls Tryz.prog 189 #[.agg #[.int .i64 f, .int .i64 c]] w fun e w' => e = .returned (.int .i64 (mskN f c)) ∧ Below w.heap.size w w' := by
  obtain ⟨bx, bc, -, -⟩ := box_facts w #[.int .i64 f, .int .i64 c] 92
  have q0 := bc 0 _ rfl
  have q1 := bc 1 _ rfl
  have HBX := Lib.hid bx
  have HVV := Lib.hid (msk_val h)
  clear bc bx
  go_enter Tryz.func189, Tryz.ntmps189
  go_wp2
  go_ret
  exact ⟨by rw [← HVV.out]; rfl, HBX.out⟩
theorem bits_and {a b : Nat} (ha : a < 16777216) (hb : b < 16777216) : bits .and .i64 (a : Int) (b : Int) = ((a &&& b : Nat) : Int) := by
  have hab : a &&& b ≤ a := Nat.and_le_left
  have e : (BitVec.ofInt 64 (a : Int) &&& BitVec.ofInt 64 (b : Int)).toNat = a &&& b := by
    rw [BitVec.toNat_and, BitVec.ofInt_natCast, BitVec.ofInt_natCast, BitVec.toNat_ofNat, BitVec.toNat_ofNat, Nat.mod_eq_of_lt (by omega), Nat.mod_eq_of_lt (by omega)]
  unfold bits
  show IntKind.i64.wrap (((BitVec.ofInt 64 (a : Int) &&& BitVec.ofInt 64 (b : Int)).toNat : Nat) : Int) = _
  rw [e, IntWalk.i64_in _ (by omega)]
theorem bits_meet {f c g d : Nat} (hc : 0 < c) (hd : 0 < d) (h1 : f + c ≤ 24) (h2 : g + d ≤ 24) : (bits .and .i64 (mskN f c : Int) (mskN g d : Int) != 0) = decide ((f : Int) < g + d ∧ (g : Int) < f + c) := by
  rw [bits_and (mskN_lt f c h1) (mskN_lt g d h2), Bool.eq_iff_iff, bne_iff_ne, decide_eq_true_eq]
  have := mskN_meet f c g d hc hd
  omega
end Go.Proofs.YtmkkdenhjfjmgaaGreat
namespace Go.Proofs.YtmkkdenhjfjmgaaGreat
open Go.RowKit Go.Sort
set_option maxRecDepth 100000

theorem bits_or {a b : Nat} (ha : a < 16777216) (hb : b < 16777216) : bits .or .i64 (a : Int) (b : Int) = ((a ||| b : Nat) : Int) := by
  have hab : a ||| b < 2 ^ 24 := or_lt (by omega) (by omega)
  have e : (BitVec.ofInt 64 (a : Int) ||| BitVec.ofInt 64 (b : Int)).toNat = a ||| b := by
    rw [BitVec.toNat_or, BitVec.ofInt_natCast, BitVec.ofInt_natCast, BitVec.toNat_ofNat, BitVec.toNat_ofNat, Nat.mod_eq_of_lt (by omega), Nat.mod_eq_of_lt (by omega)]
  unfold bits
  show IntKind.i64.wrap (((BitVec.ofInt 64 (a : Int) ||| BitVec.ofInt 64 (b : Int)).toNat : Nat) : Int) = _
  rw [e, IntWalk.i64_in _ (by omega)]
theorem xor_lt24 {a b : Nat} (ha : a < 16777216) (hb : b < 16777216) : a ^^^ b < 2 ^ 24 := Nat.xor_lt_two_pow (by omega) (by omega)
theorem bits_xor {a b : Nat} (ha : a < 16777216) (hb : b < 16777216) : bits .xor .i64 (a : Int) (b : Int) = ((a ^^^ b : Nat) : Int) := by
  have hab := xor_lt24 ha hb
  have e : (BitVec.ofInt 64 (a : Int) ^^^ BitVec.ofInt 64 (b : Int)).toNat = a ^^^ b := by
    rw [BitVec.toNat_xor, BitVec.ofInt_natCast, BitVec.ofInt_natCast, BitVec.toNat_ofNat, BitVec.toNat_ofNat, Nat.mod_eq_of_lt (by omega), Nat.mod_eq_of_lt (by omega)]
  unfold bits
  show IntKind.i64.wrap (((BitVec.ofInt 64 (a : Int) ^^^ BitVec.ofInt 64 (b : Int)).toNat : Nat) : Int) = _
  rw [e, IntWalk.i64_in _ (by omega)]
theorem shl_one {k : Nat} (hk : k < 24) : wrap64 ((2 : Int) ^ k) = ((2 ^ k : Nat) : Int) := by
  have : (2 : Nat) ^ k < 2 ^ 24 := Nat.pow_lt_pow_right (by omega) hk
  have e : (2 : Int) ^ k = ((2 ^ k : Nat) : Int) := by simp
  rw [e]
  generalize (2 : Nat) ^ k = P at *
  exact IntWalk.wrap64_in _ (by omega)
theorem bit_at {M : Nat} (k : Nat) (hM : M < 16777216) : bits .and .i64 ((M : Int) / (2 : Int) ^ k) 1 = if M.testBit k then 1 else 0 := by
  have e : (M : Int) / (2 : Int) ^ k = ((M / 2 ^ k : Nat) : Int) := by simp
  have hle : M / 2 ^ k ≤ M := Nat.div_le_self _ _
  rw [e, show (1 : Int) = ((1 : Nat) : Int) from rfl, bits_and (by omega) (by omega), Nat.and_one_is_mod, Nat.testBit_eq_decide_div_mod_eq]
  by_cases h : M / 2 ^ k % 2 = 1
  · rw [h]; simp
  · have : M / 2 ^ k % 2 = 0 := by omega
    rw [this]; simp
theorem bit_on {M k : Nat} (hM : M < 16777216) (h : M.testBit k = true) : bits .and .i64 ((M : Int) / (2 : Int) ^ k) 1 = 1 := by rw [bit_at k hM, h]; rfl
theorem bit_off {M k : Nat} (hM : M < 16777216) (h : M.testBit k = false) : bits .and .i64 ((M : Int) / (2 : Int) ^ k) 1 = 0 := by rw [bit_at k hM, h]; rfl
theorem pow_lt24 {k : Nat} (hk : k < 24) : 2 ^ k < 16777216 := Nat.lt_of_lt_of_le (Nat.pow_lt_pow_right (by omega) hk) (Nat.le_refl (2 ^ 24))
theorem le12 {a L : Nat} (h : a < 2 ^ L) (hL : L ≤ 12) : a < 16777216 := Nat.lt_of_lt_of_le (Nat.lt_of_lt_of_le h (Nat.pow_le_pow_right (by omega) hL)) (by omega)

set_option maxHeartbeats 1600000 in
theorem l25Union_any (va vb : Value) (ms : List Nat) (gs : List Int) (w : World) (ha : Rd w va (nats ms)) (hb : Rd w vb gs) (hms : ∀ m ∈ ms, m < 2 ^ 12)
    (hgs : ∀ i : Nat, i < gs.length → 0 ≤ gs[i]?.getD 0 ∧ gs[i]?.getD 0 < ms.length) :
    Calls Tryz.prog 60 #[va, vb] w fun e w' => e = .returned (.int .i64 (uni ms gs)) ∧ w = w' := by
  obtain ⟨a1, c1, n1, HN1, rfl, _, hn1, ha1⟩ := ha.opn
  obtain ⟨a2, c2, n2, HN2, rfl, _, hn2, ha2⟩ := hb.opn
  have HA1 := Lib.hid ha1
  have HA2 := Lib.hid ha2
  have HGS := Lib.hid hgs
  have HU := Lib.hid (fun k hk => @uni_take ms gs k hk)
  have HL := Lib.hid (fun k => show uni ms (gs.take k) < 16777216 from le12 (uni_lt hms) (Nat.le_refl _))
  have HM := Lib.hid (fun i => show (ms[i]?.getD 0) < 16777216 from by
    by_cases h : i < ms.length
    · rw [List.getElem?_eq_getElem h]; exact le12 (hms _ (List.getElem_mem h)) (Nat.le_refl _)
    · rw [List.getElem?_eq_none (by omega)]; show (0 : Nat) < _; omega)
  have HNA := Lib.hid (nats_at ms)
  have HT := Lib.hid (show uni ms (gs.take n2) = uni ms gs by rw [List.take_of_length_le (Nat.le_of_eq HN2.out)])
  have hml : ms.length = n1 := by have := HN1.out; rwa [nats_len] at this
  rw [hml, HN2.out] at HGS
  rw [HN2.out] at HU
  clear hml ha hb ha1 ha2 hgs hms
  go_enter Tryz.func60, Tryz.ntmps60
  go_wp2
  go_loopw [5, 6] (fun s5 i wr => ∃ k : Nat, k ≤ n2 ∧ i = .int .i64 k ∧ s5 = .int .i64 (uni ms (gs.take k)) ∧ wr = w) (fun _ i _ => n2 - (intOf i).toNat)
  case atStart => exact ⟨0, Nat.zero_le _, rfl, rfl, rfl⟩
  case round =>
    obtain ⟨k, hk, rfl, rfl, rfl⟩ := hrel
    by_cases hlt : k < n2
    · have hltI : (k : Int) < (n2 : Int) := by omega
      obtain ⟨b, off, rfl, hbs, hcs⟩ := HA2.out (by omega)
      have e0 := hcs k hlt
      have hg := HGS.out k hlt
      have HUK := Lib.hid (HU.out k hlt)
      have HLK := Lib.hid (HL.out k)
      clear hcs
      generalize gs[k]?.getD 0 = g at *
      obtain ⟨gn, rfl⟩ : ∃ gn : Nat, g = (gn : Int) := ⟨g.toNat, by omega⟩
      have hgn : gn < n1 := by omega
      have hgnI : (gn : Int) < (n1 : Int) := by omega
      obtain ⟨b1, off1, rfl, hbs1, hcs1⟩ := HA1.out (by omega)
      have e1 := hcs1 gn hgn
      rw [HNA.out] at e1
      have HMG := Lib.hid (HM.out gn)
      rw [show ((gn : Int)).toNat = gn from rfl] at HUK
      clear hcs1 hg
      generalize ms[gn]?.getD 0 = mg at *
      generalize uni ms (gs.take k) = un at *
      have hor := bits_or HLK.out HMG.out
      go_wp2
      go_roundw
      case rel => exact ⟨k + 1, hlt, by go_num, by rw [HUK.out], trivial⟩
      case measure => simp [intOf]; omega
    · obtain rfl : n2 = k := by omega
      go_wp2
      go_ret
      exact ⟨by rw [← HT.out]; rfl, rfl⟩
end Go.Proofs.YtmkkdenhjfjmgaaGreat
namespace Go.Proofs.YtmkkdenhjfjmgaaGreat
open Go.RowKit Go.Sort
set_option maxRecDepth 100000

theorem fib_cases (f : Fib) (m : Nat) :
    (decide (f.a < 0) = true ∧ fibOk f m = false) ∨
    (decide (f.a < 0) = false ∧ decide (f.b ≤ f.a) = true ∧ fibOk f m = false) ∨
    (decide (f.a < 0) = false ∧ decide (f.b ≤ f.a) = false ∧ decide ((m : Int) ≤ f.b) = true ∧ fibOk f m = false) ∨
    (decide (f.a < 0) = false ∧ decide (f.b ≤ f.a) = false ∧ decide ((m : Int) ≤ f.b) = false ∧ inB f.l 1 5000 = false ∧ fibOk f m = false) ∨
    (decide (f.a < 0) = false ∧ decide (f.b ≤ f.a) = false ∧ decide ((m : Int) ≤ f.b) = false ∧ inB f.l 1 5000 = true ∧ inB f.r 0 9 = false ∧ fibOk f m = false) ∨
    (decide (f.a < 0) = false ∧ decide (f.b ≤ f.a) = false ∧ decide ((m : Int) ≤ f.b) = false ∧ inB f.l 1 5000 = true ∧ inB f.r 0 9 = true ∧ fibOk f m = true) := by
  have e : fibOk f m = (inB f.a 0 ((m : Int) - 1) && inB f.b (f.a + 1) ((m : Int) - 1) && inB f.l 1 5000 && inB f.r 0 9) := rfl
  by_cases h1 : f.a < 0
  · left; refine ⟨decide_eq_true h1, ?_⟩
    rw [e, show inB f.a 0 ((m : Int) - 1) = false by unfold inB; simp; omega]; simp
  right
  by_cases h2 : f.b ≤ f.a
  · left; refine ⟨decide_eq_false h1, decide_eq_true h2, ?_⟩
    rw [e, show inB f.b (f.a + 1) ((m : Int) - 1) = false by unfold inB; simp; omega]; simp
  right
  by_cases h3 : (m : Int) ≤ f.b
  · left; refine ⟨decide_eq_false h1, decide_eq_false h2, decide_eq_true h3, ?_⟩
    rw [e, show inB f.b (f.a + 1) ((m : Int) - 1) = false by unfold inB; simp; omega]; simp
  right
  have e2 : fibOk f m = (inB f.l 1 5000 && inB f.r 0 9) := by
    rw [e, show inB f.a 0 ((m : Int) - 1) = true by unfold inB; simp; omega, show inB f.b (f.a + 1) ((m : Int) - 1) = true by unfold inB; simp; omega]; simp
  rw [e2]
  cases inB f.l 1 5000
  · left; exact ⟨decide_eq_false h1, decide_eq_false h2, decide_eq_false h3, rfl, rfl⟩
  right
  cases inB f.r 0 9
  · left; exact ⟨decide_eq_false h1, decide_eq_false h2, decide_eq_false h3, rfl, rfl, rfl⟩
  · right; exact ⟨decide_eq_false h1, decide_eq_false h2, decide_eq_false h3, rfl, rfl, rfl⟩
set_option maxHeartbeats 6400000 in
theorem IsValidNetwork_any (v : Value) (n : Net) (w : World) (h : NetR w v n) :
    Calls Tryz.prog 132 #[v] w fun e w' => e = .returned (.bool (netOk n)) ∧ Below w.heap.size w w' := by
  obtain ⟨u1, u2, rfl, r1, r2, hsm⟩ := h
  obtain ⟨a1, m1, c1, rfl, HN1, hc1, hm1, ha1⟩ := flt_opn (m := 1) (enc := strE) (fun _ => rfl) (by omega) nilS r1
  obtain ⟨a2, m2, c2, rfl, HN2, hc2, hm2, ha2⟩ := flt_opn (m := 4) (enc := fibE) (fun _ => rfl) (by omega) nilB r2
  have HNM := Lib.hid (fun i hi h => @netOk_nm n i hi h)
  have HFB := Lib.hid (fun i hi h => @netOk_fb n i hi h)
  have HALL := Lib.hid (@netOk_all n)
  rw [HN1.out, HN2.out] at HALL
  rw [HN1.out] at HNM
  rw [HN2.out] at HFB
  generalize netOk n = q at *
  obtain ⟨bx, bc, blt, -⟩ := box_facts w #[.slice a1 m1 c1, .slice a2 m2 c2] 35
  have q0 := bc 0 _ rfl
  have q1 := bc 1 _ rfl
  have HA1 := Lib.hid ha1
  have HA2 := Lib.hid ha2
  have HR1 := Lib.hid (r1.behind bx)
  have HBX := Lib.hid bx
  have HSM := Lib.hid hsm
  clear bc ha1 ha2 r1 r2 bx hsm
  go_enter Tryz.func132, Tryz.ntmps132
  go_wp2
  generalize w.alloc (.cells #[.slice a1 m1 c1, .slice a2 m2 c2] 35) = w1 at *
  go_loopw [3, 4, 10] (fun _ _ i wr => ∃ k : Nat, k ≤ m1 ∧ i = .int .i64 k ∧ Hid (∀ i, i < k → nmOk n i = true) ∧ Hid (Below w1.heap.size w1 wr)) (fun _ _ i _ => m1 - (intOf i).toNat)
  case atStart => exact ⟨0, Nat.zero_le _, rfl, fun i hi => by omega, Below.refl _ _⟩
  case round =>
    obtain ⟨k, hk, rfl, HK, HB⟩ := hrel
    have p0 := (HB.out.cell blt).trans q0
    have p1 := (HB.out.cell blt).trans q1
    by_cases hlt : k < m1
    · have hltI : (k : Int) < (m1 : Int) := by omega
      have hkx : k < n.ns.length := by rw [HN1.out]; exact hlt
      obtain ⟨b, off, rfl, hbs, hcs⟩ := HA1.out (by omega)
      have hc0 := hcs k hlt 0 _ rfl
      rw [Nat.mul_one, Nat.add_zero] at hc0
      have hcw := (HB.out.cell (p := ⟨b, off + k, none⟩) (Nat.lt_of_lt_of_le hbs HBX.out.size)).trans ((HBX.out.cell hbs).trans hc0)
      have HNA := Lib.hid (fun w => isName_any (nmA n k) w (Nat.le_trans (HSM.out k) (by decide)))
      have HCO := Lib.hid (fun N => containsS_any _ (n.ns.take k) (nmA n k) (wr.drewN N) ((flt_take (m := 1) (enc := strE) (fun _ => rfl) (by omega) (HR1.out.behind HB.out) hk).behind ((Dr.refl _).drewN N |>.below (Below.refl _ _))))
      have HV := Lib.hid (show nmOk n k = (nameOk (nmA n k) && decide (plc n.ns (nmA n k) = (k : Int))) from rfl)
      have HPL := Lib.hid (plc_pre hkx)
      have HST := Lib.hid (fun h => upto_succ HK.out (k := k) h)
      have HNO := Lib.hid (HNM.out k hlt)
      clear hcs hc0 hkx
      unfold nmA at *
      generalize hx : n.ns[k]?.getD nilS = x at *
      have hkI : (0 : Int) ≤ (k : Int) := by omega
      have hkI2 : (k : Int) ≤ (c1 : Int) := by omega
      clear hx
      cases hN : nameOk x
      · have HF := Lib.hid (HNO.out (by rw [HV.out, hN]; rfl))
        clear HNO HST HPL HV HCO
        rw [hN] at HNA
        clear hN
        go_wp2_with (go_at_call 175; refine (HNA.out _).mono ?_; rintro e w' ⟨rfl, n', rfl⟩)
        go_ret
        exact ⟨by rw [HF.out]; rfl, HBX.out.trans ((HB.out.mono HBX.out.size).trans (((Dr.refl _).drewN n').below (Below.refl _ _)))⟩
      cases hP : decide (plc n.ns x = (k : Int))
      · have HF := Lib.hid (HNO.out (by rw [HV.out, hN, hP]; rfl))
        rw [hN] at HNA
        have hpl := HPL.out
        rw [hP] at hpl
        rw [hpl] at HCO
        clear HNO HST HPL HV hN hP hpl
        go_wp2_with (first | (go_at_call 175; refine (HNA.out _).mono ?_; rintro e w' ⟨rfl, n', rfl⟩) | (go_at_call 176; refine (HCO.out _).mono ?_; rintro e w' ⟨rfl, rfl⟩))
        go_ret
        exact ⟨by rw [HF.out]; rfl, HBX.out.trans ((HB.out.mono HBX.out.size).trans (((Dr.refl _).drewN n').below (Below.refl _ _)))⟩
      · have HS := Lib.hid (HST.out (by rw [HV.out, hN, hP]; rfl))
        rw [hN] at HNA
        have hpl := HPL.out
        rw [hP] at hpl
        rw [hpl] at HCO
        clear HNO HST HPL HV hN hP hpl
        go_wp2_with (first | (go_at_call 175; refine (HNA.out _).mono ?_; rintro e w' ⟨rfl, n', rfl⟩) | (go_at_call 176; refine (HCO.out _).mono ?_; rintro e w' ⟨rfl, rfl⟩))
        go_roundw
        case rel => exact ⟨k + 1, hlt, by go_num, HS.out, HB.out.trans (((Dr.refl _).drewN n').below (Below.refl _ _))⟩
        case measure => simp [intOf]; omega
    · obtain rfl : m1 = k := by omega
      have HAL1 := Lib.hid (HALL.out HK.out)
      clear HALL HK HNM HR1
      go_wp2
      go_loopw [5, 6, 30] (fun _ _ i wr => ∃ k : Nat, k ≤ m2 ∧ i = .int .i64 k ∧ Hid (∀ i, i < k → fbOk n i = true) ∧ Hid (Below w1.heap.size w1 wr)) (fun _ _ i _ => m2 - (intOf i).toNat)
      case atStart => exact ⟨0, Nat.zero_le _, rfl, fun i hi => by omega, HB.out⟩
      case round =>
        clear HB p0 p1
        obtain ⟨k, hk, rfl, HK, HB⟩ := hrel
        have p0 := (HB.out.cell blt).trans q0
        have p1 := (HB.out.cell blt).trans q1
        by_cases hlt : k < m2
        · have hltI : (k : Int) < (m2 : Int) := by omega
          obtain ⟨b, off, rfl, hbs, hcs⟩ := HA2.out (by omega)
          have hcw := fun (i : Nat) (hi : i < m2) (r : Nat) (u : Value) (hu : (fibE (n.fs[i]?.getD nilB))[r]? = some u) => (HB.out.cell (p := ⟨b, off + i * 4 + r, none⟩) (Nat.lt_of_lt_of_le hbs HBX.out.size)).trans ((HBX.out.cell hbs).trans (hcs i hi r u hu))
          have HA3 := Lib.hid hcs
          have HST := Lib.hid (fun h => upto_succ HK.out (k := k) h)
          have HNO := Lib.hid (HFB.out k hlt)
          have HV := Lib.hid (show fbOk n k = (fibOk (fbA n k) n.ns.length && !(decide (0 < k) && fibGt (fbA n (k - 1)) (fbA n k))) from rfl)
          rw [HN1.out] at HV
          have c0 := hcw k hlt 0 _ rfl
          have c1 := hcw k hlt 1 _ rfl
          have c2 := hcw k hlt 2 _ rfl
          have c3 := hcw k hlt 3 _ rfl
          simp only [Nat.add_zero] at c0
          clear hcs hcw
          unfold fbA at *
          have HFC := Lib.hid (fib_cases (n.fs[k]?.getD nilB) m1)
          generalize n.fs[k]?.getD nilB = f at *
          obtain ⟨bf, bfc, bfl, -⟩ := box_facts wr #[.int .i64 f.a, .int .i64 f.b, .int .i64 f.l, .int .i64 f.r] 148
          have HBF := Lib.hid (HB.out.trans (bf.mono HB.out.size))
          have f0 := bfc 0 _ rfl
          have f1 := bfc 1 _ rfl
          have f2 := bfc 2 _ rfl
          have f3 := bfc 3 _ rfl
          have g0 := (HBF.out.cell blt).trans q0
          have g1 := (HBF.out.cell blt).trans q1
          clear bf bfc bfl
          rcases HFC.out with ⟨d1, hok⟩ | ⟨d1, d2, hok⟩ | ⟨d1, d2, d3, hok⟩ | ⟨d1, d2, d3, d4, hok⟩ | ⟨d1, d2, d3, d4, d5, hok⟩ | ⟨d1, d2, d3, d4, d5, hok⟩
          rotate_left 5
          · by_cases hk0 : k = 0
            · have hk0b : decide (0 < k) = false := decide_eq_false (by omega)
              have hk0c : decide (0 < (k : Int)) = false := decide_eq_false (by omega)
              have hv := HV.out
              rw [hok, decide_eq_false (show ¬ 0 < k by omega)] at hv
              have HV2 := Lib.hid hv
              clear hv HV hk0
              have HS := Lib.hid (HST.out (by rw [HV2.out]; rfl))
              clear hok
              go_wp2
              generalize wr.alloc (.cells #[.int .i64 f.a, .int .i64 f.b, .int .i64 f.l, .int .i64 f.r] 148) = w2 at *
              have j0 := rg f0
              have j1 := rg f1
              have j2 := rg f2
              have j3 := rg f3
              have j4 := rg g0
              have j5 := rg g1
              clear f0 f1 f2 f3 g0 g1 p0 p1
              refine wp_region_quiet_below (by kernel_rfl) (by kernel_rfl) ?_
              repeat (go_big_quiet_step (first | (go_at_call 83; exact rg_same (within_any _ _ _ _))))
              refine wpQuiet_nil ?_
              rintro _ ⟨⟨dq, osq⟩, rfl⟩
              go_wp2
              go_roundw
              case rel => exact ⟨k + 1, hlt, by go_num, HS.out, HBF.out.trans ((below_regrown _ dq osq).mono HBF.out.size)⟩
              case measure => simp [intOf]; omega
            · obtain ⟨k', hk'⟩ : ∃ k', k = k' + 1 := ⟨k - 1, by omega⟩
              have HKK := Lib.hid hk'
              have o0 := (HBF.out.cell (p := ⟨b, off + k' * 4 + 0, none⟩) (Nat.lt_of_lt_of_le hbs HBX.out.size)).trans ((HBX.out.cell hbs).trans (HA3.out k' (by omega) 0 _ rfl))
              have o1 := (HBF.out.cell (p := ⟨b, off + k' * 4 + 1, none⟩) (Nat.lt_of_lt_of_le hbs HBX.out.size)).trans ((HBX.out.cell hbs).trans (HA3.out k' (by omega) 1 _ rfl))
              have o2 := (HBF.out.cell (p := ⟨b, off + k' * 4 + 2, none⟩) (Nat.lt_of_lt_of_le hbs HBX.out.size)).trans ((HBX.out.cell hbs).trans (HA3.out k' (by omega) 2 _ rfl))
              have o3 := (HBF.out.cell (p := ⟨b, off + k' * 4 + 3, none⟩) (Nat.lt_of_lt_of_le hbs HBX.out.size)).trans ((HBX.out.cell hbs).trans (HA3.out k' (by omega) 3 _ rfl))
              simp only [Nat.add_zero] at o0
              have HCF := Lib.hid (fun w => compareFibers_any (n.fs[k']?.getD nilB) f w)
              have HGT := Lib.hid (cmpF_gt (n.fs[k']?.getD nilB) f)
              have hv := HV.out
              rw [hok, show k - 1 = k' by omega, decide_eq_true (show 0 < k by omega)] at hv
              have HV2 := Lib.hid hv
              clear hok hv HV
              generalize n.fs[k']?.getD nilB = g at *
              have hkp : (0 : Int) < (k : Int) := by omega
              have hkd : decide (0 < (k : Int)) = true := decide_eq_true hkp
              have hke : decide (0 < k) = true := decide_eq_true (by omega)
              have f1w : IntKind.i64.wrap ((k : Int) - 1) = (k' : Int) := by rw [IntWalk.i64_in _ (by omega)]; omega
              have f2w : (k' : Int) < (m2 : Int) := by omega
              clear hk' hk0
              unfold fibV at HCF
              generalize cmpF g f = cc at *
              cases hgt : fibGt g f
              · have HS := Lib.hid (HST.out (by rw [HV2.out, hgt]; simp))
                have hdc : decide (0 < cc) = false := by rw [HGT.out, hgt]
                clear hgt HNO HST HV2 HGT
                go_wp2
                generalize wr.alloc (.cells #[.int .i64 f.a, .int .i64 f.b, .int .i64 f.l, .int .i64 f.r] 148) = w2 at *
                have j0 := rg f0
                have j1 := rg f1
                have j2 := rg f2
                have j3 := rg f3
                have j4 := rg g0
                have j5 := rg g1
                have t0 := rg o0
                have t1 := rg o1
                have t2 := rg o2
                have t3 := rg o3
                clear f0 f1 f2 f3 g0 g1 p0 p1 o0 o1 o2 o3
                refine wp_region_quiet_below (by kernel_rfl) (by kernel_rfl) ?_
                repeat (go_big_quiet_step (first | (go_at_call 83; exact rg_same (within_any _ _ _ _)) | (go_at_call 177; exact Calls.regrown_of (HCF.out _))))
                refine wpQuiet_nil ?_
                rintro _ ⟨⟨dq, osq⟩, rfl⟩
                go_wp2
                go_roundw
                case rel => exact ⟨k + 1, hlt, by go_num, HS.out, HBF.out.trans ((below_regrown _ dq osq).mono HBF.out.size)⟩
                case measure => simp [intOf]; omega
              · have HF := Lib.hid (HNO.out (by rw [HV2.out, hgt]; simp))
                have hdc : decide (0 < cc) = true := by rw [HGT.out, hgt]
                clear hgt HNO HST HV2 HGT
                go_wp2
                generalize wr.alloc (.cells #[.int .i64 f.a, .int .i64 f.b, .int .i64 f.l, .int .i64 f.r] 148) = w2 at *
                have j0 := rg f0
                have j1 := rg f1
                have j2 := rg f2
                have j3 := rg f3
                have j4 := rg g0
                have j5 := rg g1
                have t0 := rg o0
                have t1 := rg o1
                have t2 := rg o2
                have t3 := rg o3
                clear f0 f1 f2 f3 g0 g1 p0 p1 o0 o1 o2 o3
                refine wp_region_quiet_below (by kernel_rfl) (by kernel_rfl) ?_
                repeat (go_big_quiet_step (first | (go_at_call 83; exact rg_same (within_any _ _ _ _)) | (go_at_call 177; exact Calls.regrown_of (HCF.out _))))
                refine wpQuiet_nil ?_
                rintro _ ⟨⟨dq, osq⟩, rfl⟩
                go_wp2
                go_ret
                exact ⟨by rw [HF.out]; rfl, HBX.out.trans ((HBF.out.mono HBX.out.size).trans ((below_regrown _ dq osq).mono (Nat.le_trans HBX.out.size HBF.out.size)))⟩
          all_goals
            have HF := Lib.hid (HNO.out (by rw [HV.out, hok]; rfl))
            clear hok
            go_wp2
            generalize wr.alloc (.cells #[.int .i64 f.a, .int .i64 f.b, .int .i64 f.l, .int .i64 f.r] 148) = w2 at *
            have j0 := rg f0
            have j1 := rg f1
            have j2 := rg f2
            have j3 := rg f3
            have j4 := rg g0
            have j5 := rg g1
            clear f0 f1 f2 f3 g0 g1 p0 p1
            refine wp_region_quiet_below (by kernel_rfl) (by kernel_rfl) ?_
            repeat (go_big_quiet_step (first | (go_at_call 83; exact rg_same (within_any _ _ _ _))))
            refine wpQuiet_nil ?_
            rintro _ ⟨⟨dq, osq⟩, rfl⟩
            go_wp2
            go_ret
            exact ⟨by rw [HF.out]; rfl, HBX.out.trans ((HBF.out.mono HBX.out.size).trans ((below_regrown _ dq osq).mono (Nat.le_trans HBX.out.size HBF.out.size)))⟩
        · obtain rfl : m2 = k := by omega
          have HE := Lib.hid (HAL1.out HK.out)
          have HV := Lib.hid (show decide (2 ≤ m1 ∧ m1 ≤ 8 ∧ m2 ≤ 14) = (inB (m1 : Int) 2 8 && decide (m2 ≤ 14)) by unfold inB; rw [Bool.eq_iff_iff]; simp; omega)
          cases hin : inB (m1 : Int) 2 8
          · go_wp2_with (go_at_call 83; refine (within_any _ _ _ _).mono ?_; rintro e w' ⟨rfl, rfl⟩; rw [hin])
            go_ret
            exact ⟨by rw [HE.out, HV.out, hin]; rfl, HBX.out.trans (HB.out.mono HBX.out.size)⟩
          · by_cases h14 : (m2 : Int) ≤ 14
            · have hd : decide ((m2 : Int) ≤ 14) = true := decide_eq_true h14
              have hd2 : decide (m2 ≤ 14) = true := decide_eq_true (by omega)
              clear h14
              go_wp2_with (go_at_call 83; refine (within_any _ _ _ _).mono ?_; rintro e w' ⟨rfl, rfl⟩; rw [hin])
              go_ret
              exact ⟨by rw [HE.out, HV.out, hin, hd2]; rfl, HBX.out.trans (HB.out.mono HBX.out.size)⟩
            · have hd : decide ((m2 : Int) ≤ 14) = false := decide_eq_false h14
              have hd2 : decide (m2 ≤ 14) = false := decide_eq_false (by omega)
              clear h14
              go_wp2_with (go_at_call 83; refine (within_any _ _ _ _).mono ?_; rintro e w' ⟨rfl, rfl⟩; rw [hin])
              go_ret
              exact ⟨by rw [HE.out, HV.out, hin, hd2]; rfl, HBX.out.trans (HB.out.mono HBX.out.size)⟩
end Go.Proofs.YtmkkdenhjfjmgaaGreat
namespace Go.Proofs.YtmkkdenhjfjmgaaGreat
open Go.RowKit Go.Sort
set_option maxRecDepth 100000

set_option maxHeartbeats 6400000 in
theorem l2Good_any (v : Value) (n : Net) (w : World) (h : NetR w v n) :
    Calls Tryz.prog 139 #[v] w fun e w' => e = .returned (.bool (netOk n)) ∧ Below w.heap.size w w' := by
  obtain ⟨u1, u2, rfl, r1, r2, hsm⟩ := h
  obtain ⟨a1, m1, c1, rfl, HN1, hc1, hm1, ha1⟩ := flt_opn (m := 1) (enc := strE) (fun _ => rfl) (by omega) nilS r1
  obtain ⟨a2, m2, c2, rfl, HN2, hc2, hm2, ha2⟩ := flt_opn (m := 4) (enc := fibE) (fun _ => rfl) (by omega) nilB r2
  have HNM := Lib.hid (fun i hi h => @netOk_nm n i hi h)
  have HFB := Lib.hid (fun i hi h => @netOk_fb n i hi h)
  have HALL := Lib.hid (@netOk_all n)
  have HSZ := Lib.hid (@netOk_sz n)
  rw [HN1.out, HN2.out] at HALL HSZ
  rw [HN1.out] at HNM
  rw [HN2.out] at HFB
  generalize netOk n = q at *
  obtain ⟨bx, bc, blt, -⟩ := box_facts w #[.slice a1 m1 c1, .slice a2 m2 c2] 35
  have q0 := bc 0 _ rfl
  have q1 := bc 1 _ rfl
  have HA1 := Lib.hid ha1
  have HA2 := Lib.hid ha2
  have HR1 := Lib.hid (r1.behind bx)
  have HBX := Lib.hid bx
  have HSM := Lib.hid hsm
  clear bc ha1 ha2 r1 r2 bx hsm
  go_enter Tryz.func139, Tryz.ntmps139
  by_cases hsz : 2 ≤ m1 ∧ m1 ≤ 8 ∧ m2 ≤ 14
  case neg =>
    have HF := Lib.hid (HSZ.out hsz)
    by_cases h1 : 2 ≤ m1 ∧ m1 ≤ 8
    · have hin : inB (m1 : Int) 2 8 = true := by unfold inB; simp; omega
      have hd : decide (14 < (m2 : Int)) = true := decide_eq_true (by omega)
      have hd2 : decide (14 < m2) = true := decide_eq_true (by omega)
      clear hsz h1
      go_wp2_with (go_at_call 86; refine (l1In_any _ _ _ _).mono ?_; rintro e w' ⟨rfl, rfl⟩; rw [hin])
      go_ret
      exact ⟨by rw [HF.out]; rfl, HBX.out⟩
    · have hin : inB (m1 : Int) 2 8 = false := by
        by_cases h2 : 2 ≤ m1
        · unfold inB; simp; omega
        · unfold inB; simp; omega
      clear hsz h1
      go_wp2_with (go_at_call 86; refine (l1In_any _ _ _ _).mono ?_; rintro e w' ⟨rfl, rfl⟩; rw [hin])
      go_ret
      exact ⟨by rw [HF.out]; rfl, HBX.out⟩
  have hin : inB (m1 : Int) 2 8 = true := by unfold inB; simp; omega
  have hd : decide (14 < (m2 : Int)) = false := decide_eq_false (by omega)
  have hd2 : decide (14 < m2) = false := decide_eq_false (by omega)
  obtain ⟨z1, z2, z3⟩ := hsz
  rw [decide_eq_true (show 2 ≤ m1 ∧ m1 ≤ 8 ∧ m2 ≤ 14 from ⟨z1, z2, z3⟩)] at HALL
  clear HSZ
  go_wp2_with (go_at_call 86; refine (l1In_any _ _ _ _).mono ?_; rintro e w' ⟨rfl, rfl⟩; rw [hin])
  generalize w.alloc (.cells #[.slice a1 m1 c1, .slice a2 m2 c2] 35) = w1 at *
  clear hin hd hd2
  go_loopw [3] (fun i wr => ∃ k : Nat, k ≤ m1 ∧ i = .int .i64 k ∧ Hid (∀ i, i < k → nmOk n i = true) ∧ Hid (Below w1.heap.size w1 wr)) (fun i _ => m1 - (intOf i).toNat)
  case atStart => exact ⟨0, Nat.zero_le _, rfl, fun i hi => by omega, Below.refl _ _⟩
  case round =>
    obtain ⟨k, hk, rfl, HK, HB⟩ := hrel
    have p0 := (HB.out.cell blt).trans q0
    have p1 := (HB.out.cell blt).trans q1
    by_cases hlt : k < m1
    · have hltI : (k : Int) < (m1 : Int) := by omega
      have hkx : k < n.ns.length := by rw [HN1.out]; exact hlt
      obtain ⟨b, off, rfl, hbs, hcs⟩ := HA1.out (by omega)
      have hc0 := hcs k hlt 0 _ rfl
      rw [Nat.mul_one, Nat.add_zero] at hc0
      have hcw := (HB.out.cell (p := ⟨b, off + k, none⟩) (Nat.lt_of_lt_of_le hbs HBX.out.size)).trans ((HBX.out.cell hbs).trans hc0)
      have HNA := Lib.hid (fun w => l2Name_any (nmA n k) w (Nat.le_trans (HSM.out k) (by decide)))
      have HFI := Lib.hid (fun d os => l2Find_any _ n.ns (nmA n k) _ ((HR1.out.behind HB.out).rg d os))
      have HV := Lib.hid (show nmOk n k = (nameOk (nmA n k) && decide (plc n.ns (nmA n k) = (k : Int))) from rfl)
      have HST := Lib.hid (fun h => upto_succ HK.out (k := k) h)
      have HNO := Lib.hid (HNM.out k hlt)
      clear hcs hc0 hkx
      unfold nmA at *
      generalize hx : n.ns[k]?.getD nilS = x at *
      clear hx
      cases hN : nameOk x
      · have HF := Lib.hid (HNO.out (by rw [HV.out, hN]; rfl))
        clear HNO HST HV HFI
        rw [hN] at HNA
        clear hN
        go_wp2
        have j0 := rg p0
        have j1 := rg p1
        have j2 := rg hcw
        clear p0 p1 hcw
        refine wp_region_quiet_below (by kernel_rfl) (by kernel_rfl) ?_
        repeat (go_big_quiet_step (first | (go_at_call 183; exact rg_same (HNA.out _))))
        refine wpQuiet_nil ?_
        rintro _ ⟨⟨dq, osq⟩, rfl⟩
        go_wp2
        go_ret
        exact ⟨by rw [HF.out]; rfl, HBX.out.trans ((HB.out.mono HBX.out.size).trans ((below_regrown _ dq osq).mono (Nat.le_trans HBX.out.size HB.out.size)))⟩
      rw [hN] at HNA HV
      have HV2 := Lib.hid (show nmOk n k = decide (plc n.ns x = (k : Int)) by rw [HV.out]; simp)
      clear hN HV
      generalize plc n.ns x = pl at *
      have hne : (pl != (k : Int)) = !decide (pl = (k : Int)) := rfl
      cases hP : decide (pl = (k : Int))
      · have HF := Lib.hid (HNO.out (by rw [HV2.out, hP]))
        rw [hP] at hne
        have hne2 : (pl != (k : Int)) = true := hne
        clear HNO HST HV2 hP hne
        go_wp2
        have j0 := rg p0
        have j1 := rg p1
        have j2 := rg hcw
        clear p0 p1 hcw
        refine wp_region_quiet_below (by kernel_rfl) (by kernel_rfl) ?_
        repeat (go_big_quiet_step (first | (go_at_call 183; exact rg_same (HNA.out _)) | (go_at_call 184; exact rg_same (HFI.out _ _))))
        refine wpQuiet_nil ?_
        rintro _ ⟨⟨dq, osq⟩, rfl⟩
        go_wp2
        go_ret
        exact ⟨by rw [HF.out]; rfl, HBX.out.trans ((HB.out.mono HBX.out.size).trans ((below_regrown _ dq osq).mono (Nat.le_trans HBX.out.size HB.out.size)))⟩
      · have HS := Lib.hid (HST.out (by rw [HV2.out, hP]))
        rw [hP] at hne
        have hne2 : (pl != (k : Int)) = false := hne
        clear HNO HST HV2 hP hne
        go_wp2
        have j0 := rg p0
        have j1 := rg p1
        have j2 := rg hcw
        clear p0 p1 hcw
        refine wp_region_quiet_below (by kernel_rfl) (by kernel_rfl) ?_
        repeat (go_big_quiet_step (first | (go_at_call 183; exact rg_same (HNA.out _)) | (go_at_call 184; exact rg_same (HFI.out _ _))))
        refine wpQuiet_nil ?_
        rintro _ ⟨⟨dq, osq⟩, rfl⟩
        go_wp2
        go_roundw
        case rel => exact ⟨k + 1, hlt, by go_num, HS.out, HB.out.trans ((below_regrown _ dq osq).mono HB.out.size)⟩
        case measure => simp [intOf]; omega
    · obtain rfl : m1 = k := by omega
      have HAL1 := Lib.hid (HALL.out HK.out)
      clear HALL HK HNM HR1
      go_wp2
      go_loopw [4] (fun i wr => ∃ k : Nat, k ≤ m2 ∧ i = .int .i64 k ∧ Hid (∀ i, i < k → fbOk n i = true) ∧ Hid (Below w1.heap.size w1 wr)) (fun i _ => m2 - (intOf i).toNat)
      case atStart => exact ⟨0, Nat.zero_le _, rfl, fun i hi => by omega, HB.out⟩
      case round =>
        clear HB p0 p1
        obtain ⟨k, hk, rfl, HK, HB⟩ := hrel
        have p0 := (HB.out.cell blt).trans q0
        have p1 := (HB.out.cell blt).trans q1
        by_cases hlt : k < m2
        · have hltI : (k : Int) < (m2 : Int) := by omega
          obtain ⟨b, off, rfl, hbs, hcs⟩ := HA2.out (by omega)
          have hcw := fun (i : Nat) (hi : i < m2) (r : Nat) (u : Value) (hu : (fibE (n.fs[i]?.getD nilB))[r]? = some u) => (HB.out.cell (p := ⟨b, off + i * 4 + r, none⟩) (Nat.lt_of_lt_of_le hbs HBX.out.size)).trans ((HBX.out.cell hbs).trans (hcs i hi r u hu))
          have HC := Lib.hid hcw
          have HST := Lib.hid (fun h => upto_succ HK.out (k := k) h)
          have HNO := Lib.hid (HFB.out k hlt)
          have HV := Lib.hid (show fbOk n k = (fibOk (fbA n k) n.ns.length && !(decide (0 < k) && fibGt (fbA n (k - 1)) (fbA n k))) from rfl)
          rw [HN1.out] at HV
          have c0 := hcw k hlt 0 _ rfl
          have c1 := hcw k hlt 1 _ rfl
          have c2 := hcw k hlt 2 _ rfl
          have c3 := hcw k hlt 3 _ rfl
          simp only [Nat.add_zero] at c0
          have j0 := rg c0
          have j1 := rg c1
          have j2 := rg c2
          have j3 := rg c3
          have j4 := rg p0
          have j5 := rg p1
          clear hcs hcw c0 c1 c2 c3
          unfold fbA at *
          have HFI := Lib.hid (fun w => l2Fiber_any (n.fs[k]?.getD nilB) m1 w (by omega))
          have HSMK := Lib.hid (fun h => @fibOk_small (n.fs[k]?.getD nilB) m1 h (by omega))
          generalize n.fs[k]?.getD nilB = f at *
          unfold fibV at HFI
          generalize hok : fibOk f m1 = ok at *
          cases ok
          · have HF := Lib.hid (HNO.out (by rw [HV.out]; rfl))
            clear hok HNO HST HV
            go_wp2
            clear p0 p1
            refine wp_region_quiet_below (by kernel_rfl) (by kernel_rfl) ?_
            repeat (go_big_quiet_step (first | (go_at_call 185; exact Calls.regrown_of (HFI.out _))))
            refine wpQuiet_nil ?_
            rintro _ ⟨⟨dq, osq⟩, rfl⟩
            go_wp2
            go_ret
            exact ⟨by rw [HF.out]; rfl, HBX.out.trans ((HB.out.mono HBX.out.size).trans ((below_regrown _ dq osq).mono (Nat.le_trans HBX.out.size HB.out.size)))⟩
          by_cases hk0 : k = 0
          · have hk0b : decide (0 < k) = false := decide_eq_false (by omega)
            have hk0c : decide (0 < (k : Int)) = false := decide_eq_false (by omega)
            have hv := HV.out
            rw [decide_eq_false (show ¬ 0 < k by omega)] at hv
            have HS := Lib.hid (HST.out (by rw [hv]; rfl))
            clear hok hk0 hv HV
            go_wp2
            clear p0 p1
            refine wp_region_quiet_below (by kernel_rfl) (by kernel_rfl) ?_
            repeat (go_big_quiet_step (first | (go_at_call 185; exact Calls.regrown_of (HFI.out _))))
            refine wpQuiet_nil ?_
            rintro _ ⟨⟨dq, osq⟩, rfl⟩
            go_wp2
            go_roundw
            case rel => exact ⟨k + 1, hlt, by go_num, HS.out, HB.out.trans ((below_regrown _ dq osq).mono HB.out.size)⟩
            case measure => simp [intOf]; omega
          · obtain ⟨k', hk'⟩ : ∃ k', k = k' + 1 := ⟨k - 1, by omega⟩
            have hgo := HK.out k' (by omega)
            have o0 := HC.out k' (by omega) 0 _ rfl
            have o1 := HC.out k' (by omega) 1 _ rfl
            have o2 := HC.out k' (by omega) 2 _ rfl
            have o3 := HC.out k' (by omega) 3 _ rfl
            simp only [Nat.add_zero] at o0
            have t0 := rg o0
            have t1 := rg o1
            have t2 := rg o2
            have t3 := rg o3
            have hsg : smallF (n.fs[k']?.getD nilB) := by
              unfold fbOk fbA at hgo
              rw [HN1.out] at hgo
              simp only [Bool.and_eq_true] at hgo
              exact fibOk_small hgo.1 (by omega)
            have HCF := Lib.hid (fun w => l2Before_any (n.fs[k']?.getD nilB) f w hsg (HSMK.out rfl))
            have HGT := Lib.hid (befF_gt (n.fs[k']?.getD nilB) f)
            have hv := HV.out
            rw [show k - 1 = k' by omega, decide_eq_true (show 0 < k by omega)] at hv
            have HV2 := Lib.hid hv
            clear hok hv HV o0 o1 o2 o3 hgo hsg HSMK
            generalize n.fs[k']?.getD nilB = g at *
            have hkp : (0 : Int) < (k : Int) := by omega
            have hkd : decide (0 < (k : Int)) = true := decide_eq_true hkp
            have hke : decide (0 < k) = true := decide_eq_true (by omega)
            have f1w : IntKind.i64.wrap ((k : Int) - 1) = (k' : Int) := by rw [IntWalk.i64_in _ (by omega)]; omega
            have f2w : (k' : Int) < (m2 : Int) := by omega
            clear hk' hk0
            unfold fibV at HCF
            generalize befF g f = cc at *
            cases hgt : fibGt g f
            · have HS := Lib.hid (HST.out (by rw [HV2.out, hgt]; simp))
              have hdc : decide (0 < cc) = false := by rw [HGT.out, hgt]
              clear hgt HNO HST HV2 HGT
              go_wp2
              clear p0 p1
              refine wp_region_quiet_below (by kernel_rfl) (by kernel_rfl) ?_
              repeat (go_big_quiet_step (first | (go_at_call 185; exact Calls.regrown_of (HFI.out _)) | (go_at_call 186; exact Calls.regrown_of (HCF.out _))))
              refine wpQuiet_nil ?_
              rintro _ ⟨⟨dq, osq⟩, rfl⟩
              go_wp2
              go_roundw
              case rel => exact ⟨k + 1, hlt, by go_num, HS.out, HB.out.trans ((below_regrown _ dq osq).mono HB.out.size)⟩
              case measure => simp [intOf]; omega
            · have HF := Lib.hid (HNO.out (by rw [HV2.out, hgt]; simp))
              have hdc : decide (0 < cc) = true := by rw [HGT.out, hgt]
              clear hgt HNO HST HV2 HGT
              go_wp2
              clear p0 p1
              refine wp_region_quiet_below (by kernel_rfl) (by kernel_rfl) ?_
              repeat (go_big_quiet_step (first | (go_at_call 185; exact Calls.regrown_of (HFI.out _)) | (go_at_call 186; exact Calls.regrown_of (HCF.out _))))
              refine wpQuiet_nil ?_
              rintro _ ⟨⟨dq, osq⟩, rfl⟩
              go_wp2
              go_ret
              exact ⟨by rw [HF.out]; rfl, HBX.out.trans ((HB.out.mono HBX.out.size).trans ((below_regrown _ dq osq).mono (Nat.le_trans HBX.out.size HB.out.size)))⟩
        · obtain rfl : m2 = k := by omega
          have HE := Lib.hid (HAL1.out HK.out)
          go_wp2
          go_ret
          exact ⟨by rw [HE.out]; rfl, HBX.out.trans (HB.out.mono HBX.out.size)⟩
end Go.Proofs.YtmkkdenhjfjmgaaGreat
namespace Go.Proofs.YtmkkdenhjfjmgaaGreat
open Go.RowKit
set_option maxRecDepth 100000

/-- The first place of a number, or -1. -/
def plI (xs : List Int) (x : Int) : Int := match xs.findIdx? (fun s => s == x) with | some i => (i : Int) | none => -1
theorem plI_none {xs : List Int} {x : Int} (h : xs.any (fun s => s == x) = false) : plI xs x = -1 := by
  unfold plI
  rw [List.findIdx?_eq_none_iff.2 fun s hs => by
    have := (List.any_eq_false.1 h) s hs
    simpa using this]
theorem plI_some {xs : List Int} {x : Int} {k : Nat} (hk : k < xs.length) (h : (xs.take k).any (fun s => s == x) = false) (e : xs[k]?.getD 0 = x) : plI xs x = (k : Int) := by
  rw [List.getElem?_eq_getElem hk] at e
  unfold plI
  rw [List.findIdx?_eq_some_iff_getElem.2 ⟨hk, by simpa using e, fun j hj => by
    have := (List.any_eq_false.1 h) (xs[j]'(by omega)) (List.mem_take_iff_getElem.2 ⟨j, by omega, rfl⟩)
    simpa using this⟩]
theorem anyI_more {xs : List Int} {x : Int} {k : Nat} (hk : k < xs.length) (h : (xs.take k).any (fun s => s == x) = false) (e : xs[k]?.getD 0 ≠ x) : (xs.take (k + 1)).any (fun s => s == x) = false := by
  rw [List.getElem?_eq_getElem hk] at e
  rw [List.take_add_one, List.any_append, h, List.getElem?_eq_getElem hk]
  simpa using e
theorem plI_geq (xs : List Int) (x : Int) : decide (0 ≤ plI xs x) = xs.contains x := by
  cases h : xs.findIdx? (fun s => s == x) with
  | none =>
    have h0 := h
    rw [List.findIdx?_eq_none_iff] at h
    unfold plI
    rw [h0]
    have : xs.contains x = false := by
      rw [← Bool.not_eq_true, List.contains_iff_mem]
      intro hm
      have := h x hm
      simp at this
    rw [this]; rfl
  | some k =>
    have h0 := h
    rw [List.findIdx?_eq_some_iff_getElem] at h
    obtain ⟨hk, e, _⟩ := h
    unfold plI
    rw [h0]
    have : xs.contains x = true := by rw [List.contains_iff_mem]; have := List.getElem_mem hk; rw [eq_of_beq e] at this; exact this
    rw [this]; simp
theorem hasI_yes {xs : List Int} {x : Int} {k : Nat} (hk : k < xs.length) (e : xs[k]?.getD 0 = x) : xs.contains x = true := by
  rw [List.getElem?_eq_getElem hk] at e
  rw [List.contains_iff_mem, ← show xs[k] = x from e]; exact List.getElem_mem hk
theorem hasI_no {xs : List Int} {x : Int} (h : xs.any (fun s => s == x) = false) : xs.contains x = false := by
  rw [← Bool.not_eq_true, List.contains_iff_mem]
  intro hm
  have := (List.any_eq_false.1 h) x hm
  simp at this
set_option maxHeartbeats 1600000 in
theorem indexI_any (v : Value) (xs : List Int) (x : Int) (w : World) (h : Rd w v xs) :
    Calls Tryz.prog 112 #[v, .int .i64 x] w fun e w' => e = .returned (.int .i64 (plI xs x)) ∧ w = w' := by
  obtain ⟨a, cap, n, HN, rfl, _, hnl, ha⟩ := h.opn
  have HA := Lib.hid ha
  have HP := Lib.hid (fun k (hk : k < xs.length) => @plI_some xs x k hk)
  have HM := Lib.hid (fun k (hk : k < xs.length) => @anyI_more xs x k hk)
  have HO := Lib.hid (@plI_none xs x)
  clear ha h
  generalize plI xs x = r at *
  go_enter Tryz.func112, Tryz.ntmps112
  go_wp2
  go_loop [5, 8] (fun _ i => ∃ k : Nat, k ≤ n ∧ i = .int .i64 k ∧ Hid ((xs.take k).any (fun s => s == x) = false)) (fun _ i => n - (intOf i).toNat)
  case atStart => exact ⟨0, Nat.zero_le _, rfl, by simp [Hid]⟩
  case round =>
    obtain ⟨k, hk, rfl, HT⟩ := hrel
    by_cases hlt : k < n
    · have hltI : (k : Int) < (n : Int) := by omega
      have hkx : k < xs.length := by rw [HN.out]; exact hlt
      obtain ⟨b, off, rfl, hbs, hcs⟩ := HA.out (by omega)
      have hc0 := hcs k hlt
      have HP1 := Lib.hid (HP.out k hkx HT.out)
      have HM1 := Lib.hid (HM.out k hkx HT.out)
      clear hcs hkx
      generalize xs[k]?.getD 0 = y at *
      by_cases he : y = x
      · have HE := Lib.hid (HP1.out he)
        have hb1 : (x == y) = true := by simp [he]
        have hb2 : (y == x) = true := by simp [he]
        clear he
        go_wp2
        go_ret
        exact ⟨by rw [HE.out]; rfl, rfl⟩
      · have HE := Lib.hid (HM1.out he)
        have hb1 : (x == y) = false := by simp; exact fun e => he e.symm
        have hb2 : (y == x) = false := by simp [he]
        clear he
        go_wp2
        go_round
        case rel => exact ⟨k + 1, by omega, by go_num, HE.out⟩
        case measure => simp [intOf]; omega
    · obtain rfl : k = n := by omega
      have hall := HT.out
      rw [← HN.out, List.take_length] at hall
      have HE := Lib.hid (HO.out hall)
      clear hall
      go_wp2
      go_ret
      exact ⟨by rw [HE.out]; rfl, rfl⟩
theorem containsI_any (v : Value) (xs : List Int) (x : Int) (w : World) (h : Rd w v xs) :
    Calls Tryz.prog 65 #[v, .int .i64 x] w fun e w' => e = .returned (.bool (xs.contains x)) ∧ w = w' := by
  have HI := Lib.hid (indexI_any v xs x w h)
  have HG := Lib.hid (plI_geq xs x)
  generalize plI xs x = r at *
  generalize xs.contains x = q at *
  obtain ⟨a, cap, n, -, rfl, -, -, -⟩ := h.opn
  clear h
  go_enter Tryz.func65, Tryz.ntmps65
  go_wp2_with (go_at_call 112; refine (HI.out).mono ?_; rintro e w' ⟨rfl, rfl⟩)
  go_ret
  exact ⟨by rw [← HG.out]; rfl, rfl⟩
set_option maxHeartbeats 1600000 in
theorem l1Has_any (v : Value) (xs : List Int) (x : Int) (w : World) (h : Rd w v xs) :
    Calls Tryz.prog 97 #[v, .int .i64 x] w fun e w' => e = .returned (.bool (xs.contains x)) ∧ w = w' := by
  obtain ⟨a, cap, n, HN, rfl, _, hnl, ha⟩ := h.opn
  have HA := Lib.hid ha
  have HP := Lib.hid (fun k (hk : k < xs.length) => @hasI_yes xs x k hk)
  have HM := Lib.hid (fun k (hk : k < xs.length) => @anyI_more xs x k hk)
  have HO := Lib.hid (@hasI_no xs x)
  clear ha h
  generalize xs.contains x = r at *
  go_enter Tryz.func97, Tryz.ntmps97
  go_wp2
  go_loop [5] (fun i => ∃ k : Nat, k ≤ n ∧ i = .int .i64 k ∧ Hid ((xs.take k).any (fun s => s == x) = false)) (fun i => n - (intOf i).toNat)
  case atStart => exact ⟨0, Nat.zero_le _, rfl, by simp [Hid]⟩
  case round =>
    obtain ⟨k, hk, rfl, HT⟩ := hrel
    by_cases hlt : k < n
    · have hltI : (k : Int) < (n : Int) := by omega
      have hkx : k < xs.length := by rw [HN.out]; exact hlt
      obtain ⟨b, off, rfl, hbs, hcs⟩ := HA.out (by omega)
      have hc0 := hcs k hlt
      have HP1 := Lib.hid (HP.out k hkx)
      have HM1 := Lib.hid (HM.out k hkx HT.out)
      clear hcs hkx
      generalize xs[k]?.getD 0 = y at *
      by_cases he : y = x
      · have HE := Lib.hid (HP1.out he)
        have hb2 : (y == x) = true := by simp [he]
        clear he
        go_wp2
        go_ret
        exact ⟨by rw [HE.out]; rfl, rfl⟩
      · have HE := Lib.hid (HM1.out he)
        have hb2 : (y == x) = false := by simp [he]
        clear he
        go_wp2
        go_round
        case rel => exact ⟨k + 1, by omega, by go_num, HE.out⟩
        case measure => simp [intOf]; omega
    · obtain rfl : k = n := by omega
      have hall := HT.out
      rw [← HN.out, List.take_length] at hall
      have HE := Lib.hid (HO.out hall)
      clear hall
      go_wp2
      go_ret
      exact ⟨by rw [HE.out]; rfl, rfl⟩
end Go.Proofs.YtmkkdenhjfjmgaaGreat
namespace Go.Proofs.YtmkkdenhjfjmgaaGreat
open Go.RowKit

def putA (cur : Array Value) (o : Nat) : List Value → Array Value
  | [] => cur
  | u :: us => putA (cur.setIfInBounds o u) (o + 1) us
theorem putA_size (us : List Value) : ∀ (cur : Array Value) (o : Nat), (putA cur o us).size = cur.size := by
  induction us with
  | nil => intro cur o; rfl
  | cons u us ih => intro cur o; rw [putA, ih]; simp
theorem blk_there {w : World} {b : Nat} {cur : Array Value} {T : TypeId} (h : w.heap[b]? = some (.cells cur T (0, 0))) {o n : Nat} (hn : o + n ≤ cur.size) : w.there b o n := fun j hj => by
  refine ⟨?_, frozen_of_row _ _ _ _ _ h⟩
  rw [cell_of_row _ _ _ _ _ _ h, Array.getElem?_eq_getElem (by omega)]; rfl
theorem blk_put {b : Nat} {T : TypeId} (us : List Value) : ∀ {w : World} {cur : Array Value} (o : Nat), w.heap[b]? = some (.cells cur T (0, 0)) → (w.setCells b o us).heap[b]? = some (.cells (putA cur o us) T (0, 0)) := by
  induction us with
  | nil => intro w cur o h; exact h
  | cons u us ih => intro w cur o h; exact ih (o + 1) (heap_setCell_same w b o cur T u h)
theorem blk_put_other {b k : Nat} (hk : k ≠ b) (us : List Value) : ∀ (w : World) (o : Nat), (w.setCells b o us).heap[k]? = w.heap[k]? := by
  induction us with
  | nil => intro w o; rfl
  | cons u us ih => intro w o; exact (ih _ (o + 1)).trans (heap_setCell_other w ⟨b, o, none⟩ k u hk)
theorem blk_put_size {b : Nat} (us : List Value) : ∀ (w : World) (o : Nat), (w.setCells b o us).heap.size = w.heap.size := by
  induction us with
  | nil => intro w o; rfl
  | cons u us ih => intro w o; exact (ih _ (o + 1)).trans (by simp)
theorem below_put {B b : Nat} {u : World} (hB : B ≤ b) (us : List Value) : ∀ {w : World} (o : Nat), Below B u w → Below B u (w.setCells b o us) := by
  induction us with
  | nil => intro w o h; exact h
  | cons x us ih => intro w o h; exact ih (o + 1) (h.setCell (p := ⟨b, o, none⟩) hB _)
/-- A block's facts for a walk. -/
theorem Ofr.put_other {w : World} {base b o : Nat} {d : Dt} {v : Value} (h : Ofr w base d v) (hb : b < base) (us : List Value) : Ofr (w.setCells b o us) base d v := by
  obtain ⟨fp, h1, h2, h3⟩ := h
  exact ⟨fp, h1.kept fun k hk => blk_put_other (by have := h3 k hk; omega) us w o, h2, h3⟩
/-- What a store into block b leaves. -/
structure Stx (w w' : World) (b : Nat) (new : Array Value) (T : TypeId) : Prop where
  blk : w'.heap[b]? = some (.cells new T (0, 0))
  other : ∀ k, k ≠ b → w'.heap[k]? = w.heap[k]?
  size : w'.heap.size = w.heap.size
  below : ∀ (B : Nat) (u : World), B ≤ b → Below B u w → Below B u w'
theorem Stx.keep {w w' : World} {b : Nat} {new : Array Value} {T : TypeId} (h : Stx w w' b new T) {k : Nat} {x : Obj} (hk : k ≠ b) (hx : w.heap[k]? = some x) : w'.heap[k]? = some x := (h.other k hk).trans hx
theorem Stx.ofr {w w' : World} {b base : Nat} {new : Array Value} {T : TypeId} {d : Dt} {v : Value} (h : Stx w w' b new T) (ho : Ofr w base d v) (hb : b < base) : Ofr w' base d v := by
  obtain ⟨fp, h1, h2, h3⟩ := ho
  exact ⟨fp, h1.kept fun k hk => h.other k (by have := h3 k hk; omega), h2, h3⟩
theorem Stx.kept {w w' : World} {b : Nat} {new : Array Value} {T : TypeId} (h : Stx w w' b new T) (p : Addr) (hp : p.block ≠ b) : w'.cell? p = w.cell? p := by
  unfold World.cell?
  rw [h.other _ hp]
theorem Stx.odt {w w' : World} {b : Nat} {new : Array Value} {T : TypeId} {d : Dt} {v : Value} {fp : List Nat} (h : Stx w w' b new T) (ho : Odt w d v fp) (hb : b ∉ fp) : Odt w' d v fp :=
  ho.kept fun k hk => h.other k (fun e => hb (by rw [← e]; exact hk))
theorem stx_cell {w : World} {b j : Nat} {cur : Array Value} {T : TypeId} (hg : w.heap[b]? = some (.cells cur T (0, 0))) (u : Value) : Stx w (w.setCell ⟨b, j, none⟩ u) b (cur.setIfInBounds j u) T :=
  ⟨heap_setCell_same w b j cur T u hg, fun k hk => heap_setCell_other w ⟨b, j, none⟩ k u hk, by simp, fun B u hB hb => hb.setCell (p := ⟨b, j, none⟩) hB _⟩
theorem wpList_stx {P : Program} {ops : Array Oper} {rest : List Oper} {op : Oper} {a : Act} {w : World} {Q : Exit → Act → World → Prop} (hgd : op.guard = none) (ty : TypeId) (x y : Operand) (ho : op.op = .store ty x y)
    (b o : Nat) (us : List Value) (hx : a.eval x = .pointer (some ⟨b, o, none⟩)) (hy : a.eval y = .agg us.toArray) {cur : Array Value} {T : TypeId} (hg : w.heap[b]? = some (.cells cur T (0, 0))) (hn : o + us.length ≤ cur.size)
    (hi : (P.info? ty).map (·.size) = some us.length) (h1 : ∀ v ∈ us, v.oneCell' = true)
    (h : ∀ w', Stx w w' b (putA cur o us) T → wpList P ops Q rest (a.put op.dst undef) w') : wpList P ops Q (op :: rest) a w := by
  refine wpList_store_mid hgd ty x y ho b o us.toArray hx hy (blk_there hg (by simpa using hn)) (by simpa using hi) (all_oneCell_toArray h1) ?_
  exact h _ ⟨blk_put us o hg, fun k hk => blk_put_other hk us w o, blk_put_size us w o, fun B u hB hb => below_put hB us o hb⟩
/-- A store of one cell into a block known whole. -/
theorem wpList_st1 {P : Program} {ops : Array Oper} {rest : List Oper} {op : Oper} {a : Act} {w : World} {Q : Exit → Act → World → Prop} (hgd : op.guard = none) (ty : TypeId) (x y : Operand) (ho : op.op = .store ty x y)
    (b o : Nat) (u : Value) (hx : a.eval x = .pointer (some ⟨b, o, none⟩)) (hy : a.eval y = u) {cur : Array Value} {T : TypeId} (hg : w.heap[b]? = some (.cells cur T (0, 0))) (hn : o < cur.size)
    (hi : (P.info? ty).map (·.size) = some 1) (h1 : u.cells = #[u] ∧ u.oneCell' = true)
    (h : ∀ w', Stx w w' b (cur.setIfInBounds o u) T → wpList P ops Q rest (a.put op.dst undef) w') : wpList P ops Q (op :: rest) a w := by
  refine wpList_plain hgd fun _ hK => ?_
  have hc := blk_there hg (o := o) (n := 1) (by omega)
  have hr := run_storeCells_cells (P := P) b o [u] 0 w (fun j hj => by simpa using (hc j (by simpa using hj)).1) (fun j hj => by simpa using (hc j (by simpa using hj)).2) (fun v hv => by simp at hv; rw [hv]; exact h1.2)
  unfold Oper.wp execOp
  cases hq : P.info? ty with
  | none => simp [hq] at hi
  | some i =>
    have hs : i.size = 1 := by simpa [hq] using hi
    have hst : (storeVar ty ⟨b, o, none⟩ u).run P w = .ok () (w.setCell ⟨b, o, none⟩ u) := by
      simp only [Nat.add_zero] at hr
      rw [show w.setCell ⟨b, o, none⟩ u = w.setCells b o [u] from rfl]
      simp [storeVar, sizeOf, typeInfo, hq, h1.1, hs]
      simpa using hr
    simp only [ho, hx, hy, Instr.storeAt, Instr.sureAddr, Sem.run_bind, Sem.run_pure, Result.andThen_ok, hst]
    exact hK _ _ (h _ (stx_cell hg u))
/-- A struct read out of a block known whole. -/
theorem wpList_ldx {P : Program} {ops : Array Oper} {rest : List Oper} {op : Oper} {a : Act} {w : World} {Q : Exit → Act → World → Prop} (hgd : op.guard = none) (ty : TypeId) (x : Operand) (ho : op.op = .load ty x)
    (b o : Nat) (hx : a.eval x = .pointer (some ⟨b, o, none⟩)) (cs : List Value) {cur : Array Value} {T : TypeId} (hg : w.heap[b]? = some (.cells cur T (0, 0))) (hc : ((cur.toList.drop o).take cs.length) = cs) (d : TypeDesc)
    (hu : P.underlying ty = some d) (hd : d.isRow = true) (hi : (P.info? ty).map (·.size) = some cs.length)
    (h : wpList P ops Q rest (a.put op.dst (.agg cs.toArray)) w) : wpList P ops Q (op :: rest) a w :=
  wpList_load_mid hgd ty x ho b o hx cs d (fun j v hj => row_cell hg hc hj rfl) hu hd hi h
end Go.Proofs.YtmkkdenhjfjmgaaGreat
namespace Go.Proofs.YtmkkdenhjfjmgaaGreat
open Go.RowKit

theorem inB_lo {n lo hi : Int} (h : n < lo) : inB n lo hi = false := by simp [inB]; omega
theorem inB_hi {n lo hi : Int} (h : hi < n) : inB n lo hi = false := by simp [inB]; omega
/-- A byte that a record's text may hold. -/
def plainB (c : UInt8) : Bool := inB (c.toNat : Int) 32 126 && !((c.toNat : Int) == 35)
def plainL (l : List UInt8) : Bool := l.all plainB
/-- A byte stands in a text. -/
def standsL (l : List UInt8) (b : UInt8) : Bool := l.any fun c => (c.toNat : Int) == (b.toNat : Int)
theorem take_snoc (s : ByteArray) (k : Nat) (h : k < s.size) : s.data.toList.take (k + 1) = s.data.toList.take k ++ [s[k]] := by
  rw [List.take_succ_eq_append_getElem (by simpa using h)]; rfl
theorem take_all (s : ByteArray) : s.data.toList.take s.size = s.data.toList := List.take_of_length_le (by simp)
theorem all_step {s : ByteArray} {p : UInt8 → Bool} {k : Nat} (hk : k < s.size) (h : (s.data.toList.take k).all p = true) (e : p s[k] = true) : (s.data.toList.take (k + 1)).all p = true := by
  rw [take_snoc s k hk, List.all_append, h]; simp [e]
theorem all_no {s : ByteArray} {p : UInt8 → Bool} {k : Nat} (hk : k < s.size) (e : p s[k] = false) : s.data.toList.all p = false := by
  rw [List.all_eq_false]
  exact ⟨s[k], by rw [List.mem_iff_getElem]; exact ⟨k, by simpa using hk, rfl⟩, by simp [e]⟩
theorem any_step {s : ByteArray} {p : UInt8 → Bool} {k : Nat} (hk : k < s.size) (h : (s.data.toList.take k).any p = false) (e : p s[k] = false) : (s.data.toList.take (k + 1)).any p = false := by
  rw [take_snoc s k hk, List.any_append, h]; simp [e]
theorem any_yes {s : ByteArray} {p : UInt8 → Bool} {k : Nat} (hk : k < s.size) (e : p s[k] = true) : s.data.toList.any p = true := by
  rw [List.any_eq_true]
  exact ⟨s[k], by rw [List.mem_iff_getElem]; exact ⟨k, by simpa using hk, rfl⟩, e⟩
/-- A record: a command and a reply. -/
def recOk (c r : ByteArray) : Bool := inB (c.size : Int) 1 160 && inB (r.size : Int) 0 200 && plainL c.data.toList && plainL r.data.toList && !(standsL c.data.toList 64)
end Go.Proofs.YtmkkdenhjfjmgaaGreat
