/- The law FnCodes. -/
import Derived.Test.YtlemielobmbadaaCdd
import Derived.Test.YtlemielobmbadaaCdp
namespace Go.Proofs.Ytlemielobmbadaa
open Go.RowKit

/-- A byte of the code, or a number in its place: the same at every later moment. -/
theorem vAt_fix (v : Value) (i : Nat) (w : World) (h : RdB w v) (hi : i ≤ 1000000) : ∃ x : Int, (0 ≤ x ∧ x ≤ 255) ∧ ∀ w' : World, w.heap.size ≤ w'.heap.size → (∀ j, bb v = some j → w'.heap[j]? = w.heap[j]?) →
    Calls Try.prog 18 #[v, .int .i64 i] w' fun e w'' => e = .returned (.int .i64 x) ∧ w'' = w' := by
  obtain ⟨a, len, cap, rfl, h1, h2, h3⟩ := h
  by_cases hlt : i < len
  · obtain ⟨b, off, rfl, hb, hc⟩ := h3 (by omega)
    obtain ⟨x, x0, x1, hx⟩ := hc i hlt
    refine ⟨x, ⟨x0, x1⟩, fun w' hs hk => ?_⟩
    have hx' : w'.cell? ⟨b, off + i, none⟩ = some (.int .u8 x) := by rw [World.cell?_of_block (w := w) (hk b (bb_some (by omega)))]; exact hx
    have hltI : (i : Int) < (len : Int) := by omega
    clear hc h3 hx
    go_enter Try.func18, Try.ntmps18
    go_wp2
    go_ret
    exact ⟨rfl, rfl⟩
  · refine ⟨((i : Int) * 7 + (len : Int)) % 256, ⟨by omega, by omega⟩, fun w' hs hk => ?_⟩
    have hltI : ¬ (i : Int) < (len : Int) := by omega
    go_enter Try.func18, Try.ntmps18
    go_wp2
    go_ret
    exact ⟨rfl, rfl⟩
theorem vSame (va vb : Value) (xs : List Int) (w : World) (ha : Rd w va xs) (hb : Rd w vb xs) :
    Calls Try.prog 14 #[va, vb] w fun e w' => e = .returned (.bool true) ∧ Dr w w' := by
  have h := vInts_any va vb xs xs w ha hb
  rwa [eqL_refl] at h
theorem decGood {v : Value} {d xs : List Int} (h : blkOk d = true ∧ decBlkGot d = true ∧ decBlkR d = xs ∧ (decBlkP d).length ≤ 2) (w : World) (hr : Rd w v d) :
    Calls Try.prog 24 #[v] w fun e w' => ∃ (p : Value) (a : Option Addr) (n cap : Nat), e = .returned (.tuple #[p, .slice a n cap, .bool true, .bool true]) ∧ n ≤ 2 ∧ Own w' w.heap.size p xs ∧ Below w.heap.size w w' := by
  refine (implDec_any v d w hr).mono ?_
  rintro e w' ⟨p, q, rfl, o1, o2, -, b⟩
  obtain ⟨a, cap, n, HX, rfl, _⟩ := o2.rd.opn
  rw [h.1, h.2.1]
  rw [h.2.2.1] at o1
  exact ⟨p, a, n, cap, rfl, by have := h.2.2.2; rw [HX.out] at this; exact this, o1, b⟩
theorem erGood {v vp : Value} {d ps xs : List Int} (h : erOk d ps = true ∧ erGot d ps = true ∧ erR d ps = xs) (w : World) (hr : Rd w v d) (hp : Rd w vp ps) :
    Calls Try.prog 25 #[v, vp] w fun e w' => ∃ p : Value, e = .returned (.tuple #[p, .bool true, .bool true]) ∧ Own w' w.heap.size p xs ∧ Below w.heap.size w w' := by
  refine (implEr_any v d vp ps w hr hp).mono ?_
  rintro e w' ⟨p, rfl, o1, b⟩
  rw [h.1, h.2.1]
  rw [h.2.2] at o1
  exact ⟨p, rfl, o1, b⟩
/-- A copy of the block with some symbols lost. -/
def Lost (c : List Int) (p n : Nat) (v : Value) (base : Nat) (w : World) : Prop := ∃ d : List Int, d.length = 15 ∧ symL d = true ∧ agree d c (rowI p n) ∧ Own w base v d
theorem Lost.grown {c : List Int} {p n g f k base : Nat} {w w' : World} {row : Option Nat} (h : Lost c p n (.slice (some ⟨g, f, none⟩) 15 k) base w) (hg : w.grownBy w' row) (hlt : g < w.heap.size) (hr : ∀ x, row = some x → x ≠ g) : Lost c p n (.slice (some ⟨g, f, none⟩) 15 k) base w' := by
  obtain ⟨d, h1, h2, h3, h4⟩ := h
  exact ⟨d, h1, h2, h3, h4.kept fun x hx => by
    have e : g = x := (by simpa [Value.ownBlock] using hx)
    subst e
    exact hg.block _ hlt (fun e => hr _ e.symm rfl)⟩
/-- A copy of the block, and what has been since. -/
def CodSt (w0 : World) (v : Value) (d : List Int) (wx : World) : Prop := Below w0.heap.size w0 wx ∧ Own wx w0.heap.size v d
set_option maxHeartbeats 6400000 in
set_option maxRecDepth 100000 in
theorem FnCodes_walk (a0 : Option Addr) (len0 cap0 : Nat) (z0 : List Int) (w : World) (hr : RawB w a0 len0 cap0 z0) :
    Calls Try.prog 4 #[.slice a0 len0 cap0] w fun e w' => e = .returned (.bool true) ∧ Below w.heap.size w w' := by
  by_cases hbig : (65536 : Int) < (len0 : Int)
  · have hd : decide ((65536 : Int) < (len0 : Int)) = true := by simpa using hbig
    go_enter Try.func4, Try.ntmps4
    go_wp2_with fail
    refine (vBig_any _ _ _ _).mono ?_
    rintro e w' ⟨rfl, rfl⟩
    go_wp2
    go_ret
    exact ⟨rfl, Below.refl _ _⟩
  have hd : decide ((65536 : Int) < (len0 : Int)) = false := by simpa using hbig
  have hrd := hr.rd (by omega)
  have HRD := Lib.hid hrd
  have HRL := Lib.hid (fun (w' : World) (hb : Below w.heap.size w w') => RdB.below hrd hb)
  have HAT := Lib.hid (fun (i : Nat) (hi : i ≤ 1000000) => vAt_fix _ i w hrd hi)
  have HAK := Lib.hid (fun (w' : World) (hb : Below w.heap.size w w') (j : Nat) (hj : bb (.slice a0 len0 cap0) = some j) => hb.block j (hrd.lt j hj))
  clear hr hrd
  go_enter Try.func4, Try.ntmps4
  go_wp2_with fail
  refine (vBig_any _ _ _ _).mono ?_
  rintro e w' ⟨rfl, rfl⟩
  go_wp2_with fail
  refine (drawEncB_any _ _ HRD.out).mono ?_
  rintro e w1 ⟨v1, xs, rfl, hl1, o1, b1⟩
  have B1 := Lib.hid b1
  have O1 := Lib.hid o1
  clear b1 o1
  go_wp2_with fail
  refine (implEnc_any v1 xs _ O1.out.rd).mono ?_
  rintro e w2 ⟨v2, rfl, o2, b2⟩
  have B2 := Lib.hid (B1.out.trans (b2.mono B1.out.size))
  have R1 := Lib.hid (O1.out.belowAll b2).rd
  have O2 := Lib.hid o2
  clear b2 o2
  go_wp2_with fail
  refine (specEnc_any v1 xs _ R1.out).mono ?_
  rintro e w3 ⟨v3, rfl, o3, b3⟩
  have B3 := Lib.hid (B2.out.trans (b3.mono B2.out.size))
  have R1' := Lib.hid (R1.out.belowAll b3)
  have O2' := Lib.hid (O2.out.belowAll b3)
  have HDC := Lib.hid (fun h : datOk xs = true => datOk_parts h)
  have HER := Lib.hid (fun h : datOk xs = true => (show encR xs = encL xs from by unfold encR; rw [h, if_pos rfl]))
  have hv0 := fun w (ha : Rd w v2 (encR xs)) (hb : Rd w v3 (encR xs)) => vInts_any v2 v3 (encR xs) (encR xs) w ha hb
  rw [eqL_refl] at hv0
  have HV0 := Lib.hid hv0
  have O3 := Lib.hid o3
  clear o3 hv0 b3 R1 O2
  generalize hdk : datOk xs = ok at *
  clear hdk
  have d1 : (ok != ok) = false := by simp
  go_wp2_with fail
  refine (HV0.out _ O2'.out.rd O3.out.rd).mono ?_
  rintro e w4 ⟨rfl, n4, rfl⟩
  have B4 := Lib.hid (show Below w.heap.size w (w3.drewN n4) from B3.out.trans ⟨rfl, rfl, rfl, Nat.le_refl _, fun _ _ => rfl⟩)
  have R4 := Lib.hid (show Rd (w3.drewN n4) v1 xs from R1'.out)
  have O4 := Lib.hid (show Own (w3.drewN n4) w1.heap.size v2 (encR xs) from O2'.out)
  generalize w3.drewN n4 = W at *
  clear B3 R1' O2' O3 HV0
  go_upto_if 55 with fail
  go_cut [] from 55 to 169 (fun wx => Hid (Below w.heap.size w wx))
  case first =>
    cases ok
    · go_wp2_with fail
      go_meet
      exact B4.out
    obtain ⟨hlen, hsym⟩ := HDC.out rfl
    have hcw := enc_cw hlen hsym
    have HCD := Lib.hid (enc_drop (data := xs))
    have hO := O4.out
    rw [HER.out rfl] at hO
    clear HER HDC O4 hlen hsym
    generalize encL xs = c at *
    have HCW := Lib.hid hcw
    have HSY := Lib.hid (cw_syn hcw)
    have hbk : blkOk c = true := by simp [blkOk, hcw.len, hcw.sym]
    have HSR := Lib.hid (show synR c = [0, 0, 0, 0] from by unfold synR; rw [hbk, if_pos rfl]; exact cw_syn hcw)
    have HBK := Lib.hid hbk
    obtain ⟨g2, f2, k2, rfl, hg2, hg2', hk2, hk2'⟩ := hO.open15 hcw.len
    have OB := Lib.hid hO
    clear hcw hbk hO
    have hsy := fun w (h : Rd w (.slice (some ⟨g2, f2, none⟩) 15 k2) c) => implSyn_any _ c w h
    rw [HSR.out, HBK.out] at hsy
    have HSYN := Lib.hid hsy
    clear hsy
    go_wp2_with fail
    refine (HSYN.out _ OB.out.rd).mono ?_
    rintro e w5 ⟨v5, rfl, o5, b5⟩
    have B5 := Lib.hid (B4.out.trans (b5.mono B4.out.size))
    have OB5 := Lib.hid (OB.out.belowAll b5)
    have R5 := Lib.hid (R4.out.belowAll b5)
    have hal := (Below.refl w5.heap.size w5).alloc (Nat.le_refl _) (.cells #[.int .i64 0, .int .i64 0, .int .i64 0, .int .i64 0] 3)
    have o5' := Lib.hid (o5.belowAll hal).rd
    have OB6 := Lib.hid (OB5.out.belowAll hal)
    have R6 := Lib.hid (R5.out.belowAll hal)
    have B6 := Lib.hid (B5.out.trans (hal.mono B5.out.size))
    have hvz := fun w va vb (ha : Rd w va [0, 0, 0, 0]) (hb : Rd w vb [0, 0, 0, 0]) => vInts_any va vb [0, 0, 0, 0] [0, 0, 0, 0] w ha hb
    rw [eqL_refl] at hvz
    have HVZ := Lib.hid hvz
    clear b5 o5 hal hvz OB R4 OB5 R5 B5
    go_wp2_with fail
    refine (HVZ.out _ _ _ o5'.out (rd_lit4 0 0 0 0)).mono ?_
    rintro e w6 ⟨rfl, n6, rfl⟩
    have B7 := Lib.hid (show Below w.heap.size w ((w5.alloc (.cells #[.int .i64 0, .int .i64 0, .int .i64 0, .int .i64 0] 3)).drewN n6) from B6.out.trans ⟨rfl, rfl, rfl, Nat.le_refl _, fun _ _ => rfl⟩)
    have R7 := Lib.hid (show Rd ((w5.alloc (.cells #[.int .i64 0, .int .i64 0, .int .i64 0, .int .i64 0] 3)).drewN n6) v1 xs from R6.out)
    have O7 := Lib.hid (show Own ((w5.alloc (.cells #[.int .i64 0, .int .i64 0, .int .i64 0, .int .i64 0] 3)).drewN n6) w1.heap.size (.slice (some ⟨g2, f2, none⟩) 15 k2) c from OB6.out)
    generalize (w5.alloc (.cells #[.int .i64 0, .int .i64 0, .int .i64 0, .int .i64 0] 3)).drewN n6 = W7 at *
    obtain ⟨x1, hx1, HX1⟩ := HAT.out 1 (by omega)
    obtain ⟨x2, hx2, HX2⟩ := HAT.out 2 (by omega)
    have HX1 := Lib.hid HX1
    have HX2 := Lib.hid HX2
    obtain ⟨i, hi⟩ : ∃ i : Nat, x1 % 15 = (i : Int) := ⟨(x1 % 15).toNat, by omega⟩
    obtain ⟨k, hk⟩ : ∃ k : Nat, x2 % 15 = (k : Int) := ⟨(x2 % 15).toNat, by omega⟩
    have hi15 : i < 15 := by omega
    have hk15 : k < 15 := by omega
    clear HVZ o5' OB6 R6 B6 B4
    go_wp2_with fail
    refine (HX1.out _ B7.out.size (HAK.out _ B7.out)).mono ?_
    rintro e w8 ⟨rfl, rfl⟩
    go_wp2_with fail
    refine (HX2.out _ B7.out.size (HAK.out _ B7.out)).mono ?_
    rintro e w9 ⟨rfl, rfl⟩
    have HLC := Lib.hid (HCW.out.len)
    have hown0 : (w9.alloc (.cells #[] 3)).ownsRow w9.heap.size 3 1 (.slice (some ⟨w9.heap.size, 0, none⟩) 0 0) 0 (ints []) := World.ownsRow_lit (base := w9.heap.size) (e := 3) (size := 1) w9 #[] 0 (Nat.le_refl _) (by simp) rfl
    have hba := (Below.refl w9.heap.size w9).alloc (Nat.le_refl _) (.cells #[] 3)
    have hrdc := (O7.out.belowAll hba).rd
    go_wp2_with (at_builtin; refine wpList_cat rfl (.tmp 75) (.tmp 76) 24 rfl Try.underlying24 Try.infoInt w9.heap.size (.slice (some ⟨w9.heap.size, 0, none⟩) 0 0) 0 [] rfl hown0 _ c rfl hrdc (by rw [HLC.out]; decide) (by rw [HLC.out]; decide) (by simp) ?_; intro v12 w8 hown8 hgrow8; have H8 := Lib.hid hown8; have G8 := Lib.hid hgrow8; clear hown8 hgrow8 hrdc hba hown0)
    have O8 := own_of_row H8.out
    obtain ⟨g3, f3, k3, rfl, hg3, hg3', hk3, hk3'⟩ := Own.open15 (show Own w8 w9.heap.size v12 c from O8) HLC.out
    have b8 : Below w9.heap.size w9 w8 := ((Below.refl _ _).alloc (Nat.le_refl _) _).grown G8.out (by simp) (fun k hk => by have e : w9.heap.size = k := (by simpa [Value.ownBlock] using hk); exact Nat.le_of_eq e)
    have HK9 := Lib.hid (fun (w' : World) (hb : Below w9.heap.size w9 w') => (show Below w.heap.size w w' ∧ Rd w' v1 xs ∧ Own w' w1.heap.size (.slice (some ⟨g2, f2, none⟩) 15 k2) c from ⟨B7.out.trans (hb.mono B7.out.size), R7.out.belowAll hb, O7.out.belowAll hb⟩))
    have S8 := Lib.hid (show CodSt w9 (.slice (some ⟨g3, f3, none⟩) 15 k3) c w8 from ⟨b8, O8⟩)
    have HSB := Lib.hid (fun j : Nat => symD HCW.out.sym j)
    obtain ⟨x3, hx3, HX3⟩ := HAT.out 3 (by omega)
    have HX3 := Lib.hid HX3
    obtain ⟨x4, hx4, HX4⟩ := HAT.out 4 (by omega)
    have HX4 := Lib.hid HX4
    obtain ⟨y3, hy3⟩ : ∃ y, x3 % 16 = y := ⟨_, rfl⟩
    obtain ⟨y4, hy4⟩ : ∃ y, x4 % 16 = y := ⟨_, rfl⟩
    have hY3 : Sym y3 := by constructor <;> omega
    have hY4 : Sym y4 := by constructor <;> omega
    have hiI : (i : Int) < 15 := by omega
    have hkI : (k : Int) < 15 := by omega
    clear O8 b8 H8 G8 O7 R7 B7 HX1 HX2
    go_upto_region 14 with fail
    go_cut [] from 78 to 87 (fun wx => Hid (CodSt w9 (.slice (some ⟨g3, f3, none⟩) 15 k3) (c.set i (xr (c[i]?.getD 0) y3)) wx))
    case first =>
      obtain ⟨b8, O8⟩ := S8.out
      have hw8 := (HK9.out _ b8).1
      have hcell := (O8.cellAt rfl).2 i (by rw [HLC.out]; exact hi15)
      have hfr := O8.frozenAt rfl (f3 + i)
      have HT := Lib.hid (O8.stored rfl i (by rw [HLC.out]; exact hi15) (xr (c[i]?.getD 0) y3))
      have HBW := Lib.hid b8
      have hx := HSB.out i
      have HC3 := HX3.out w8.drew hw8.drew.size (HAK.out _ hw8.drew)
      have hY1 := hY3.1
      have hY2 := hY3.2
      have hx1 := hx.1
      have hx2 := hx.2
      clear O8 b8 hw8 S8
      go_still_tail 11, (by kernel_rfl)
      still_call HC3
      repeat still_step
      refine wpStill_nil ?_
      go_wp2
      go_meet
      subst hy3
      exact ⟨(HBW.out.grown HT.out.2 HBW.out.size (fun k hk => by cases hk; exact hg3)).drew, HT.out.1.drew⟩
    case rest =>
    have S9 := hcut
    have HSU := Lib.hid (show Sym (xr (c[i]?.getD 0) y3) from xr_bd (HSB.out i).1 (HSB.out i).2 hY3.1 hY3.2)
    have HSB2 := Lib.hid (fun j : Nat => symD (symL_set HCW.out.sym i HSU.out) j)
    have HLD := Lib.hid (show (c.set i (xr (c[i]?.getD 0) y3)).length = 15 from by rw [List.length_set]; exact HLC.out)
    clear hcut S8
    go_upto_region 15 with fail
    go_cut [] from 89 to 98 (fun wx => Hid (CodSt w9 (.slice (some ⟨g3, f3, none⟩) 15 k3) ((c.set i (xr (c[i]?.getD 0) y3)).set k (xr ((c.set i (xr (c[i]?.getD 0) y3))[k]?.getD 0) y4)) wx))
    case first =>
      obtain ⟨b8, O8⟩ := S9.out
      have hwc := (HK9.out _ b8).1
      have hcell := (O8.cellAt rfl).2 k (by rw [HLD.out]; exact hk15)
      have hfr := O8.frozenAt rfl (f3 + k)
      have HT := Lib.hid (O8.stored rfl k (by rw [HLD.out]; exact hk15) (xr ((c.set i (xr (c[i]?.getD 0) y3))[k]?.getD 0) y4))
      have HBW := Lib.hid b8
      have hx := HSB2.out k
      have HC4 := HX4.out wc.drew hwc.drew.size (HAK.out _ hwc.drew)
      have hY1 := hY4.1
      have hY2 := hY4.2
      have hx1 := hx.1
      have hx2 := hx.2
      clear O8 b8 hwc S9
      go_still_tail 11, (by kernel_rfl)
      still_call HC4
      repeat still_step
      refine wpStill_nil ?_
      go_wp2
      go_meet
      subst hy4
      exact ⟨(HBW.out.grown HT.out.2 HBW.out.size (fun k hk => by cases hk; exact hg3)).drew, HT.out.1.drew⟩
    case rest =>
    have S10 := hcut
    have hte := two_err HCW.out hi15 hk15 HSU.out (xr_bd (HSB2.out k).1 (HSB2.out k).2 hY4.1 hY4.2)
    rw [HCD.out] at hte
    have HTE := Lib.hid hte
    clear hte hcut S9 HSB HSB2 HSU HLD
    generalize (c.set i (xr (c[i]?.getD 0) y3)).set k (xr ((c.set i (xr (c[i]?.getD 0) y3))[k]?.getD 0) y4) = d at *
    go_wp2_with fail
    refine (decGood HTE.out _ S10.out.2.rd).mono ?_
    rintro e w11 ⟨p, a, n, cp, rfl, hn2, o11, b11⟩
    have HB11 := Lib.hid (S10.out.1.trans (b11.mono S10.out.1.size))
    have O11 := Lib.hid o11.rd
    have R11 := Lib.hid (HK9.out _ HB11.out).2.1
    have hnI : ¬ (2 : Int) < (n : Int) := by omega
    have hnd : decide ((2 : Int) < (n : Int)) = false := by simpa using hnI
    clear o11 b11 S10 HTE
    go_wp2_with fail
    refine (vSame _ _ xs _ O11.out R11.out).mono ?_
    rintro e w12 ⟨rfl, n12, rfl⟩
    have HB12 := Lib.hid (show Below w9.heap.size w9 (w11.drewN n12) from HB11.out.trans ⟨rfl, rfl, rfl, Nat.le_refl _, fun _ _ => rfl⟩)
    generalize w11.drewN n12 = w12 at *
    clear HB11 O11 R11
    have HK12 := Lib.hid (fun (w' : World) (hb : Below w12.heap.size w12 w') => HK9.out w' (HB12.out.trans (hb.mono HB12.out.size)))
    have hown0 : (w12.alloc (.cells #[] 3)).ownsRow w12.heap.size 3 1 (.slice (some ⟨w12.heap.size, 0, none⟩) 0 0) 0 (ints []) := World.ownsRow_lit (base := w12.heap.size) (e := 3) (size := 1) w12 #[] 0 (Nat.le_refl _) (by simp) rfl
    have hrdc := (HK12.out _ ((Below.refl w12.heap.size w12).alloc (Nat.le_refl _) (.cells #[] 3))).2.2.rd
    clear HK9 HB12
    go_wp2_with (at_builtin; refine wpList_cat rfl (.tmp 124) (.tmp 125) 24 rfl Try.underlying24 Try.infoInt w12.heap.size (.slice (some ⟨w12.heap.size, 0, none⟩) 0 0) 0 [] rfl hown0 _ c rfl hrdc (by rw [HLC.out]; decide) (by rw [HLC.out]; decide) (by simp) ?_; intro v17 w13 hown13 hgrow13; have H13 := Lib.hid hown13; have G13 := Lib.hid hgrow13; clear hown13 hgrow13 hrdc hown0)
    have O13 := own_of_row H13.out
    obtain ⟨g4, f4, k4, rfl, hg4, hg4', hk4, hk4'⟩ := Own.open15 (show Own w13 w12.heap.size v17 c from O13) HLC.out
    have b13 : Below w12.heap.size w12 w13 := ((Below.refl _ _).alloc (Nat.le_refl _) _).grown G13.out (by simp) (fun k hk => by have e : w12.heap.size = k := (by simpa [Value.ownBlock] using hk); exact Nat.le_of_eq e)
    have b14 : Below w12.heap.size w12 (w13.alloc (.cells #[] 3)) := b13.alloc b13.size _
    have HB14 := Lib.hid b14
    have hown14 : (w13.alloc (.cells #[] 3)).ownsRow w13.heap.size 3 1 (.slice (some ⟨w13.heap.size, 0, none⟩) 0 0) 0 (ints []) := World.ownsRow_lit (base := w13.heap.size) (e := 3) (size := 1) w13 #[] 0 (Nat.le_refl _) (by simp) rfl
    have HL14 := Lib.hid (fun p : Nat => show Lost c p 0 (.slice (some ⟨g4, f4, none⟩) 15 k4) w12.heap.size (w13.alloc (.cells #[] 3)) from ⟨c, HLC.out, HCW.out.sym, agree_refl _ _, O13.belowAll ((Below.refl w13.heap.size w13).alloc (Nat.le_refl _) (.cells #[] 3))⟩)
    have HO14 := Lib.hid hown14
    obtain ⟨x6, hx6, HX6⟩ := HAT.out 6 (by omega)
    have HC6 := Lib.hid (HX6 _ (HK12.out _ b14).1.size (HAK.out _ (HK12.out _ b14).1))
    obtain ⟨q0, hq0⟩ : ∃ q : Nat, x6 % 12 = (q : Int) := ⟨(x6 % 12).toNat, by omega⟩
    have hq12 : q0 < 12 := by omega
    clear O13 b13 b14 H13 G13 hown14 HX6
    go_wp2_with fail
    refine (HC6.out).mono ?_
    rintro e w14 ⟨rfl, rfl⟩
    go_wp2_with fail
    go_loopw [18, 19] (fun er iv wr => ∃ n q : Nat, iv = .int .i64 (q : Int) ∧ n ≤ 4 ∧ q ≤ 15 ∧ w13.heap.size ≤ wr.heap.size ∧ Hid (q = q0 + n) ∧ Hid (wr.ownsRow w13.heap.size 3 1 er n (ints (rowI q0 n))) ∧ Hid (Lost c q0 n (.slice (some ⟨g4, f4, none⟩) 15 k4) w12.heap.size wr) ∧ Hid (Below w12.heap.size w12 wr)) (fun _ iv _ => 15 - (intOf iv).toNat)
    case atStart =>
      exact ⟨0, q0, congrArg (Value.int .i64) hq0, by omega, by omega, by simp, rfl, HO14.out, HL14.out q0, HB14.out⟩
    case round =>
      clear hq0
      obtain ⟨n, q, rfl, hn4, hq15, hsz, HQ, HER, HLO, HBW⟩ := hrel
      obtain ⟨ae, ce, ne, HNE, rfl, _, _, _⟩ := (own_of_row HER.out).rd.opn
      obtain rfl : n = ne := by have := HNE.out; rw [rowI_len] at this; exact this
      obtain ⟨d, hd15, hds, hda, hdo⟩ := HLO.out
      by_cases hc : n < 4 ∧ q < 15
      · obtain ⟨hn, hq⟩ := hc
        have hnI4 : (n : Int) < 4 := by omega
        have hqI : (q : Int) < 15 := by omega
        have hnb : decide ((n : Int) < 4) = true := by simpa using hnI4
        have hqb : decide ((q : Int) < 15) = true := by simpa using hqI
        obtain ⟨xq, hxq, HXq⟩ := HAT.out q (by omega)
        have hw := (HK12.out _ HBW.out).1
        have HCq := Lib.hid (HXq wr hw.size (HAK.out _ hw))
        have hcell := (hdo.cellAt rfl).2 q (by rw [hd15]; exact hq)
        have hfr := hdo.frozenAt rfl (f4 + q)
        have HT := Lib.hid (hdo.stored rfl q (by rw [hd15]; exact hq) (xq % 16))
        have HE2 := Lib.hid (ownsRow_kept (w' := wr.setCell ⟨g4, f4 + q, none⟩ (.int .i64 (xq % 16))) HER.out (fun x hx => heap_setCell_other wr ⟨g4, f4 + q, none⟩ x _ (fun e => by have h1 := (HER.out.lt x hx).1; have h2 : g4 = x := (by simpa using e.symm); omega)))
        have HB2 := Lib.hid (HBW.out.grown HT.out.2 HBW.out.size (fun x hx => by cases hx; exact hg4))
        have hs2 : w13.heap.size ≤ (wr.setCell ⟨g4, f4 + q, none⟩ (.int .i64 (xq % 16))).heap.size := Nat.le_trans hsz HT.out.2.size
        have HL2 := Lib.hid (show Lost c q0 (n + 1) (.slice (some ⟨g4, f4, none⟩) 15 k4) w12.heap.size (wr.setCell ⟨g4, f4 + q, none⟩ (.int .i64 (xq % 16))) from ⟨d.set q (xq % 16), by rw [List.length_set]; exact hd15, symL_set hds q ⟨by omega, by omega⟩, by rw [HQ.out]; exact agree_grow hda, HT.out.1⟩)
        have HSN := Lib.hid (show rowI q0 n ++ [(q : Int)] = rowI q0 (n + 1) from by rw [rowI_snoc, HQ.out])
        have HQ2 := Lib.hid (show q + 1 = q0 + (n + 1) from by rw [HQ.out]; omega)
        clear hd15 hds hda hdo hw HXq HLO HER HT HBW HNE
        go_wp2_with fail
        refine (HCq.out).mono ?_
        rintro e w15 ⟨rfl, rfl⟩
        go_wp2_with (at_builtin; go_loud (refine wpList_push rfl (.tmp 147) (.tmp 149) 24 rfl Try.underlying24 Try.infoInt w13.heap.size _ n (rowI q0 n) rfl HE2.out (congrArg (fun b => Value.slice (some ⟨b, 0, none⟩) 1 1) (show w15.heap.size = (w15.setCell ⟨g4, f4 + q, none⟩ (.int .i64 (xq % 16))).heap.size from by simp)) (by omega) hs2 ?_; intro v18 w16 hown16 hgrow16; have hs16 := Nat.le_trans hs2 hgrow16.size; have HL16 := Lib.hid (HL2.out.grown hgrow16 (Nat.lt_of_lt_of_le hg4' hs2) (fun x hx => by have := (HE2.out.lt x hx).1; omega)); have HB16 := Lib.hid (HB2.out.grown hgrow16 HB2.out.size (fun x hx => by have h1 := (HE2.out.lt x hx).1; omega)); rw [HSN.out] at hown16; have H16 := Lib.hid hown16; clear hown16 hgrow16))
        go_roundw
        case rel =>
          first
            | exact ⟨n + 1, q + 1, by go_num, by omega, by omega, hs16, HQ2.out, H16.out, HL16.out, HB16.out⟩
            | ((repeat apply Exists.intro); refine ⟨?_, rfl⟩; exact ⟨n + 1, q + 1, by go_num, by omega, by omega, hs16, HQ2.out, H16.out, HL16.out, HB16.out⟩)
        case measure =>
          show 15 - (intOf (Value.int .i64 ((q : Int) + 1))).toNat < 15 - (intOf (Value.int .i64 (q : Int))).toNat
          simp only [intOf]; omega
      · have hE := erased HCW.out (show q0 + n ≤ 15 by rw [← HQ.out]; exact hq15) hn4 hd15 hds hda
        rw [HCD.out] at hE
        have HE := Lib.hid hE
        have RD := Lib.hid hdo.rd
        have RP := Lib.hid (own_of_row HER.out).rd
        clear hE hd15 hds hda hdo HLO HER HNE HQ
        have hor : (decide ((n : Int) < 4) = false ∧ ¬ (n : Int) < 4) ∨ ((decide ((n : Int) < 4) = true ∧ (n : Int) < 4) ∧ decide ((q : Int) < 15) = false ∧ ¬ (q : Int) < 15) := by
          by_cases h : n < 4
          · exact .inr ⟨⟨by simp; omega, by omega⟩, by simp; omega, by omega⟩
          · exact .inl ⟨by simp; omega, by omega⟩
        rcases hor with ⟨f1, f2⟩ | ⟨⟨f1, f2⟩, f3, f4⟩
        all_goals
          go_wp2_with fail
          refine (erGood HE.out _ RD.out RP.out).mono ?_
          rintro e w15 ⟨v20, rfl, o20, b20⟩
          have HB20 := Lib.hid (HBW.out.trans (b20.mono HBW.out.size))
          have O20 := Lib.hid o20.rd
          have R20 := Lib.hid (HK12.out _ HB20.out).2.1
          clear o20 b20
          go_wp2_with fail
          refine (vSame _ _ xs _ O20.out R20.out).mono ?_
          rintro e w17 ⟨rfl, n17, rfl⟩
          have HBF := Lib.hid (HK12.out _ (show Below w12.heap.size w12 (w15.drewN n17) from HB20.out.trans ⟨rfl, rfl, rfl, Nat.le_refl _, fun _ _ => rfl⟩)).1
          go_wp2
          go_meet
          exact HBF.out
  case rest =>
  have B5 := hcut
  clear HDC HER O1 R4 O4 B4 hcut
  go_wp2_with fail
  refine (drawDecB_any _ _ (HRL.out _ B5.out)).mono ?_
  rintro e w5 ⟨v5, ys, rfl, -, o5, b5⟩
  have B6 := Lib.hid (B5.out.trans (b5.mono B5.out.size))
  have O5 := Lib.hid o5
  clear b5 o5 B5
  go_wp2_with fail
  refine (implDec_any v5 ys _ O5.out.rd).mono ?_
  rintro e w6 ⟨a1, a2, rfl, p1, p2, -, b6⟩
  have B7 := Lib.hid (B6.out.trans (b6.mono B6.out.size))
  have R5 := Lib.hid (O5.out.belowAll b6).rd
  have P1 := Lib.hid p1
  have P2 := Lib.hid p2
  clear b6 p1 p2 B6 O5
  go_wp2_with fail
  refine (specDec_any v5 ys _ R5.out).mono ?_
  rintro e w7 ⟨c1, c2, rfl, q1, q2, b7⟩
  have B8 := Lib.hid (B7.out.trans (b7.mono B7.out.size))
  have A1 := Lib.hid (P1.out.belowAll b7).rd
  have A2 := Lib.hid (P2.out.belowAll b7).rd
  have Q1 := Lib.hid q1.rd
  have Q2 := Lib.hid q2.rd
  clear b7 q1 q2 B7 P1 P2 R5
  have hv1 := fun w (ha : Rd w a1 (decBlkR ys)) (hb : Rd w c1 (decBlkR ys)) => vInts_any a1 c1 (decBlkR ys) (decBlkR ys) w ha hb
  have hv2 := fun w (ha : Rd w a2 (decBlkP ys)) (hb : Rd w c2 (decBlkP ys)) => vInts_any a2 c2 (decBlkP ys) (decBlkP ys) w ha hb
  rw [eqL_refl] at hv1 hv2
  have HV1 := Lib.hid hv1
  have HV2 := Lib.hid hv2
  clear hv1 hv2
  generalize decBlkR ys = l1 at *
  generalize decBlkP ys = l2 at *
  generalize decBlkGot ys = t1 at *
  generalize blkOk ys = t2 at *
  go_wp2_with fail
  refine (HV1.out _ A1.out Q1.out).mono ?_
  rintro e w8 ⟨rfl, n8, rfl⟩
  have B9 := Lib.hid (show Below w.heap.size w (w7.drewN n8) from B8.out.trans ⟨rfl, rfl, rfl, Nat.le_refl _, fun _ _ => rfl⟩)
  have A3 := Lib.hid (show Rd (w7.drewN n8) a2 l2 from A2.out)
  have Q3 := Lib.hid (show Rd (w7.drewN n8) c2 l2 from Q2.out)
  generalize w7.drewN n8 = W8 at *
  clear B8 A1 A2 Q1 Q2 HV1
  go_wp2_with fail
  refine (HV2.out _ A3.out Q3.out).mono ?_
  rintro e w9 ⟨rfl, n9, rfl⟩
  have B10 := Lib.hid (show Below w.heap.size w (W8.drewN n9) from B9.out.trans ⟨rfl, rfl, rfl, Nat.le_refl _, fun _ _ => rfl⟩)
  clear B9 A3 Q3 HV2
  cases t1 <;> cases t2
  all_goals
    go_wp2
    go_ret
    exact ⟨rfl, B10.out⟩
end Go.Proofs.Ytlemielobmbadaa
