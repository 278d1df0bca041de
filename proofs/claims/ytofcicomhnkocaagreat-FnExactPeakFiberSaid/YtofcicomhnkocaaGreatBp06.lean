/- Joined: XFmtP XOpf XLfm XCur XSrtP XAlbP XPsh XAlbQ XSrtW XAlbV XDra. -/
import Derived.Test.YtofcicomhnkocaaGreatBp02
import Derived.Test.YtofcicomhnkocaaGreatBp01
import Derived.Test.YtofcicomhnkocaaGreatBp05
import Derived.Test.YtofcicomhnkocaaGreatBp04
import Derived.Lib.SlicesCompact
import Derived.Sort.OwnSortedInts
import Derived.ArgAppend
import Derived.Test.YtofcicomhnkocaaGreatBp03
import Derived.Test.YtofcicomhnkocaaGreatShelf
import Derived.Lib.QuietBelow
import Derived.StillTailTactics
import Derived.Deep.RegionLaw
import Derived.Laws.AppendOwnNone
import Derived.Maps.AppendAt
set_option linter.unusedVariables false
namespace Go.Proofs.YtofcicomhnkocaaGreat
open Go.RowKit

structure Fmt where
  c : Int
  r : Int
def nilFm : Fmt := ⟨0, 0⟩
def fmE (z : Fmt) : List Value := [.int .i64 z.c, .int .i64 z.r]
def fmAt (zs : List Fmt) (i : Nat) : Bool :=
  inB (zs[i]?.getD nilFm).c 1 20000 && (inB (zs[i]?.getD nilFm).r 1 1000 && !(decide (0 < i) && (decide ((zs[i - 1]?.getD nilFm).c ≤ (zs[i]?.getD nilFm).c) || decide ((zs[i]?.getD nilFm).r ≤ (zs[i - 1]?.getD nilFm).r))))
def fmOk (zs : List Fmt) : Bool := (List.range zs.length).all (fmAt zs) && inB (zs.length : Int) 1 6
theorem fmOk_at {zs : List Fmt} {k : Nat} (hk : k < zs.length) (h : fmAt zs k = false) : fmOk zs = false := by
  unfold fmOk
  have : (List.range zs.length).all (fmAt zs) = false := by
    rw [List.all_eq_false]
    exact ⟨k, List.mem_range.2 hk, by simp [h]⟩
  rw [this]; rfl
theorem fmOk_all {zs : List Fmt} (h : ∀ i, i < zs.length → fmAt zs i = true) : fmOk zs = inB (zs.length : Int) 1 6 := by
  unfold fmOk
  have : (List.range zs.length).all (fmAt zs) = true := List.all_eq_true.2 fun i hi => h i (List.mem_range.1 hi)
  rw [this]; rfl
theorem fmOk_long {zs : List Fmt} (h : 6 < zs.length) : fmOk zs = false := by
  unfold fmOk
  have : inB (zs.length : Int) 1 6 = false := by unfold inB; rw [decide_eq_false (show ¬ (zs.length : Int) ≤ 6 by omega)]; simp
  rw [this]; simp
theorem fmOk_len {zs : List Fmt} (h : fmOk zs = true) : 1 ≤ zs.length ∧ zs.length ≤ 6 := by
  unfold fmOk at h
  simp only [Bool.and_eq_true] at h
  have := inB_true h.2
  omega
theorem fm_up {zs : List Fmt} {k : Nat} (h : ∀ i, i < k → fmAt zs i = true) (hk : fmAt zs k = true) : ∀ i, i < k + 1 → fmAt zs i = true := fun i hi => by
  by_cases e : i = k
  · subst e; exact hk
  · exact h i (by omega)
end Go.Proofs.YtofcicomhnkocaaGreat
namespace Go.Proofs.YtofcicomhnkocaaGreat
open Go.RowKit Go.WideShapes
set_option maxRecDepth 100000
section
variable {H : Type} {enc : TypeId × Value → H} {W : World} {r : Reach} {b0 : Nat} {v : Value} {d : DataW H} {ps : List MemPlace}
instance : Inhabited Fmt := ⟨nilFm⟩
theorem opens_fmt : Opens enc Tryz.prog W 103 (fun f : Fmt => (fmE f).map Dt.leaf) :=
  opens_map' (opens_struct2 (k0 := 1) (k1 := 1) Tryz.underlying103 (by kernel_rfl) rfl rfl (by kernel_rfl) (by kernel_rfl) opens_int_ opens_int_) (fun p => ⟨p.1, p.2⟩) (fun _ => rfl)
theorem opens_fmts : Opens enc Tryz.prog W 26 (fun zs : List Fmt => [flt 2 fmE zs]) :=
  opens_flt (m := 2) (en := fmE) (fun _ => rfl) (by decide) Tryz.underlying26 (by kernel_rfl) opens_fmt
theorem open_formats (hval : Value.okWide Tryz.prog W r b0 26 v) (h : DataW.Trod enc Tryz.prog W 0 (fun _ => true) true 26 v d ps) : ∃ zs : List Fmt, Rwt W (flt 2 fmE zs) v :=
  opens_val Tryz.underlying26 hval opens_fmts h
end
end Go.Proofs.YtofcicomhnkocaaGreat
namespace Go.Proofs.YtofcicomhnkocaaGreat
open Go.RowKit Go.Sort
set_option maxRecDepth 100000

def fmV (z : Fmt) : Value := .agg #[.int .i64 z.c, .int .i64 z.r]
def mkFmt (q : Int) : Fmt := ⟨q, q + 1⟩
theorem szFormatS_any (v : Value) (zs : List Fmt) (l : Int) (w : World) (h : Rwt w (flt 2 fmE zs) v) (h0 : 0 ≤ l) (h1 : l ≤ 1048576) :
    Calls Tryz.prog 13 #[v, .int .i64 l] w fun e w' => e = .returned (.int .i64 (if l < zs.length then -1 else l - zs.length)) ∧ w = w' := by
  obtain ⟨a, n, cap, rfl, HN, hla, _⟩ := flt_opnw (m := 2) (enc := fmE) (fun _ => rfl) (by omega) nilFm h
  rw [HN.out]
  clear h
  by_cases hc : l - n < 0
  · have hb : decide (l - n < 0) = true := by simpa using hc
    have e : (if l < (n : Int) then (-1 : Int) else l - n) = -1 := if_pos (by omega)
    rw [e]
    go_enter Tryz.func13, Tryz.ntmps13
    go_wp2
    go_ret
    exact ⟨rfl, rfl⟩
  · have hb : decide (l - n < 0) = false := by simpa using hc
    have e : (if l < (n : Int) then (-1 : Int) else l - n) = l - n := if_neg (by omega)
    rw [e]
    go_enter Tryz.func13, Tryz.ntmps13
    go_wp2
    go_ret
    exact ⟨rfl, rfl⟩
theorem toFormat_any (z : Fmt) (w : World) :
    Calls Tryz.prog 62 #[fmV z] w fun e w' => e = .returned (fmV z) ∧ Below w.heap.size w w' := by
  unfold fmV
  go_enter Tryz.func62, Tryz.ntmps62
  go_wp2
  exact bodyPost_ret (v := .agg #[.int .i64 z.c, .int .i64 z.r]) (by simp [results, Tryz.results62, go_sem]) rfl ⟨rfl, (((Below.refl _ _).alloc (Nat.le_refl _) _).alloc (by simp) _).alloc (by simp; omega) _⟩
theorem eqFormat_same (z : Fmt) (w : World) :
    Calls Tryz.prog 68 #[fmV z, fmV z] w fun e w' => e = .returned (.bool true) ∧ Below w.heap.size w w' := by
  have n0 : (z.c != z.c) = false := by simp
  have n1 : (z.r != z.r) = false := by simp
  have HB := Lib.hid (((Below.refl w.heap.size w).alloc (Nat.le_refl _) (.cells #[.int .i64 z.c, .int .i64 z.r] 101)).alloc (by simp) (.cells #[.int .i64 z.c, .int .i64 z.r] 101))
  unfold fmV
  go_enter Tryz.func68, Tryz.ntmps68
  go_wp2
  go_ret
  exact ⟨rfl, HB.out⟩
theorem Tryz.infoFormat : (Tryz.prog.info? 101).map (fun i => (i.zero, i.size, i.bytes)) = some (some (.agg #[.int .i64 0, .int .i64 0]), 2, 16) := by kernel_rfl
set_option maxHeartbeats 1600000 in
theorem toFormatS_any (v : Value) (zs : List Fmt) (w : World) (h : Rwt w (flt 2 fmE zs) v) (hr : zs.length ≤ 1048576) :
    Calls Tryz.prog 17 #[v] w fun e w' => ∃ v', e = .returned v' ∧ Ofr w' w.heap.size (flt 2 fmE zs) v' ∧ Below w.heap.size w w' := by
  obtain ⟨i0, hi, hz0, hz1, hz2⟩ := info_parts Tryz.infoFormat
  obtain ⟨a, n, cap, rfl, HN, hn, ha⟩ := flt_opnw (m := 2) (enc := fmE) (fun _ => rfl) (by omega) nilFm h
  have HA := Lib.hid ha
  have HL := Lib.hid (fun k hk => fillG_len nilFm zs n k HN.out hk)
  have HST := Lib.hid (fun k hk => fillG_step nilFm zs n k HN.out hk)
  have HAL := Lib.hid (fillG_all nilFm zs n HN.out)
  rw [HN.out] at hr
  clear ha h
  go_enter Tryz.func17, Tryz.ntmps17
  go_wp2_with (refine wpList_make_full _ rfl _ _ 37 rfl w.heap.size 101 i0 (.agg #[.int .i64 0, .int .i64 0]) 2 Tryz.underlying37 hi hz0 hz1 _ _ _ _ n rfl rfl rfl rfl (by rw [hz2]; omega) (by unfold maxLen; omega) (Nat.le_refl _) ?_; intro w1 hown1 hgrow1)
  have HO1 := Lib.hid (show Ofr w1 w.heap.size (flt 2 fmE (fillG nilFm zs n 0)) (.slice (some ⟨w.heap.size, 0, none⟩) n n) from by
    rw [fillG_zero]
    exact made_flat (enc := fmE) (fun _ => rfl) (by omega) nilFm rfl hown1)
  have HB1 := Lib.hid (show Below w.heap.size w w1 from (Below.refl _ _).grown hgrow1 (Nat.le_refl _) (by simp))
  clear hown1 hgrow1
  go_loopw [4] (fun i wr => ∃ k : Nat, k ≤ n ∧ i = .int .i64 k ∧ Hid (Ofr wr w.heap.size (flt 2 fmE (fillG nilFm zs n k)) (.slice (some ⟨w.heap.size, 0, none⟩) n n)) ∧ Hid (Below w.heap.size w wr)) (fun i _ => n - (intOf i).toNat)
  case atStart => exact ⟨0, by omega, rfl, HO1.out, HB1.out⟩
  case round =>
    obtain ⟨k, hk, rfl, HO, HB⟩ := hrel
    by_cases hlt : k < n
    · obtain ⟨b, off, rfl, hbs, hcs⟩ := HA.out (by omega)
      have hltI : (k : Int) < (n : Int) := by omega
      have d0 := (HB.out.cell (p := ⟨b, off + k * 2 + 0, none⟩) hbs).trans (hcs k hlt 0 _ rfl)
      have d1 := (HB.out.cell (p := ⟨b, off + k * 2 + 1, none⟩) hbs).trans (hcs k hlt 1 _ rfl)
      simp only [Nat.add_zero] at d0
      have HS := Lib.hid (fun w => toFormat_any (zs[k]?.getD nilFm) w)
      have HSK := Lib.hid (HST.out k hlt)
      have HLK := Lib.hid (HL.out k (by omega))
      clear hcs HO1 HB1
      unfold fmV at HS
      generalize zs[k]?.getD nilFm = z at *
      go_wp2_with fail
      refine (HS.out _).mono ?_
      rintro e w2 ⟨rfl, b2⟩
      obtain ⟨g, o, cp, ev, hg1, hg2, hcc, hfz, hof⟩ := flt_put (enc := fmE) (m := 2) (fun _ => rfl) (by omega) (HO.out.below b2) (Nat.le_trans HB.out.size b2.size) (k := k) (by rw [HLK.out]; exact hlt) z
      simp only [Value.slice.injEq, Option.some.injEq, Addr.mk.injEq, and_true] at ev
      obtain ⟨⟨rfl, rfl⟩, -, rfl⟩ := ev
      rw [HSK.out] at hof
      simp only [Nat.zero_add] at hcc hof
      obtain ⟨q0, c0⟩ := hcc 0 (by omega)
      obtain ⟨q1, c1⟩ := hcc 1 (by omega)
      simp only [Nat.add_zero] at c0
      have f0 := hfz (k * 2 + 0)
      have f1 := hfz (k * 2 + 1)
      simp only [Nat.add_zero] at f0
      have HB2 := Lib.hid (setRow_below (Nat.le_refl w.heap.size) (fmE z) w2 (k * 2) (HB.out.trans (b2.mono HB.out.size)))
      simp only [setRow, fmE] at hof HB2
      have HOF := Lib.hid hof
      clear hof b2 hfz hcc
      go_wp2
      go_roundw
      case rel => exact ⟨k + 1, by omega, by go_num, HOF.out, HB2.out⟩
      case measure => simp [intOf]; omega
    · obtain rfl : k = n := by omega
      have hof := HO.out
      rw [HAL.out] at hof
      have HOF := Lib.hid hof
      go_wp2
      go_ret
      exact ⟨_, rfl, HOF.out, HB.out⟩
set_option maxHeartbeats 1600000 in
theorem eqFormatS_same (va vb : Value) (zs : List Fmt) (w : World) (ha : Rdt w (flt 2 fmE zs) va) (hb : Rdt w (flt 2 fmE zs) vb) :
    Calls Tryz.prog 21 #[va, vb] w fun e w' => e = .returned (.bool true) ∧ Below w.heap.size w w' := by
  obtain ⟨a, n, ca, rfl, HN, _, hn, HA⟩ := flt_opn (m := 2) (enc := fmE) (fun _ => rfl) (by omega) nilFm ha
  obtain ⟨b, n2, cb, rfl, HM, _, _, HBB⟩ := flt_opn (m := 2) (enc := fmE) (fun _ => rfl) (by omega) nilFm hb
  obtain rfl : n = n2 := HN.out.symm.trans HM.out
  have HA := Lib.hid HA
  have HBB := Lib.hid HBB
  clear HM ha hb
  have hne : ((n : Int) != (n : Int)) = false := by simp
  go_enter Tryz.func21, Tryz.ntmps21
  go_wp2
  go_loopw [5] (fun i wr => ∃ k : Nat, k ≤ n ∧ i = .int .i64 k ∧ Hid (Below w.heap.size w wr)) (fun i _ => n - (intOf i).toNat)
  case atStart => exact ⟨0, by omega, rfl, Below.refl _ _⟩
  case round =>
    obtain ⟨k, hk, rfl, HB⟩ := hrel
    by_cases hlt : k < n
    · obtain ⟨g1, o1, rfl, hg1, hc1⟩ := HA.out (by omega)
      obtain ⟨g2, o2, rfl, hg2, hc2⟩ := HBB.out (by omega)
      have hltI : (k : Int) < (n : Int) := by omega
      have x0 := rg ((HB.out.cell (p := ⟨g1, o1 + k * 2 + 0, none⟩) hg1).trans (hc1 k hlt 0 _ rfl))
      have y0 := rg ((HB.out.cell (p := ⟨g2, o2 + k * 2 + 0, none⟩) hg2).trans (hc2 k hlt 0 _ rfl))
      have x1 := rg ((HB.out.cell (p := ⟨g1, o1 + k * 2 + 1, none⟩) hg1).trans (hc1 k hlt 1 _ rfl))
      have y1 := rg ((HB.out.cell (p := ⟨g2, o2 + k * 2 + 1, none⟩) hg2).trans (hc2 k hlt 1 _ rfl))
      simp only [Nat.add_zero] at x0 y0
      have HQ := Lib.hid (fun w => eqFormat_same (zs[k]?.getD nilFm) w)
      unfold fmV at HQ
      generalize zs[k]?.getD nilFm = z at *
      clear hc1 hc2
      go_wp2
      refine wp_region_quiet_below (by kernel_rfl) (by kernel_rfl) ?_
      repeat (go_big_quiet_step (first | (go_at_call 68; exact Calls.regrown_of (HQ.out _))))
      refine wpQuiet_nil ?_
      rintro _ ⟨⟨dq, osq⟩, rfl⟩
      go_wp2
      go_roundw
      case rel => exact ⟨k + 1, by omega, by go_num, HB.out.trans ((below_regrown _ dq osq).mono HB.out.size)⟩
      case measure => simp [intOf]; omega
    · obtain rfl : k = n := by omega
      go_wp2
      go_ret
      exact ⟨rfl, HB.out⟩
set_option maxHeartbeats 3200000 in
theorem markFormatS_any (v : Value) (zs : List Fmt) (fp : List Nat) (q : Int) (w : World) (h : Odt w (flt 2 fmE zs) v fp) (hn : fp.Nodup) (hb : zs.length ≤ 4194304) (hq : 0 ≤ q) (hq2 : q ≤ 1125899906842624) :
    Calls Tryz.prog 35 #[v, .int .i64 q] w fun e w' => e = .returned (.int .i64 (q + 2 * (zs.length : Int))) ∧ Odt w' (flt 2 fmE ((List.range zs.length).map fun i : Nat => mkFmt (q + 2 * (i : Int)))) v fp ∧ Wr w w' fp := by
  obtain ⟨a, n, cap, rfl, HN, _, hnl, -⟩ := flt_opn (m := 2) (enc := fmE) (fun _ => rfl) (by omega) nilFm h.rd
  obtain ⟨f, hf⟩ : ∃ f : Nat → Fmt, f = fun i : Nat => mkFmt (q + 2 * (i : Int)) := ⟨_, rfl⟩
  have HFE := Lib.hid (fun i => congrFun hf i)
  rw [← hf, HN.out]
  rw [HN.out] at hb
  clear hf
  have HST := Lib.hid (fun k (h : k < n) => mkG_step f zs k (by rw [HN.out]; exact h))
  have HLN := Lib.hid (fun k (h : k ≤ n) => (mkG_len f zs k (by rw [HN.out]; exact h)).trans HN.out)
  have HALL := Lib.hid (mkG_all f zs n HN.out)
  have HH := Lib.hid h
  clear h
  go_enter Tryz.func35, Tryz.ntmps35
  go_wp2
  go_loopw [1, 5] (fun x i wr => ∃ k : Nat, k ≤ n ∧ i = .int .i64 k ∧ x = .int .i64 (q + 2 * (k : Int)) ∧ Hid (Odt wr (flt 2 fmE (mkG f zs k)) (.slice a n cap) fp) ∧ Hid (Wr w wr fp)) (fun _ i _ => n - (intOf i).toNat)
  case atStart => exact ⟨0, by omega, rfl, int_eq (by simp), by rw [mkG_zero]; exact HH.out, Wr.refl _ _⟩
  case round =>
    obtain ⟨k, hk, rfl, rfl, HO, HW⟩ := hrel
    by_cases hlt : k < n
    · have hltI : (k : Int) < (n : Int) := by omega
      obtain ⟨g, off, rfl, hcc, hfz, hset⟩ := flt_mark (enc := fmE) (m := 2) (fun _ => rfl) (by omega) HO.out hn (k := k) (by rw [HLN.out k (by omega)]; exact hlt)
      obtain ⟨s1, s2⟩ := hset (f k)
      rw [HST.out k hlt] at s1
      have hfk := HFE.out k
      obtain ⟨p, hp⟩ : ∃ p : Int, p = q + 2 * (k : Int) := ⟨_, rfl⟩
      have hp1 : 0 ≤ p := by omega
      have hp2 : p ≤ 1125899940397056 := by omega
      rw [← hp] at hfk ⊢
      have HP := Lib.hid hp
      clear hp
      rw [hfk] at s1 s2
      simp only [setRow, fmE, mkFmt] at s1 s2
      have HS1 := Lib.hid s1
      have HS2 := Lib.hid (HW.out.trans s2)
      obtain ⟨q0, c0⟩ := hcc 0 (by omega)
      obtain ⟨q1, c1⟩ := hcc 1 (by omega)
      have f0 := hfz (off + k * 2 + 0)
      have f1 := hfz (off + k * 2 + 1)
      simp only [Nat.add_zero] at c0 f0
      clear s1 s2 hset hcc hfz hfk
      go_wp2
      go_roundw
      case rel => exact ⟨k + 1, by omega, by go_num, int_eq (by rw [HP.out]; omega), HS1.out, HS2.out⟩
      case measure => simp [intOf]; omega
    · obtain rfl : k = n := by omega
      have ho := HO.out
      rw [HALL.out] at ho
      have HOF := Lib.hid ho
      clear HO ho
      go_wp2
      go_ret
      exact ⟨rfl, HOF.out, HW.out⟩
theorem szFormatS_Q (v : Value) (zs : List Fmt) (l : Int) (w : World) (h : Rwt w (flt 2 fmE zs) v) (h0 : 0 ≤ l) (h1 : l ≤ 1048576) : Calls Tryz.prog 13 #[v, .int .i64 l] w (SzQ zs.length l w) := by
  refine (szFormatS_any v zs l w h h0 h1).mono ?_
  rintro e w' ⟨rfl, rfl⟩
  by_cases hx : l < (zs.length : Int)
  · rw [if_pos hx]; exact ⟨_, rfl, Below.refl _ _, .inl ⟨rfl, hx⟩⟩
  · rw [if_neg hx]; exact ⟨_, rfl, Below.refl _ _, .inr ⟨rfl, by omega⟩⟩
theorem toFormatS_P (v : Value) (zs : List Fmt) (w : World) (h : Rwt w (flt 2 fmE zs) v) (hr : zs.length ≤ 1048576) : Calls Tryz.prog 17 #[v] w (ToP (fun w' v' fp => Odt w' (flt 2 fmE zs) v' fp) w) := by
  refine (toFormatS_any v zs w h hr).mono ?_
  rintro e w' ⟨v', rfl, ⟨fp, h1, h2, h3⟩, hb⟩
  exact ⟨v', fp, rfl, h1, h2, h3, hb⟩
theorem markFormatS_N (v : Value) (zs : List Fmt) (fp : List Nat) (q : Nat) (w : World) (h : Odt w (flt 2 fmE zs) v fp) (hn : fp.Nodup) (hb : zs.length ≤ 1048576) (hq : 0 < q) (hq2 : q ≤ 1099511627776) :
    Calls Tryz.prog 35 #[v, .int .i64 (q : Int)] w fun e w' => e = .returned (.int .i64 ((q + 2 * zs.length : Nat) : Int)) ∧ Odt w' (flt 2 fmE ((List.range zs.length).map fun i : Nat => mkFmt ((q : Int) + 2 * (i : Int)))) v fp ∧ Wr w w' fp := by
  refine (markFormatS_any v zs fp q w h hn (by omega) (by omega) (by omega)).mono ?_
  rintro e w' ⟨rfl, h1, h2⟩
  exact ⟨ret_int (by omega), h1, h2⟩
end Go.Proofs.YtofcicomhnkocaaGreat
namespace Go.Proofs.YtofcicomhnkocaaGreat
open Go.RowKit

def bb : Value → Option Nat
  | .slice (some a) (_ + 1) _ => some a.block
  | _ => none
end Go.Proofs.YtofcicomhnkocaaGreat
namespace Go.Proofs.YtofcicomhnkocaaGreat
open Go.RowKit Go.Sort Go.Lib

def srt (xs : List Int) : List Int := xs.mergeSort fun x y => decide (x ≤ y)
def cpt (xs : List Int) : List Int := Go.Lib.compact xs
def ust (xs : List Int) : List Int := cpt (srt xs)
theorem srt_len (xs : List Int) : (srt xs).length = xs.length := List.length_mergeSort _
theorem srt_mem {xs : List Int} {x : Int} : x ∈ srt xs ↔ x ∈ xs := List.mem_mergeSort
theorem srt_sorted (xs : List Int) : (srt xs).Pairwise (· ≤ ·) := by
  have := List.pairwise_mergeSort (le := fun x y : Int => decide (x ≤ y)) (fun a b c h1 h2 => by simp at h1 h2 ⊢; omega) (fun a b => by simp; omega) xs
  exact this.imp fun h => by simpa using h
theorem cpt_len (xs : List Int) : (cpt xs).length ≤ xs.length := by
  unfold cpt compact compactUpTo
  rw [List.length_map]
  exact Nat.le_trans (List.length_filter_le _ _) (by simp)
theorem getI {xs : List Int} {j : Nat} (h : j < xs.length) : (xs.toArray)[j]! = xs[j] := by simp [h]
theorem cpt_asc {xs : List Int} (h : xs.Pairwise (· ≤ ·)) : (cpt xs).Pairwise (· < ·) := by
  unfold cpt compact compactUpTo
  rw [List.pairwise_map]
  have hr : ((List.range xs.length).filter (keeps xs.toArray)).Pairwise (· < ·) := List.Pairwise.filter _ List.pairwise_lt_range
  refine hr.imp_of_mem (R := (· < ·)) fun {a b} ha hb hab => ?_
  rw [List.mem_filter, List.mem_range] at ha hb
  rw [getI ha.1, getI hb.1]
  have hk := hb.2
  unfold keeps at hk
  simp only [decide_eq_true_eq] at hk
  rcases hk with hk | hk
  · omega
  rw [getI hb.1, getI (show b - 1 < xs.length by omega)] at hk
  have hp := List.pairwise_iff_getElem.1 h
  have h1 : xs[a] ≤ xs[b - 1]'(by omega) := by
    by_cases e : a = b - 1
    · subst e; exact Int.le_refl _
    · exact hp a (b - 1) ha.1 (by omega) (by omega)
  have h2 : xs[b - 1]'(by omega) ≤ xs[b] := hp (b - 1) b (by omega) hb.1 (by omega)
  omega
theorem cpt_mem {xs : List Int} {x : Int} : x ∈ cpt xs ↔ x ∈ xs := by
  unfold cpt compact compactUpTo
  rw [List.mem_map]
  constructor
  · rintro ⟨j, hj, rfl⟩
    rw [List.mem_filter, List.mem_range] at hj
    rw [getI hj.1]
    exact List.getElem_mem hj.1
  · intro h
    obtain ⟨j, hj, rfl⟩ := List.mem_iff_getElem.1 h
    have : ∀ j, ∀ hj : j < xs.length, ∃ i, ∃ hi : i < xs.length, keeps xs.toArray i = true ∧ xs[i] = xs[j] := by
      intro j
      induction j with
      | zero => intro hj; exact ⟨0, hj, by simp [keeps], rfl⟩
      | succ j ih =>
        intro hj
        by_cases e : xs[j + 1] = xs[j]'(by omega)
        · obtain ⟨i, hi, h1, h2⟩ := ih (by omega)
          exact ⟨i, hi, h1, by rw [h2, e]⟩
        · refine ⟨j + 1, hj, ?_, rfl⟩
          unfold keeps
          rw [getI hj, getI (show j + 1 - 1 < xs.length by omega)]
          simp only [decide_eq_true_eq]
          exact .inr (by simpa using e)
    obtain ⟨i, hi, h1, h2⟩ := this j hj
    exact ⟨i, List.mem_filter.2 ⟨List.mem_range.2 hi, h1⟩, by rw [getI hi, h2]⟩
theorem ust_asc (xs : List Int) : (ust xs).Pairwise (· < ·) := cpt_asc (srt_sorted xs)
theorem ust_mem {xs : List Int} {x : Int} : x ∈ ust xs ↔ x ∈ xs := by unfold ust; rw [cpt_mem, srt_mem]
theorem ust_len (xs : List Int) : (ust xs).length ≤ xs.length := by unfold ust; exact Nat.le_trans (cpt_len _) (by rw [srt_len]; exact Nat.le_refl _)
theorem asc_ext : ∀ {xs ys : List Int}, xs.Pairwise (· < ·) → ys.Pairwise (· < ·) → (∀ x, x ∈ xs ↔ x ∈ ys) → xs = ys
  | [], [], _, _, _ => rfl
  | [], y :: ys, _, _, h => by have := (h y).2 (by simp); cases this
  | x :: xs, [], _, _, h => by have := (h x).1 (by simp); cases this
  | x :: xs, y :: ys, hx, hy, h => by
    obtain ⟨hx1, hx2⟩ := List.pairwise_cons.1 hx
    obtain ⟨hy1, hy2⟩ := List.pairwise_cons.1 hy
    have e : x = y := by
      have h1 := (h x).1 (by simp)
      have h2 := (h y).2 (by simp)
      rcases List.mem_cons.1 h1 with e | e
      · exact e
      · rcases List.mem_cons.1 h2 with e2 | e2
        · exact e2.symm
        · have := hy1 x e; have := hx1 y e2; omega
    subst e
    congr 1
    refine asc_ext hx2 hy2 fun z => ?_
    constructor
    · intro hz
      have hlt := hx1 z hz
      rcases List.mem_cons.1 ((h z).1 (List.mem_cons_of_mem _ hz)) with e | e
      · omega
      · exact e
    · intro hz
      have hlt := hy1 z hz
      rcases List.mem_cons.1 ((h z).2 (List.mem_cons_of_mem _ hz)) with e | e
      · omega
      · exact e
theorem ust_of {xs ys : List Int} (h : ys.Pairwise (· < ·)) (hm : ∀ x, x ∈ ys ↔ x ∈ xs) : ust xs = ys := asc_ext (ust_asc xs) h fun x => by rw [ust_mem, hm]

/-! ### The cells -/
theorem Own.holds {w : World} {base g off n cap : Nat} {xs : List Int} (h : Own w base (.slice (some ⟨g, off, none⟩) n cap) xs) : Holds (Value.int .i64) w g off xs.toArray := by
  rcases h with ⟨e, _⟩ | ⟨g', off', cap', cur, e, hb, ⟨T, hg⟩, h1, h2, h3, h4⟩
  · cases e
  · simp only [Value.slice.injEq, Option.some.injEq, Addr.mk.injEq, and_true] at e
    obtain ⟨⟨rfl, rfl⟩, rfl, rfl⟩ := e
    intro j hj
    have hj' : j < xs.length := by simpa using hj
    refine ⟨?_, frozen_of_row _ _ _ _ _ hg⟩
    rw [cell_of_row _ _ _ _ _ _ hg, ← Array.getElem?_toList]
    have e : ((cur.toList.drop off).take xs.length)[j]? = (ints xs)[j]? := by rw [h4]
    rw [List.getElem?_take, if_pos hj', List.getElem?_drop] at e
    rw [e]
    simp [hj']
theorem heap_putRow {w : World} {g off n : Nat} {os : Array Obj} {cur : Array Value} {e : TypeId} {fr : Nat × Nat} (d : Array Int) (hb : w.heap[g]? = some (.cells cur e fr)) :
    (grow (putRow (Value.int .i64) (Sort.ahead w n) g off d) os).heap[g]? = some (.cells (putCells (Value.int .i64) off d cur) e fr) := by
  have hg : g < w.heap.size := (Array.getElem?_eq_some_iff.1 hb).1
  rw [heap_grow_old _ _ (by simpa using hg)]
  simp [putRow, mapBlock, Sort.ahead, Array.getElem?_modify, hb, onCells]
theorem grownBy_putRow {w : World} {g off n : Nat} {os : Array Obj} (d : Array Int) : w.grownBy (grow (putRow (Value.int .i64) (Sort.ahead w n) g off d) os) (some g) := by
  refine ⟨rfl, rfl, rfl, by simp, fun k hk hne => ?_⟩
  rw [heap_grow_old _ _ (by simpa using hk)]
  have : g ≠ k := fun e => hne (by rw [e])
  simp [putRow, mapBlock, Sort.ahead, Array.getElem?_modify, this]
theorem drop_putCells (cur : Array Value) (ts : List Int) (off m : Nat) (h : off + ts.length ≤ cur.size) (hm : m ≤ ts.length) : ((putCells (Value.int .i64) off ts.toArray cur).toList.drop off).take m = ints (ts.take m) := by
  apply List.ext_getElem?
  intro j
  by_cases hj : j < m
  · rw [List.getElem?_take_of_lt hj, List.getElem?_drop, Array.getElem?_toList]
    simp [putCells, hj, show off + j < cur.size by omega, show j < ts.length by omega]
  · rw [List.getElem?_take_eq_none (by omega), List.getElem?_eq_none (by simp; omega)]
theorem Own.putRow {w : World} {base g off n cap q m : Nat} {xs ts : List Int} {os : Array Obj} (h : Own w base (.slice (some ⟨g, off, none⟩) n cap) xs) (hl : ts.length = xs.length) (hm : m ≤ ts.length) :
    Own (grow (Sort.putRow (Value.int .i64) (Sort.ahead w q) g off ts.toArray) os) base (.slice (some ⟨g, off, none⟩) m cap) (ts.take m) := by
  rcases h with ⟨e, _⟩ | ⟨g', off', cap', cur, e, hb, ⟨T, hg⟩, h1, h2, h3, h4⟩
  · cases e
  · simp only [Value.slice.injEq, Option.some.injEq, Addr.mk.injEq, and_true] at e
    obtain ⟨⟨rfl, rfl⟩, rfl, rfl⟩ := e
    have hml : (ts.take m).length = m := by rw [List.length_take]; omega
    refine .inr ⟨g, off, cap, _, by rw [hml], hb, ⟨T, heap_putRow _ hg⟩, by rw [hml]; omega, h2, by simp [putCells]; omega, ?_⟩
    rw [hml]
    exact drop_putCells cur ts off m (by omega) hm
end Go.Proofs.YtofcicomhnkocaaGreat
namespace Go.Proofs.YtofcicomhnkocaaGreat
open Go.RowKit

def putI : List Int → Int → List Int
  | [], n => [n]
  | x :: xs, n => if x < n then x :: putI xs n else if x = n then x :: xs else n :: x :: xs
theorem putI_mem : ∀ {xs : List Int} {n y : Int}, y ∈ putI xs n ↔ y = n ∨ y ∈ xs
  | [], n, y => by simp [putI]
  | x :: xs, n, y => by
    unfold putI
    split
    · rw [List.mem_cons, putI_mem, List.mem_cons]
      constructor
      · rintro (h | h | h) <;> simp [h]
      · rintro (h | h | h) <;> simp [h]
    · split
      · rename_i h; subst h; simp
      · simp
theorem putI_asc : ∀ {xs : List Int} {n : Int}, xs.Pairwise (· < ·) → (putI xs n).Pairwise (· < ·)
  | [], n, _ => by simp [putI]
  | x :: xs, n, h => by
    obtain ⟨h1, h2⟩ := List.pairwise_cons.1 h
    unfold putI
    split
    · rename_i hx
      refine List.pairwise_cons.2 ⟨fun y hy => ?_, putI_asc h2⟩
      rcases putI_mem.1 hy with e | e
      · omega
      · exact h1 y e
    · split
      · exact h
      · rename_i hx hx2
        refine List.pairwise_cons.2 ⟨fun y hy => ?_, h⟩
        rcases List.mem_cons.1 hy with e | e
        · omega
        · have := h1 y e; omega
theorem putI_at : ∀ {xs : List Int} {n : Int} (k : Nat), k ≤ xs.length → (∀ i, i < k → xs[i]?.getD 0 < n) → (k < xs.length → n ≤ xs[k]?.getD 0) → putI xs n = if k < xs.length ∧ xs[k]?.getD 0 = n then xs else xs.take k ++ n :: xs.drop k
  | [], n, k, hk, _, _ => by
    have : k = 0 := by simpa using hk
    subst this; simp [putI]
  | x :: xs, n, 0, _, _, h => by
    have h0 := h (by simp)
    simp only [List.getElem?_cons_zero, Option.getD_some] at h0
    unfold putI
    rw [if_neg (by omega)]
    by_cases e : x = n
    · rw [if_pos e, if_pos ⟨by simp, by simpa using e⟩]
    · rw [if_neg e, if_neg (by simp; exact e)]; simp
  | x :: xs, n, k + 1, hk, hl, h => by
    have hx : x < n := by have := hl 0 (by omega); simpa using this
    unfold putI
    rw [if_pos hx, putI_at k (by simpa using hk) (fun i hi => by have := hl (i + 1) (by omega); simpa using this) (fun hlt => by have := h (by simpa using hlt); simpa using this)]
    by_cases e : k < xs.length ∧ xs[k]?.getD 0 = n
    · rw [if_pos e, if_pos ⟨by simpa using e.1, by simpa using e.2⟩]
    · rw [if_neg e, if_neg (fun h2 => e ⟨by simpa using h2.1, by simpa using h2.2⟩)]; simp
theorem ust_put (r : List Int) (x : Int) : ust (r ++ [x]) = putI (ust r) x := by
  refine ust_of (putI_asc (ust_asc r)) fun y => ?_
  rw [putI_mem, ust_mem, List.mem_append]
  simp [or_comm]
end Go.Proofs.YtofcicomhnkocaaGreat
namespace Go.Proofs.YtofcicomhnkocaaGreat
open Go.RowKit

theorem Own.pushed' {w : World} {base : Nat} {v : Value} {xs : List Int} {g off n cap : Nat} (h : Own w base v xs) (hv : v = .slice (some ⟨g, off, none⟩) n cap) (hc : n + 1 ≤ cap) (u : Int) :
    Own (w.setCell ⟨g, off + n, none⟩ (.int .i64 u)) base (.slice (some ⟨g, off, none⟩) (n + 1) cap) (xs ++ [u]) ∧ w.grownBy (w.setCell ⟨g, off + n, none⟩ (.int .i64 u)) (some g) := by
  rcases h with ⟨rfl, rfl⟩ | ⟨g', off', cap', cur, hv', hb, ⟨T, hg⟩, h1, h2, h3, h4⟩
  · simp at hv
  · rw [hv'] at hv
    simp only [Value.slice.injEq, Option.some.injEq, Addr.mk.injEq, and_true] at hv
    obtain ⟨⟨rfl, rfl⟩, rfl, rfl⟩ := hv
    refine ⟨.inr ⟨g', off', cap', cur.setIfInBounds (off' + xs.length) (.int .i64 u), by simp, hb, ⟨T, heap_setCell_same w g' (off' + xs.length) cur _ _ hg⟩, by simpa using hc, h2, by simpa using h3, ?_⟩,
      ⟨rfl, rfl, rfl, by simp, fun k _ hk => heap_setCell_other w ⟨g', off' + xs.length, none⟩ k _ (fun e => hk (by simp [e]))⟩⟩
    have hlt : xs.length < (cur.toList.drop off').length := by simp; omega
    rw [Array.toList_setIfInBounds, List.length_append]
    show List.take (xs.length + 1) (List.drop off' (cur.toList.set (off' + xs.length) (.int .i64 u))) = (xs ++ [u]).map (Value.int .i64)
    rw [List.map_append]
    show _ = ints xs ++ [Value.int .i64 u]
    rw [← h4, List.drop_set, if_neg (by omega), Nat.add_sub_cancel_left, List.take_add_one, List.getElem?_set_self hlt, List.take_set, List.set_eq_of_length_le (by simp; omega)]
    rfl
theorem wpList_pushI {P : Program} {ops : Array Oper} {rest : List Oper} {o : Oper} {a : Act} {Q : Exit → Act → World → Prop} {wr : World} {y : Int} (hgd : o.guard = none) (s x : Operand) (T : TypeId)
    (ho : o.op = .call { callee := .builtin .append, args := #[s, x], argTypes := #[T, T] }) (ht : P.underlying T = some (.slice 3))
    (hinfo : (P.info? 3).map (fun i => (i.zero, i.size, i.bytes)) = some (some (.int .i64 0), 1, 8))
    (base : Nat) (v : Value) (xs : List Int) (hs : a.eval s = v) (hown : Own wr base v xs)
    (hx : a.eval x = .slice (some ⟨wr.heap.size, 0, none⟩) 1 1) (hn : xs.length ≤ 4000000) (hbase : base ≤ wr.heap.size)
    (h : ∀ v' w', Own w' base v' (xs ++ [y]) → wr.grownBy w' v.ownBlock → (∀ g, v'.ownBlock = some g → v.ownBlock = some g ∨ wr.heap.size ≤ g) → wpList P ops Q rest (a.put o.dst v') w') :
    wpList P ops Q (o :: rest) a (wr.alloc (.cells #[.int .i64 y] 3)) := by
  have h0 := hown
  rcases hown with ⟨rfl, rfl⟩ | ⟨g, f, cap, cur, rfl, hb, ⟨T', hg⟩, h1, h2, h3, h4⟩
  · obtain ⟨i0, hi, hz0, hz1, hz2⟩ := info_parts hinfo
    have hr : (wr.alloc (.cells #[.int .i64 y] 3)).ownsRow wr.heap.size 3 1 (.slice none 0 0) 0 (ints []) := ⟨by simp, .inl ⟨rfl, rfl⟩⟩
    refine wpList_append_own _ hgd s x T ho wr.heap.size 3 i0 (.int .i64 0) 1 8 ht hi hz0 hz1 hz2 rfl (by decide) (.slice none 0 0) 0 (ints []) hs hr ⟨wr.heap.size, 0, none⟩ 1 1 [.int .i64 y] hx rfl ?_ ?_ (by unfold maxLen; omega) (by omega) (by simp) ?_
    · intro j u hu
      rcases j with _ | j
      · simp at hu; subst hu
        simp [Addr.add, World.cell?_alloc_at]
      · simp at hu
    · intro u hu; simp at hu; subst hu; rfl
    · intro v' w' g1 g2 _
      have g3 : w'.ownsRow wr.heap.size 3 1 v' (0 + 1) (ints ([] ++ [y])) := by simpa [ints] using g1
      have o3 := own_of_row g3
      exact h v' w' (o3.mono hbase) ((World.grownBy_alloc _ _ _).trans' g2) (fun g hg => .inr (o3.lt g hg).1)
  · obtain ⟨i0, hi, hz0, hz1, hz2⟩ := info_parts hinfo
    have hba : Below wr.heap.size wr (wr.alloc (.cells #[.int .i64 y] 3)) := (Below.refl _ _).alloc (Nat.le_refl _) _
    have ho2 := h0.belowAll hba
    obtain ⟨hl, hc⟩ := ho2.cellAt rfl
    have hg0 : wr.grownBy (wr.alloc (.cells #[.int .i64 y] 3)) (some g) := ⟨hba.os, hba.tape, hba.output, hba.size, fun k hk _ => hba.block k hk⟩
    refine wpList_append_arg _ hgd s x T ho 3 i0 (.int .i64 0) 1 8 ht hi hz0 hz1 hz2 rfl (by decide) g f xs.length cap (ints xs) hs (by simp) ?_ ⟨wr.heap.size, 0, none⟩ 1 1 [.int .i64 y] hx rfl ?_ ?_ ?_ (by unfold maxLen; omega) (by omega) ?_ ?_
    · intro j u hu
      have hj : j < xs.length := by have := (List.getElem?_eq_some_iff.1 hu).1; simpa using this
      rw [hc j hj, ← hu]
      simp [hj]
    · intro j u hu
      rcases j with _ | j
      · simp at hu; subst hu
        simp [Addr.add, World.cell?_alloc_at]
      · simp at hu
    · intro u hu
      simp at hu; subst hu; rfl
    · intro hr j hj
      obtain rfl : j = 0 := by simpa using hj
      have hblt : g < wr.heap.size := (Array.getElem?_eq_some_iff.1 hg).1
      have hg' : (wr.alloc (.cells #[.int .i64 y] 3)).heap[g]? = some (.cells cur T' (0, 0)) := (hba.block g hblt).trans hg
      refine ⟨?_, frozen_of_row _ _ _ _ _ hg'⟩
      rw [cell_of_row _ _ _ _ _ _ hg']
      simp; omega
    · intro hr
      have hst := ho2.pushed' rfl (by omega) y
      rw [show f + xs.length * 1 = f + xs.length from by omega]
      exact h _ _ hst.1 (hg0.trans' hst.2) (fun g' hg' => .inl (by simpa [Value.ownBlock] using hg'))
    · intro hr v' w' h1 h2
      have h3 : w'.ownsRow (wr.alloc (.cells #[.int .i64 y] 3)).heap.size 3 1 v' (xs.length + 1) (ints (xs ++ [y])) := by simpa [ints] using h1
      have o3 := own_of_row h3
      exact h v' w' (o3.mono (by simp; omega)) (hg0.trans' ⟨h2.os, h2.tape, h2.output, h2.size, fun k hk _ => h2.block k hk (by simp)⟩) (fun g' hg' => .inr (by have := (o3.lt g' hg').1; simp at this; omega))

end Go.Proofs.YtofcicomhnkocaaGreat
namespace Go.Proofs.YtofcicomhnkocaaGreat
open Go.RowKit

/-! ### A list's law as one step of a drawn region -/
theorem upon_mono {P : Program} {o : Oper} {a : Act} {K K' : Act → World → Prop} {Q Q' : Exit → Act → World → Prop} (hK : ∀ a w, K a w → K' a w) (hQ : ∀ e a w, e ≠ .normal → Q e a w → Q' e a w) {r} (h : o.upon P a K Q r) : o.upon P a K' Q' r := by
  unfold Oper.upon at h ⊢
  split at h
  all_goals first
    | exact hK _ _ h
    | exact hQ _ _ _ (by simp) h
    | exact h
    | (refine Calls.mono h ?_
       rintro e w' hh
       cases e
       · exact hK _ _ hh
       · exact hQ _ _ _ (by simp) hh
       · obtain ⟨a2, w2, q⟩ := hh; exact ⟨a2, w2, hQ _ _ _ (by simp) q⟩)
    | (refine Rows.mono h ?_
       intro v w' hh
       exact hK _ _ hh)
theorem step_of_list {P : Program} {ops : Array Oper} {o : Oper} {a : Act} {w : World} {K : Act → World → Prop} {Q : Exit → Act → World → Prop} {E : Prop} (hg : o.guard = none)
    (h : wpList P ops (fun e a' w' => e = .normal ∧ K a' w') [o] a w) : if Region.wanted o (yielded ops a.tmps) = true then Oper.wp P o a w K Q else E := by
  have hw : Region.wanted o (yielded ops a.tmps) = true := by simp [Region.wanted, hg]
  rw [if_pos hw]
  unfold wpList at h
  rw [if_pos hw] at h
  rcases h with h | ⟨-, a2, w2, h, -⟩
  · unfold Oper.wp at h ⊢
    refine upon_mono (fun a w hh => ?_) (fun e a w hne hh => ?_) h
    · unfold wpList at hh; exact hh.2
    · exact absurd hh.1 hne
  · cases h
/-! ### Rows made sets, one after the other -/
end Go.Proofs.YtofcicomhnkocaaGreat
namespace Go.Proofs.YtofcicomhnkocaaGreat
open Go.RowKit Go.Sort Go.Lib

theorem sortI_own (v : Value) (xs : List Int) (base : Nat) (w : World) (h : Own w base v xs) (hl : xs.length ≤ 1099511627776) :
    Calls Tryz.prog 117 #[v] w fun e w' => e = .returned (.tuple #[]) ∧ Own w' base v (srt xs) ∧ w.grownBy w' v.ownBlock := by
  have h0 := h
  rcases h with ⟨rfl, rfl⟩ | ⟨g, off, cap, cur, rfl, hb, ⟨T, hg⟩, h1, h2, h3, h4⟩
  · refine (Tryz.slices_Sort_int_none none 0 w).mono ?_
    rintro e w' ⟨rfl, rfl⟩
    exact ⟨rfl, .inl ⟨rfl, by unfold srt; simp⟩, ⟨rfl, rfl, rfl, Nat.le_refl _, fun _ _ _ => rfl⟩⟩
  · refine (Tryz.slices_Sort_int g off cap xs w h0.holds (Array.getElem?_eq_some_iff.1 hg).1 (by omega)).mono ?_
    rintro e w' ⟨rfl, n, os, rfl⟩
    have := h0.putRow (q := n) (os := os) (ts := srt xs) (m := xs.length) (srt_len xs) (by rw [srt_len]; exact Nat.le_refl _)
    rw [List.take_of_length_le (by rw [srt_len]; exact Nat.le_refl _)] at this
    exact ⟨rfl, this, grownBy_putRow _⟩
end Go.Proofs.YtofcicomhnkocaaGreat
namespace Go.Proofs.YtofcicomhnkocaaGreat
open Go.RowKit Go.Sort
set_option maxRecDepth 100000

theorem wpList_catA {P : Program} {ops : Array Oper} {rest : List Oper} {o : Oper} {a : Act} {Q : Exit → Act → World → Prop} {w : World} (hgd : o.guard = none) (s x : Operand) (T : TypeId)
    (ho : o.op = .call { callee := .builtin .append, args := #[s, x], argTypes := #[T, T] }) (ht : P.underlying T = some (.slice 3))
    (hinfo : (P.info? 3).map (fun i => (i.zero, i.size, i.bytes)) = some (some (.int .i64 0), 1, 8))
    (base : Nat) (v : Value) (n : Nat) (xs : List Int) (hs : a.eval s = v) (hown : w.ownsRow base 3 1 v n (ints xs))
    (ao : Option Addr) (m c : Nat) (ys : List Int) (hx : a.eval x = .slice ao m c) (hm : ys.length = m) (hy : ao = none → m = 0 ∧ c = 0) (hc : 0 < m → ∃ b off, ao = some ⟨b, off, none⟩ ∧ ∀ j, j < m → w.cell? ⟨b, off + j, none⟩ = some (.int .i64 (ys[j]?.getD 0))) (hn : n + m ≤ 1000000) (hbase : base ≤ w.heap.size)
    (h : ∀ v' w', w'.ownsRow base 3 1 v' (n + m) (ints (xs ++ ys)) → w.grownBy w' v.ownBlock → wpList P ops Q rest (a.put o.dst v') w') :
    wpList P ops Q (o :: rest) a w := by
  obtain ⟨i0, hi, hz0, hz1, hz2⟩ := info_parts hinfo
  rcases ao with _ | ad
  · obtain ⟨rfl, rfl⟩ := hy rfl
    have : ys = [] := List.eq_nil_of_length_eq_zero hm
    subst this
    refine wpList_append_own_none hgd s x T ho base 3 i0 1 ht hi v n (ints xs) hs hown hx ?_
    exact h v w (by simpa using hown) ⟨rfl, rfl, rfl, Nat.le_refl _, fun _ _ _ => rfl⟩
  · refine wpList_append_own _ hgd s x T ho base 3 i0 (.int .i64 0) 1 8 ht hi hz0 hz1 hz2 rfl (by decide) v n (ints xs) hs hown ad m c (ints ys) hx (by simpa using hm) ?_ (ints_oneCell _ _) (by unfold maxLen; omega) (by omega) hbase ?_
    · intro j u hu
      have hj : j < ys.length := by have := (List.getElem?_eq_some_iff.1 hu).1; simpa using this
      obtain ⟨b, off, e1, e2⟩ := hc (by omega)
      simp only [Option.some.injEq] at e1
      subst e1
      have e : (⟨b, off, none⟩ : Addr).add j = ⟨b, off + j, none⟩ := by unfold Addr.add; split <;> simp_all
      rw [e, e2 j (by omega), ← hu]
      simp [hj]
    · intro v' w' g1 g2 _
      exact h v' w' (by simpa [ints] using g1) g2
theorem putI_new {xs : List Int} {n : Int} {k : Nat} (hk : k ≤ xs.length) (hl : ∀ i, i < k → xs[i]?.getD 0 < n) (hg : k < xs.length → n < xs[k]?.getD 0) : putI xs n = xs.take k ++ [n] ++ xs.drop k := by
  rw [putI_at k hk hl (fun h => by have := hg h; omega), if_neg (fun h => by have := hg h.1; omega)]; simp
theorem putI_old {xs : List Int} {n : Int} {k : Nat} (hk : k < xs.length) (hl : ∀ i, i < k → xs[i]?.getD 0 < n) (hg : xs[k]?.getD 0 = n) : putI xs n = xs := by
  rw [putI_at k (Nat.le_of_lt hk) hl (fun h => by omega), if_pos ⟨hk, hg⟩]
theorem one_cell {W : World} {c : Nat} {n : Int} (h : W.cell? ⟨c, 0, none⟩ = some (.int .i64 n)) : ∀ j, j < 1 → W.cell? ⟨c, 0 + j, none⟩ = some (.int .i64 (([n] : List Int)[j]?.getD 0)) := fun j hj => by
  obtain rfl : j = 0 := by omega
  exact h
section
variable {w : World} {X Y : Obj} {T : TypeId} {n : Int}
theorem own_made1 : (w.drew.alloc (.cells #[] T)).ownsRow w.heap.size T 1 (.slice (some ⟨w.heap.size, 0, none⟩) 0 0) 0 (ints []) := World.ownsRow_made w.drew #[] 0 (Nat.le_refl _) (Nat.zero_le _) (by simp)
theorem own_made2 : ((w.drew.alloc (.cells #[] T)).alloc X).ownsRow w.heap.size T 1 (.slice (some ⟨w.heap.size, 0, none⟩) 0 0) 0 (ints []) := own_made1.alloc _
theorem own_made3 : ((w.drew.alloc X).alloc (.cells #[] T)).ownsRow w.heap.size T 1 (.slice (some ⟨w.heap.size + 1, 0, none⟩) 0 0) 0 (ints []) := by
  have := World.ownsRow_made (base := w.heap.size) (e := T) (size := 1) (w.drew.alloc X) #[] 0 (by simp) (Nat.zero_le _) (by simp)
  simpa using this
theorem bel1 : Below w.heap.size w (w.drew.alloc X) := (Below.refl w.heap.size w).drew.alloc (Nat.le_refl _) _
theorem bel2 : Below w.heap.size w ((w.drew.alloc X).alloc Y) := bel1.alloc (by simp) _
theorem cn1 : (w.alloc (.cells #[.int .i64 n] T)).cell? ⟨w.heap.size, 0, none⟩ = some (.int .i64 n) := by simp
theorem cn2 : ((w.drew.alloc X).alloc (.cells #[.int .i64 n] T)).cell? ⟨w.heap.size + 1, 0, none⟩ = some (.int .i64 n) := by
  have := cn1 (w := w.drew.alloc X) (T := T) (n := n)
  simpa using this
theorem cn3 : ((w.drew.alloc (.cells #[.int .i64 n] T)).alloc Y).cell? ⟨w.heap.size, 0, none⟩ = some (.int .i64 n) :=
  (World.cell?_of_block (heap_alloc_old _ Y (by simp))).trans (cn1 (w := w.drew))
theorem size_alloc {B : Nat} (h : B ≤ w.heap.size) : B ≤ (w.alloc X).heap.size := Nat.le_trans h (by simp)
theorem lt2 : w.heap.size + 1 < ((w.drew.alloc X).alloc Y).heap.size := by simp
theorem lt3 : w.heap.size < ((w.drew.alloc X).alloc Y).heap.size := by simp; omega
theorem ne2 : some (w.heap.size + 1) ≠ (Value.slice (some ⟨w.heap.size, 0, none⟩) 0 0).ownBlock := by simp [Value.ownBlock]
theorem ne3 : some w.heap.size ≠ (Value.slice (some ⟨w.heap.size + 1, 0, none⟩) 0 0).ownBlock := by simp [Value.ownBlock]
end
def PutP (u : Value) (xs : List Int) (n : Int) (base : Nat) (w : World) (e : Ending) (w' : World) : Prop := ∃ v', e = .returned v' ∧ Own w' base v' (putI xs n) ∧ (∀ k, v'.ownBlock = some k → u.ownBlock = some k ∨ w.heap.size ≤ k) ∧ Below w.heap.size w w'
set_option maxHeartbeats 3200000 in
theorem l1Put_any (u : Value) (xs : List Int) (n : Int) (base : Nat) (w : World) (h : Own w base u xs) (hb : base ≤ w.heap.size) (hl : xs.length ≤ 1000) :
    Calls Tryz.prog 107 #[u, .int .i64 n] w (PutP u xs n base w) := by
  obtain ⟨a, cap, m, HM, rfl, hmc, hm63, ha⟩ := h.rd.opn
  have HO := Lib.hid h
  have HA := Lib.hid ha
  have HPN := Lib.hid (fun k h1 h2 h3 => @putI_new xs n k h1 h2 h3)
  have HPO := Lib.hid (fun k h1 h2 h3 => @putI_old xs n k h1 h2 h3)
  have HAN := Lib.hid (show (a = none ∧ m = 0 ∧ cap = 0) ∨ ∃ g off, a = some ⟨g, off, none⟩ from by
    rcases h with ⟨e, _⟩ | ⟨g, off, cap', cur, e, _⟩
    · simp only [Value.slice.injEq] at e; exact .inl e
    · simp only [Value.slice.injEq] at e; exact .inr ⟨g, off, e.1⟩)
  have hm1 : m ≤ 1000 := by have := HM.out; omega
  rw [HM.out] at HPN HPO
  generalize hp : putI xs n = ps at *
  have HP := Lib.hid hp
  clear hp h ha
  go_enter Tryz.func107, Tryz.ntmps107
  go_wp2
  go_loopw [5] (fun i wr => ∃ k : Nat, k ≤ m ∧ i = .int .i64 k ∧ wr = w ∧ Hid (∀ i, i < k → xs[i]?.getD 0 < n)) (fun i _ => m - (intOf i).toNat)
  case atStart => exact ⟨0, Nat.zero_le _, rfl, rfl, fun i hi => by omega⟩
  case round =>
    obtain ⟨k, hk, rfl, rfl, HL⟩ := hrel
    by_cases hlt : k < m
    · have hltI : (k : Int) < (m : Int) := by omega
      obtain ⟨b, off, rfl, hbs, hcs⟩ := HA.out (by omega)
      have c0 := hcs k hlt
      have HST := Lib.hid (fun (h : xs[k]?.getD 0 < n) => show ∀ i, i < k + 1 → xs[i]?.getD 0 < n from fun i hi => by
        rcases Nat.lt_or_ge i k with e | e
        · exact HL.out i e
        · have : i = k := by omega
          rw [this]; exact h)
      have HPN1 := Lib.hid (HPN.out k hk HL.out)
      have HPO1 := Lib.hid (HPO.out k hlt HL.out)
      have HC := Lib.hid hcs
      clear hcs
      generalize xs[k]?.getD 0 = y at *
      cases hd : decide (y < n)
      case true =>
        have HS := Lib.hid (HST.out (by simpa using hd))
        go_wp2
        go_roundw
        case rel => exact ⟨k + 1, hlt, by go_num, trivial, HS.out⟩
        case measure => simp [intOf]; omega
      have hyn : n ≤ y := by simpa using hd
      by_cases he : y = n
      · have HE := Lib.hid (HPO1.out he)
        have hb1 : (y == n) = true := by simp [he]
        have hb2 : decide (y = n) = true := by simp [he]
        clear he hyn
        go_wp2
        go_ret
        exact ⟨_, rfl, by rw [HP.out, HE.out]; exact HO.out, fun k hk => .inl hk, Below.refl _ _⟩
      · have HE := Lib.hid (HPN1.out (fun _ => by omega))
        have hb1 : (y == n) = false := by simp [he]
        have hb2 : decide (y = n) = false := by simp [he]
        clear he hyn
        go_wp2
        have HC0 := HC.out
        have HTL := Lib.hid (show (xs.take k).length = k by rw [List.length_take, HM.out]; omega)
        have HDL := Lib.hid (show (xs.drop k).length = m - k by rw [List.length_drop, HM.out])
        have HTK := Lib.hid (fun (W : World) (hW : Below wr.heap.size wr W) j (hj : j < k) => show W.cell? ⟨b, off + j, none⟩ = some (.int .i64 ((xs.take k)[j]?.getD 0)) by
          rw [List.getElem?_take, if_pos hj]; exact (hW.cell hbs).trans (HC0 j (by omega)))
        have HDK := Lib.hid (fun (W : World) (hW : Below wr.heap.size wr W) j (hj : j < m - k) => show W.cell? ⟨b, off + k + j, none⟩ = some (.int .i64 ((xs.drop k)[j]?.getD 0)) by
          rw [List.getElem?_drop, Nat.add_assoc]; exact (hW.cell hbs).trans (HC0 (k + j) (by omega)))
        clear HC0
        generalize xs.take k = ts at *
        generalize xs.drop k = ds at *
        have hkc : ¬ cap = k := by omega
        have i1 : (0 : Int) ≤ (k : Int) := by omega
        have i2 : (k : Int) ≤ (cap : Int) := by omega
        have i3 : k ≤ cap := by omega
        have i4 : (k : Int) ≤ (m : Int) := by omega
        have hck : ¬ cap - k = 0 := by omega
        go_region_law (first
          | ((refine step_of_list rfl ?_); (go_loud (refine wpList_catA rfl (.tmp 33) (.tmp 36) 58 rfl Tryz.underlying58 Tryz.infoInt wr.heap.size _ 0 [] (by rfl) (by first | exact own_made1 | exact own_made2 | exact own_made3) _ k _ ts (by rfl) HTL.out (fun e => by cases e) (fun _ => ⟨b, off, rfl, HTK.out _ (by first | exact bel1 | exact bel2)⟩) (by omega) (by first | exact bel1.size | exact bel2.size) ?_)); (intro v1 w1 o1 g1); (have B1 : Below wr.heap.size wr w1 := Below.grown (by first | exact bel1 | exact bel2) g1 (by first | exact bel1.size | exact bel2.size) (fun q hq => (by have hq2 := Option.some.inj hq; rw [← hq2]; first | exact Nat.le_refl _ | exact Nat.le_succ _))); (have NN1 := fun c h1 h2 => g1.cell_far ⟨c, 0, none⟩ h1 h2); (unfold wpList); (refine ⟨rfl, ?_⟩))
          | ((refine step_of_list rfl ?_); (go_loud (refine wpList_catA rfl (.tmp 40) (.tmp 43) 58 rfl Tryz.underlying58 Tryz.infoInt wr.heap.size v2 (0 + k + 1) _ (by rfl) o2 _ (m - k) _ ds (by rfl) HDL.out (fun e => by cases e) (fun _ => ⟨b, off + k, rfl, HDK.out _ B2⟩) (by omega) B2.size ?_)); (intro v3 w3 o3 g3); (have B3 : Below wr.heap.size wr w3 := Below.grown B2 g3 B2.size (fun q hq => (o2.lt q hq).1)); (have O3 := own_of_row o3); (obtain ⟨a3, c3, n3, -, rfl, -⟩ := O3.rd.opn); (unfold wpList); (refine ⟨rfl, ?_⟩))
          | ((refine step_of_list rfl ?_); (go_loud (refine wpList_catA rfl (.tmp 37) (.tmp 39) 58 rfl Tryz.underlying58 Tryz.infoInt wr.heap.size v1 (0 + k) _ (by rfl) (by first | exact o1 | exact o1.alloc _) _ 1 _ [n] (by rfl) rfl (fun e => by cases e) (fun _ => ⟨_, 0, rfl, one_cell (by first | exact cn1 | exact (NN1 _ lt2 ne2).trans cn2 | exact (NN1 _ lt3 ne3).trans cn3)⟩) (by omega) (by first | exact B1.size | exact size_alloc B1.size) ?_)); (intro v2 w2 o2 g2); (have B2 : Below wr.heap.size wr w2 := Below.grown (by first | exact B1 | exact B1.alloc B1.size _) g2 (by first | exact B1.size | exact size_alloc B1.size) (fun q hq => (o1.lt q hq).1)); (unfold wpList); (refine ⟨rfl, ?_⟩)))
        all_goals
          have OO := Lib.hid (O3.mono hb)
          have OL := Lib.hid (fun q hq => (O3.lt q hq).1)
          have HB3 := Lib.hid B3
          clear o3 O3 B3
          go_wp2
          go_ret
          exact ⟨_, rfl, by rw [HP.out, HE.out]; simpa using OO.out, fun q hq => .inr (OL.out q hq), HB3.out⟩
    · obtain rfl : m = k := by omega
      have HE := Lib.hid (HPN.out m (Nat.le_refl _) HL.out (fun h => absurd h (Nat.lt_irrefl m)))
      rw [List.take_of_length_le (Nat.le_of_eq HM.out), List.drop_of_length_le (Nat.le_of_eq HM.out)] at HE
      rcases HAN.out with ⟨rfl, rfl, rfl⟩ | ⟨b, off, rfl⟩
      · have HXE := Lib.hid (show xs = [] from List.eq_nil_of_length_eq_zero HM.out)
        rw [HXE.out] at HE
        go_wp2
        go_region_law (first
          | ((refine step_of_list rfl ?_); (go_loud (refine wpList_catA rfl (.tmp 33) (.tmp 36) 58 rfl Tryz.underlying58 Tryz.infoInt wr.heap.size _ 0 [] (by rfl) (by first | exact own_made1 | exact own_made2 | exact own_made3) none 0 0 [] (by rfl) rfl (fun _ => ⟨rfl, rfl⟩) (fun h => absurd h (Nat.lt_irrefl 0)) (by omega) (by first | exact bel1.size | exact bel2.size) ?_)); (intro v1 w1 o1 g1); (have B1 : Below wr.heap.size wr w1 := Below.grown (by first | exact bel1 | exact bel2) g1 (by first | exact bel1.size | exact bel2.size) (fun q hq => (by have hq2 := Option.some.inj hq; rw [← hq2]; first | exact Nat.le_refl _ | exact Nat.le_succ _))); (have NN1 := fun c h1 h2 => g1.cell_far ⟨c, 0, none⟩ h1 h2); (unfold wpList); (refine ⟨rfl, ?_⟩))
          | ((refine step_of_list rfl ?_); (go_loud (refine wpList_catA rfl (.tmp 40) (.tmp 43) 58 rfl Tryz.underlying58 Tryz.infoInt wr.heap.size v2 (0 + 0 + 1) _ (by rfl) o2 none 0 0 [] (by rfl) rfl (fun _ => ⟨rfl, rfl⟩) (fun h => absurd h (Nat.lt_irrefl 0)) (by omega) B2.size ?_)); (intro v3 w3 o3 g3); (have B3 : Below wr.heap.size wr w3 := Below.grown B2 g3 B2.size (fun q hq => (o2.lt q hq).1)); (have O3 := own_of_row o3); (obtain ⟨a3, c3, n3, -, rfl, -⟩ := O3.rd.opn); (unfold wpList); (refine ⟨rfl, ?_⟩))
          | ((refine step_of_list rfl ?_); (go_loud (refine wpList_catA rfl (.tmp 37) (.tmp 39) 58 rfl Tryz.underlying58 Tryz.infoInt wr.heap.size v1 (0 + 0) _ (by rfl) (by first | exact o1 | exact o1.alloc _) _ 1 _ [n] (by rfl) rfl (fun e => by cases e) (fun _ => ⟨_, 0, rfl, one_cell (by first | exact cn1 | exact (NN1 _ lt2 ne2).trans cn2 | exact (NN1 _ lt3 ne3).trans cn3)⟩) (by omega) (by first | exact B1.size | exact size_alloc B1.size) ?_)); (intro v2 w2 o2 g2); (have B2 : Below wr.heap.size wr w2 := Below.grown (by first | exact B1 | exact B1.alloc B1.size _) g2 (by first | exact B1.size | exact size_alloc B1.size) (fun q hq => (o1.lt q hq).1)); (unfold wpList); (refine ⟨rfl, ?_⟩)))
        all_goals
          have OO := Lib.hid (O3.mono hb)
          have OL := Lib.hid (fun q hq => (O3.lt q hq).1)
          have HB3 := Lib.hid B3
          clear o3 O3 B3
          go_wp2
          go_ret
          exact ⟨_, rfl, by rw [HP.out, HE.out]; simpa using OO.out, fun q hq => .inr (OL.out q hq), HB3.out⟩
      · have HTK := Lib.hid (fun (h0 : 0 < m) (W : World) (hW : Below wr.heap.size wr W) => show ∀ j, j < m → W.cell? ⟨b, off + j, none⟩ = some (.int .i64 (xs[j]?.getD 0)) from by
          obtain ⟨b', off', e, hbs, hcs⟩ := HA.out h0
          simp only [Option.some.injEq, Addr.mk.injEq, and_true] at e
          obtain ⟨rfl, rfl⟩ := e
          exact fun j hj => (hW.cell hbs).trans (hcs j hj))
        have i1 : (0 : Int) ≤ (m : Int) := by omega
        have i2 : (m : Int) ≤ (cap : Int) := by omega
        have i5 : ¬ m < m := by omega
        clear HA hlt HAN
        by_cases hcm : cap = m
        · obtain rfl : m = cap := hcm.symm
          clear hcm
          go_wp2
          go_region_law (first
            | ((refine step_of_list rfl ?_); (go_loud (refine wpList_catA rfl (.tmp 33) (.tmp 36) 58 rfl Tryz.underlying58 Tryz.infoInt wr.heap.size _ 0 [] (by rfl) (by first | exact own_made1 | exact own_made2 | exact own_made3) _ m _ xs (by rfl) HM.out (fun e => by cases e) (fun h0 => ⟨b, off, rfl, HTK.out h0 _ (by first | exact bel1 | exact bel2)⟩) (by omega) (by first | exact bel1.size | exact bel2.size) ?_)); (intro v1 w1 o1 g1); (have B1 : Below wr.heap.size wr w1 := Below.grown (by first | exact bel1 | exact bel2) g1 (by first | exact bel1.size | exact bel2.size) (fun q hq => (by have hq2 := Option.some.inj hq; rw [← hq2]; first | exact Nat.le_refl _ | exact Nat.le_succ _))); (have NN1 := fun c h1 h2 => g1.cell_far ⟨c, 0, none⟩ h1 h2); (unfold wpList); (refine ⟨rfl, ?_⟩))
            | ((refine step_of_list rfl ?_); (go_loud (refine wpList_catA rfl (.tmp 40) (.tmp 43) 58 rfl Tryz.underlying58 Tryz.infoInt wr.heap.size v2 (0 + m + 1) _ (by rfl) o2 _ 0 _ [] (by rfl) rfl (fun e => by cases e) (fun h => absurd h (Nat.lt_irrefl 0)) (by omega) B2.size ?_)); (intro v3 w3 o3 g3); (have B3 : Below wr.heap.size wr w3 := Below.grown B2 g3 B2.size (fun q hq => (o2.lt q hq).1)); (have O3 := own_of_row o3); (obtain ⟨a3, c3, n3, -, rfl, -⟩ := O3.rd.opn); (unfold wpList); (refine ⟨rfl, ?_⟩))
            | ((refine step_of_list rfl ?_); (go_loud (refine wpList_catA rfl (.tmp 37) (.tmp 39) 58 rfl Tryz.underlying58 Tryz.infoInt wr.heap.size v1 (0 + m) _ (by rfl) (by first | exact o1 | exact o1.alloc _) _ 1 _ [n] (by rfl) rfl (fun e => by cases e) (fun _ => ⟨_, 0, rfl, one_cell (by first | exact cn1 | exact (NN1 _ lt2 ne2).trans cn2 | exact (NN1 _ lt3 ne3).trans cn3)⟩) (by omega) (by first | exact B1.size | exact size_alloc B1.size) ?_)); (intro v2 w2 o2 g2); (have B2 : Below wr.heap.size wr w2 := Below.grown (by first | exact B1 | exact B1.alloc B1.size _) g2 (by first | exact B1.size | exact size_alloc B1.size) (fun q hq => (o1.lt q hq).1)); (unfold wpList); (refine ⟨rfl, ?_⟩)))
          all_goals
            have OO := Lib.hid (O3.mono hb)
            have OL := Lib.hid (fun q hq => (O3.lt q hq).1)
            have HB3 := Lib.hid B3
            clear o3 O3 B3
            go_wp2
            go_ret
            exact ⟨_, rfl, by rw [HP.out, HE.out]; simpa using OO.out, fun q hq => .inr (OL.out q hq), HB3.out⟩
        · have hck : ¬ cap - m = 0 := by omega
          go_wp2
          go_region_law (first
            | ((refine step_of_list rfl ?_); (go_loud (refine wpList_catA rfl (.tmp 33) (.tmp 36) 58 rfl Tryz.underlying58 Tryz.infoInt wr.heap.size _ 0 [] (by rfl) (by first | exact own_made1 | exact own_made2 | exact own_made3) _ m _ xs (by rfl) HM.out (fun e => by cases e) (fun h0 => ⟨b, off, rfl, HTK.out h0 _ (by first | exact bel1 | exact bel2)⟩) (by omega) (by first | exact bel1.size | exact bel2.size) ?_)); (intro v1 w1 o1 g1); (have B1 : Below wr.heap.size wr w1 := Below.grown (by first | exact bel1 | exact bel2) g1 (by first | exact bel1.size | exact bel2.size) (fun q hq => (by have hq2 := Option.some.inj hq; rw [← hq2]; first | exact Nat.le_refl _ | exact Nat.le_succ _))); (have NN1 := fun c h1 h2 => g1.cell_far ⟨c, 0, none⟩ h1 h2); (unfold wpList); (refine ⟨rfl, ?_⟩))
            | ((refine step_of_list rfl ?_); (go_loud (refine wpList_catA rfl (.tmp 40) (.tmp 43) 58 rfl Tryz.underlying58 Tryz.infoInt wr.heap.size v2 (0 + m + 1) _ (by rfl) o2 _ 0 _ [] (by rfl) rfl (fun e => by cases e) (fun h => absurd h (Nat.lt_irrefl 0)) (by omega) B2.size ?_)); (intro v3 w3 o3 g3); (have B3 : Below wr.heap.size wr w3 := Below.grown B2 g3 B2.size (fun q hq => (o2.lt q hq).1)); (have O3 := own_of_row o3); (obtain ⟨a3, c3, n3, -, rfl, -⟩ := O3.rd.opn); (unfold wpList); (refine ⟨rfl, ?_⟩))
            | ((refine step_of_list rfl ?_); (go_loud (refine wpList_catA rfl (.tmp 37) (.tmp 39) 58 rfl Tryz.underlying58 Tryz.infoInt wr.heap.size v1 (0 + m) _ (by rfl) (by first | exact o1 | exact o1.alloc _) _ 1 _ [n] (by rfl) rfl (fun e => by cases e) (fun _ => ⟨_, 0, rfl, one_cell (by first | exact cn1 | exact (NN1 _ lt2 ne2).trans cn2 | exact (NN1 _ lt3 ne3).trans cn3)⟩) (by omega) (by first | exact B1.size | exact size_alloc B1.size) ?_)); (intro v2 w2 o2 g2); (have B2 : Below wr.heap.size wr w2 := Below.grown (by first | exact B1 | exact B1.alloc B1.size _) g2 (by first | exact B1.size | exact size_alloc B1.size) (fun q hq => (o1.lt q hq).1)); (unfold wpList); (refine ⟨rfl, ?_⟩)))
          all_goals
            have OO := Lib.hid (O3.mono hb)
            have OL := Lib.hid (fun q hq => (O3.lt q hq).1)
            have HB3 := Lib.hid B3
            clear o3 O3 B3
            go_wp2
            go_ret
            exact ⟨_, rfl, by rw [HP.out, HE.out]; simpa using OO.out, fun q hq => .inr (OL.out q hq), HB3.out⟩
end Go.Proofs.YtofcicomhnkocaaGreat
namespace Go.Proofs.YtofcicomhnkocaaGreat
open Go.RowKit Go.Sort
set_option maxRecDepth 100000

theorem Tryz.infoFib : (Tryz.prog.info? 146).map (fun i => (i.zero, i.size, i.bytes)) = some (some (.agg #[.int .i64 0, .int .i64 0, .int .i64 0, .int .i64 0]), 4, 32) := by kernel_rfl
def fbs (fs : List Fib) : List Value := fs.flatMap fibE
theorem fbs_one {fs : List Fib} : ∀ u ∈ fbs fs, u.oneCell' = true := fun u hu => by
  unfold fbs at hu
  obtain ⟨f, -, h⟩ := List.mem_flatMap.1 hu
  simp [fibE] at h
  rcases h with rfl | rfl | rfl | rfl <;> rfl
theorem wpList_catG {P : Program} {ops : Array Oper} {rest : List Oper} {o : Oper} {a : Act} {Q : Exit → Act → World → Prop} {w : World} (hgd : o.guard = none) (s x : Operand) (T e : TypeId)
    (ho : o.op = .call { callee := .builtin .append, args := #[s, x], argTypes := #[T, T] }) (ht : P.underlying T = some (.slice e)) (z : Value) (size bytes : Nat)
    (hinfo : (P.info? e).map (fun i => (i.zero, i.size, i.bytes)) = some (some z, size, bytes)) (hzs : z.cells.size = size) (hsz : 0 < size)
    (base : Nat) (v : Value) (n : Nat) (xs : List Value) (hs : a.eval s = v) (hown : w.ownsRow base e size v n xs)
    (ao : Option Addr) (m c : Nat) (ys : List Value) (hx : a.eval x = .slice ao m c) (hm : ys.length = m * size) (hy : ao = none → m = 0 ∧ c = 0) (hc : ∀ ad, ao = some ad → ∀ j u, ys[j]? = some u → w.cell? (ad.add j) = some u) (h1 : ∀ u ∈ ys, u.oneCell' = true) (hn : n + m ≤ maxLen) (hby : (n + m) * bytes ≤ 140737488355328) (hbase : base ≤ w.heap.size)
    (h : ∀ v' w', w'.ownsRow base e size v' (n + m) (xs ++ ys) → w.grownBy w' v.ownBlock → (v'.ownBlock = v.ownBlock ∨ v'.ownBlock = some w.heap.size) → wpList P ops Q rest (a.put o.dst v') w') :
    wpList P ops Q (o :: rest) a w := by
  obtain ⟨i0, hi, hz0, hz1, hz2⟩ := info_parts hinfo
  rcases ao with _ | ad
  · obtain ⟨rfl, rfl⟩ := hy rfl
    have : ys = [] := List.eq_nil_of_length_eq_zero (by simpa using hm)
    subst this
    refine wpList_append_own_none hgd s x T ho base e i0 size ht hi v n xs hs hown hx ?_
    exact h v w (by simpa using hown) ⟨rfl, rfl, rfl, Nat.le_refl _, fun _ _ _ => rfl⟩ (.inl rfl)
  · refine wpList_append_own_at _ hgd s x T ho base e i0 z size bytes ht hi hz0 hz1 hz2 hzs hsz v n xs hs hown ad m c ys hx hm (hc ad rfl) h1 hn hby hbase ?_
    intro v' w' g1 g2 _ g4
    exact h v' w' g1 g2 g4
theorem addr_add (b off j : Nat) : (⟨b, off, none⟩ : Addr).add j = ⟨b, off + j, none⟩ := by unfold Addr.add; split <;> simp_all
section
variable {w : World} {X Y : Obj} {T : TypeId} {m : Nat}
theorem row_made1 : (w.drew.alloc (.cells #[] T)).ownsRow w.heap.size T m (.slice (some ⟨w.heap.size, 0, none⟩) 0 0) 0 [] := World.ownsRow_made w.drew #[] 0 (Nat.le_refl _) (Nat.zero_le _) (by simp)
theorem row_made2 : ((w.drew.alloc (.cells #[] T)).alloc X).ownsRow w.heap.size T m (.slice (some ⟨w.heap.size, 0, none⟩) 0 0) 0 [] := row_made1.alloc _
theorem row_made3 : ((w.drew.alloc X).alloc (.cells #[] T)).ownsRow w.heap.size T m (.slice (some ⟨w.heap.size + 1, 0, none⟩) 0 0) 0 [] := by
  have := World.ownsRow_made (base := w.heap.size) (e := T) (size := m) (w.drew.alloc X) #[] 0 (by simp) (Nat.zero_le _) (by simp)
  simpa using this
end
end Go.Proofs.YtofcicomhnkocaaGreat
