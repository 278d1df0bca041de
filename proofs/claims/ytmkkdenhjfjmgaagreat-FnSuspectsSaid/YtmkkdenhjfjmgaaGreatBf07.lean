/- Joined: XUse XCol XCos XGroW XLgo XFni XSusP XVst XChs XWlk. -/
import Derived.Test.YtmkkdenhjfjmgaaGreatBf06
import Derived.Lib.QuietBelow
import Derived.Deep.RegionHeld3
import Derived.Test.YtmkkdenhjfjmgaaGreatBf03
import Derived.Test.YtmkkdenhjfjmgaaGreatBf02
import Derived.Test.YtmkkdenhjfjmgaaGreatBf05
import Derived.Test.YtmkkdenhjfjmgaaGreatBf04
import Derived.Deep.RegionLaw
namespace Go.Proofs.YtmkkdenhjfjmgaaGreat
open Go.RowKit Go.Sort
set_option maxRecDepth 100000

theorem meets_yes {xs ys : List Int} {k : Nat} (hk : k < xs.length) (h : ys.contains (xs[k]?.getD 0) = true) : meets xs ys = true := by
  rw [List.getElem?_eq_getElem hk] at h
  unfold meets
  rw [List.any_eq_true]
  exact ⟨xs[k], List.getElem_mem hk, h⟩
theorem meets_more {xs ys : List Int} {k : Nat} (hk : k < xs.length) (h : meets (xs.take k) ys = false) (h2 : ys.contains (xs[k]?.getD 0) = false) : meets (xs.take (k + 1)) ys = false := by
  rw [List.getElem?_eq_getElem hk] at h2
  unfold meets at h ⊢
  rw [List.take_add_one, List.any_append, h, List.getElem?_eq_getElem hk]
  simpa using h2
theorem meets_cmn (xs ys : List Int) : meets xs ys = decide (0 < (ust (cmn xs ys)).length) := by
  rw [Bool.eq_iff_iff, decide_eq_true_eq]
  unfold meets
  rw [List.any_eq_true]
  constructor
  · rintro ⟨x, hx, hy⟩
    have : x ∈ ust (cmn xs ys) := ust_mem.2 (List.mem_filter.2 ⟨hx, hy⟩)
    exact List.length_pos_of_mem this
  · intro h
    obtain ⟨x, hx⟩ := List.exists_mem_of_length_pos h
    have := List.mem_filter.1 (ust_mem.1 hx)
    exact ⟨x, this.1, this.2⟩
set_option maxHeartbeats 1600000 in
theorem l4Uses_any (va vb : Value) (r : Rou) (ys : List Int) (w : World) (ha : Rd w va r.fb) (hb : Rd w vb ys) :
    Calls Tryz.prog 105 #[.agg #[.int .i64 r.st, va], vb] w fun e w' => e = .returned (.bool (meets r.fb ys)) ∧ Below w.heap.size w w' := by
  obtain ⟨a, ca, n, HN, rfl, _, hn, hca⟩ := ha.opn
  have HC := Lib.hid (fun x w' (hw : Below w.heap.size w w') => l1Has_any vb ys x w' (hb.belowAll hw))
  obtain ⟨b, cb, m, -, rfl, -, -, -⟩ := hb.opn
  obtain ⟨bx, bc, blt, -⟩ := box_facts w #[.int .i64 r.st, .slice a n ca] 90
  have q1 := bc 1 _ rfl
  have HBX := Lib.hid bx
  have HA := Lib.hid hca
  have HY := Lib.hid (fun k h1 h2 => @meets_yes r.fb ys k h1 h2)
  have HZ := Lib.hid (fun k h1 h2 h3 => @meets_more r.fb ys k h1 h2 h3)
  have HT := Lib.hid (show r.fb.take n = r.fb from List.take_of_length_le (Nat.le_of_eq HN.out))
  rw [HN.out] at HY HZ
  clear hca ha hb bc bx
  generalize hxs : r.fb = xs at *
  go_enter Tryz.func105, Tryz.ntmps105
  go_wp2
  generalize w.alloc (.cells #[.int .i64 r.st, .slice a n ca] 90) = w2 at *
  go_loopw [5] (fun i wr => ∃ k : Nat, k ≤ n ∧ i = .int .i64 k ∧ Hid (meets (xs.take k) ys = false) ∧ wr = w2) (fun i _ => n - (intOf i).toNat)
  case atStart => exact ⟨0, Nat.zero_le _, rfl, rfl, rfl⟩
  case round =>
    obtain ⟨k, hk, rfl, HM, rfl⟩ := hrel
    by_cases hlt : k < n
    · have hltI : (k : Int) < (n : Int) := by omega
      obtain ⟨b', off, rfl, hbs, hcs⟩ := HA.out (by omega)
      have c0 := (HBX.out.cell (p := ⟨b', off + k, none⟩) hbs).trans (hcs k hlt)
      have HY1 := Lib.hid (HY.out k hlt)
      have HZ1 := Lib.hid (HZ.out k hlt HM.out)
      have HC1 := Lib.hid (HC.out (xs[k]?.getD 0) wr HBX.out)
      clear hcs
      generalize xs[k]?.getD 0 = x at *
      cases hcn : ys.contains x
      · have HE := Lib.hid (HZ1.out hcn)
        rw [hcn] at HC1
        clear hcn
        go_wp2_with (go_at_call 97; refine (HC1.out).mono ?_; rintro e w' ⟨rfl, rfl⟩)
        go_roundw
        case rel => exact ⟨k + 1, hlt, by go_num, HE.out, trivial⟩
        case measure => simp [intOf]; omega
      · have HE := Lib.hid (HY1.out hcn)
        rw [hcn] at HC1
        clear hcn
        go_wp2_with (go_at_call 97; refine (HC1.out).mono ?_; rintro e w' ⟨rfl, rfl⟩)
        go_ret
        exact ⟨by rw [HE.out]; rfl, HBX.out⟩
    · obtain rfl : n = k := by omega
      rw [HT.out] at HM
      go_wp2
      go_ret
      exact ⟨by rw [HM.out]; rfl, HBX.out⟩
end Go.Proofs.YtmkkdenhjfjmgaaGreat
namespace Go.Proofs.YtmkkdenhjfjmgaaGreat
open Go.RowKit Go.Sort
set_option maxRecDepth 100000

set_option maxHeartbeats 1600000 in
theorem collide_any (v1 v2 : Value) (x y : Lgt) (w : World) (h1 : Rd w v1 x.fb) (h2 : Rd w v2 y.fb) (hb1 : blkOk x.fi x.ct = true) (hb2 : blkOk y.fi y.ct = true) (hl : x.fb.length ≤ 1100000) :
    Calls Tryz.prog 136 #[.agg #[.int .i64 x.id, .int .i64 x.st, v1, .int .i64 x.fi, .int .i64 x.ct], .agg #[.int .i64 y.id, .int .i64 y.st, v2, .int .i64 y.fi, .int .i64 y.ct]] w fun e w' => e = .returned (.bool (collB x y)) ∧ Below w.heap.size w w' := by
  have HC := Lib.hid (fun w' (hb : Below w.heap.size w w') => common_any v1 v2 x.fb y.fb w' (h1.belowAll hb) (h2.belowAll hb) hl)
  have HM := Lib.hid (meets_cmn x.fb y.fb)
  have hd1 := blkOk_bd hb1
  have hd2 := blkOk_bd hb2
  obtain ⟨a1, c1, m1, -, rfl, -, -, -⟩ := h1.opn
  obtain ⟨a2, c2, m2, -, rfl, -, -, -⟩ := h2.opn
  have HF := Lib.hid (show collB x y = (decide (x.fi < y.fi + y.ct ∧ y.fi < x.fi + x.ct) && meets x.fb y.fb) from rfl)
  obtain ⟨bx, bc, blt, -⟩ := box_facts w #[.int .i64 x.id, .int .i64 x.st, .slice a1 m1 c1, .int .i64 x.fi, .int .i64 x.ct] 94
  obtain ⟨by', bd, bmt, -⟩ := box_facts (w.alloc (.cells #[.int .i64 x.id, .int .i64 x.st, .slice a1 m1 c1, .int .i64 x.fi, .int .i64 x.ct] 94)) #[.int .i64 y.id, .int .i64 y.st, .slice a2 m2 c2, .int .i64 y.fi, .int .i64 y.ct] 94
  have q2 := (by'.cell (p := ⟨w.heap.size, 2, none⟩) blt).trans (bc 2 _ rfl)
  have q3 := (by'.cell (p := ⟨w.heap.size, 3, none⟩) blt).trans (bc 3 _ rfl)
  have q4 := (by'.cell (p := ⟨w.heap.size, 4, none⟩) blt).trans (bc 4 _ rfl)
  have l2 := bd 2 _ rfl
  have l3 := bd 3 _ rfl
  have l4 := bd 4 _ rfl
  have hs1 : (w.alloc (.cells #[.int .i64 x.id, .int .i64 x.st, .slice a1 m1 c1, .int .i64 x.fi, .int .i64 x.ct] 94)).heap.size = w.heap.size + 1 := by simp
  rw [hs1] at l2 l3 l4 bmt
  have blt2 := Nat.lt_of_lt_of_le blt by'.size
  have HBX := Lib.hid (bx.trans (by'.mono bx.size))
  clear bc bd bx by' hs1 blt h1 h2 hb1 hb2
  generalize collB x y = q at *
  generalize meets x.fb y.fb = mt at *
  generalize cmn x.fb y.fb = cm at *
  generalize x.fi = xf at *
  generalize y.fi = yf at *
  generalize x.ct = xc at *
  generalize y.ct = yc at *
  obtain ⟨f, rfl⟩ : ∃ f : Nat, xf = (f : Int) := ⟨xf.toNat, by omega⟩
  obtain ⟨g, rfl⟩ : ∃ f : Nat, yf = (f : Int) := ⟨yf.toNat, by omega⟩
  obtain ⟨c, rfl⟩ : ∃ f : Nat, xc = (f : Int) := ⟨xc.toNat, by omega⟩
  obtain ⟨d, rfl⟩ : ∃ f : Nat, yc = (f : Int) := ⟨yc.toNat, by omega⟩
  have HX := Lib.hid (fun w => maskOf_any f c w (by omega))
  have HY := Lib.hid (fun w => maskOf_any g d w (by omega))
  have hbm := bits_meet (f := f) (c := c) (g := g) (d := d) (by omega) (by omega) (by omega) (by omega)
  clear hd1 hd2
  generalize mskN f c = s1 at *
  generalize mskN g d = s2 at *
  go_enter Tryz.func136, Tryz.ntmps136
  go_wp2
  generalize (w.alloc (.cells #[.int .i64 x.id, .int .i64 x.st, .slice a1 m1 c1, .int .i64 f, .int .i64 c] 94)).alloc (.cells #[.int .i64 y.id, .int .i64 y.st, .slice a2 m2 c2, .int .i64 g, .int .i64 d] 94) = w2 at *
  cases hd : decide ((f : Int) < g + d ∧ (g : Int) < f + c)
  · rw [hd] at hbm HF
    clear hd
    have j2 := rg q2
    have j3 := rg q3
    have j4 := rg q4
    have k2 := rg l2
    have k3 := rg l3
    have k4 := rg l4
    refine wp_region_quiet_below (by kernel_rfl) (by kernel_rfl) ?_
    repeat (go_big_quiet_step (first | (go_at_call 181; first | (with_reducible exact Calls.regrown_of (HX.out _)) | (with_reducible exact Calls.regrown_of (HY.out _)))))
    refine wpQuiet_nil ?_
    rintro _ ⟨⟨dq, osq⟩, rfl⟩
    go_wp2
    go_ret
    exact ⟨by rw [HF.out]; rfl, HBX.out.trans ((below_regrown _ dq osq).mono HBX.out.size)⟩
  rw [hd] at hbm HF
  clear hd
  have HS := Lib.hid (fun (w' : World) (hb : Below w2.heap.size w2 w') => show Below w2.heap.size w2 w' ∧ w'.cell? ⟨w.heap.size, 2, none⟩ = some (.slice a1 m1 c1) ∧ w'.cell? ⟨w.heap.size, 3, none⟩ = some (.int .i64 f) ∧ w'.cell? ⟨w.heap.size, 4, none⟩ = some (.int .i64 c) ∧ w'.cell? ⟨w.heap.size + 1, 2, none⟩ = some (.slice a2 m2 c2) ∧ w'.cell? ⟨w.heap.size + 1, 3, none⟩ = some (.int .i64 g) ∧ w'.cell? ⟨w.heap.size + 1, 4, none⟩ = some (.int .i64 d) from
    ⟨hb, (hb.cell blt2).trans q2, (hb.cell blt2).trans q3, (hb.cell blt2).trans q4, (hb.cell bmt).trans l2, (hb.cell bmt).trans l3, (hb.cell bmt).trans l4⟩)
  have HBS := Lib.hid (fun (wx w' : World) (hb : Below w2.heap.size w2 wx) (hc : Below wx.heap.size wx w') => show Below w2.heap.size w2 w' from hb.trans (hc.mono hb.size))
  have HCB := Lib.hid (fun (w' : World) (hb : Below w2.heap.size w2 w') => HC.out w' (HBX.out.trans (hb.mono HBX.out.size)))
  have s0 : Below w2.heap.size w2 w2.drew := (Below.refl w2.heap.size w2).drew
  clear q2 q3 q4 l2 l3 l4
  go_region_held3 (fun w' => Below w2.heap.size w2 w' ∧ w'.cell? ⟨w.heap.size, 2, none⟩ = some (.slice a1 m1 c1) ∧ w'.cell? ⟨w.heap.size, 3, none⟩ = some (.int .i64 f) ∧ w'.cell? ⟨w.heap.size, 4, none⟩ = some (.int .i64 c) ∧ w'.cell? ⟨w.heap.size + 1, 2, none⟩ = some (.slice a2 m2 c2) ∧ w'.cell? ⟨w.heap.size + 1, 3, none⟩ = some (.int .i64 g) ∧ w'.cell? ⟨w.heap.size + 1, 4, none⟩ = some (.int .i64 d))
    (first | exact HS.out _ (by assumption))
    (first
      | (go_at_call 181; first | ((with_reducible refine (HX.out _).mono ?_); rintro e w5 ⟨rfl, b5⟩; have s5 := HBS.out _ _ (And.left (by assumption)) b5; clear b5) | ((with_reducible refine (HY.out _).mono ?_); rintro e w6 ⟨rfl, b6⟩; have s6 := HBS.out _ _ (And.left (by assumption)) b6; clear b6))
      | (go_at_call 98; go_loud (refine (HCB.out _ (And.left (by assumption))).mono ?_; rintro e w7 ⟨v7, rfl, o7, b7⟩; obtain ⟨a7, c7, n7, HN7, rfl, -, hn7, -⟩ := o7.rd.opn; have s7 := HBS.out _ _ (And.left (by assumption)) b7; clear b7 o7)))
  all_goals
    go_wp2
    go_ret
    exact ⟨by rw [HF.out, HM.out, HN7.out]; rfl, HBX.out.trans (s7.mono HBX.out.size)⟩
end Go.Proofs.YtmkkdenhjfjmgaaGreat
namespace Go.Proofs.YtmkkdenhjfjmgaaGreat
open Go.RowKit Go.Sort
set_option maxRecDepth 100000

set_option maxHeartbeats 1600000 in
theorem l9Collide_any (v1 v2 : Value) (x y : Lgt) (w : World) (h1 : Rd w v1 x.fb) (h2 : Rd w v2 y.fb) (hb1 : blkOk x.fi x.ct = true) (hb2 : blkOk y.fi y.ct = true) (hl : x.fb.length ≤ 1100000) :
    Calls Tryz.prog 141 #[.agg #[.int .i64 x.id, .int .i64 x.st, v1, .int .i64 x.fi, .int .i64 x.ct], .agg #[.int .i64 y.id, .int .i64 y.st, v2, .int .i64 y.fi, .int .i64 y.ct]] w fun e w' => e = .returned (.bool (collB x y)) ∧ Below w.heap.size w w' := by
  have HC := Lib.hid (fun w' (hb : Below w.heap.size w w') => l4Uses_any v1 v2 ⟨x.st, x.fb⟩ y.fb w' (h1.belowAll hb) (h2.belowAll hb))
  have hd1 := blkOk_bd hb1
  have hd2 := blkOk_bd hb2
  obtain ⟨a1, c1, m1, -, rfl, -, -, -⟩ := h1.opn
  obtain ⟨a2, c2, m2, -, rfl, -, -, -⟩ := h2.opn
  have HF := Lib.hid (show collB x y = (decide (x.fi < y.fi + y.ct ∧ y.fi < x.fi + x.ct) && meets x.fb y.fb) from rfl)
  obtain ⟨bx, bc, blt, -⟩ := box_facts w #[.int .i64 x.id, .int .i64 x.st, .slice a1 m1 c1, .int .i64 x.fi, .int .i64 x.ct] 94
  obtain ⟨by', bd, bmt, -⟩ := box_facts (w.alloc (.cells #[.int .i64 x.id, .int .i64 x.st, .slice a1 m1 c1, .int .i64 x.fi, .int .i64 x.ct] 94)) #[.int .i64 y.id, .int .i64 y.st, .slice a2 m2 c2, .int .i64 y.fi, .int .i64 y.ct] 94
  have q1 := (by'.cell (p := ⟨w.heap.size, 1, none⟩) blt).trans (bc 1 _ rfl)
  have q2 := (by'.cell (p := ⟨w.heap.size, 2, none⟩) blt).trans (bc 2 _ rfl)
  have q3 := (by'.cell (p := ⟨w.heap.size, 3, none⟩) blt).trans (bc 3 _ rfl)
  have q4 := (by'.cell (p := ⟨w.heap.size, 4, none⟩) blt).trans (bc 4 _ rfl)
  have l2 := bd 2 _ rfl
  have l3 := bd 3 _ rfl
  have l4 := bd 4 _ rfl
  have hs1 : (w.alloc (.cells #[.int .i64 x.id, .int .i64 x.st, .slice a1 m1 c1, .int .i64 x.fi, .int .i64 x.ct] 94)).heap.size = w.heap.size + 1 := by simp
  rw [hs1] at l2 l3 l4 bmt
  have blt2 := Nat.lt_of_lt_of_le blt by'.size
  have HBX := Lib.hid (bx.trans (by'.mono bx.size))
  clear bc bd bx by' hs1 blt h1 h2 hb1 hb2
  generalize collB x y = q at *
  have HCQ := Lib.hid (fun w' (hb : Below w.heap.size w w') => show Calls Tryz.prog 105 #[.agg #[.int .i64 x.st, .slice a1 m1 c1], .slice a2 m2 c2] w' fun e w'' => e = .returned (.bool (meets x.fb y.fb)) ∧ Below w'.heap.size w' w'' from HC.out w' hb)
  clear HC
  generalize meets x.fb y.fb = mt at *
  generalize x.st = xs at *
  generalize x.fi = xf at *
  generalize y.fi = yf at *
  generalize x.ct = xc at *
  generalize y.ct = yc at *
  obtain ⟨f, rfl⟩ : ∃ f : Nat, xf = (f : Int) := ⟨xf.toNat, by omega⟩
  obtain ⟨g, rfl⟩ : ∃ f : Nat, yf = (f : Int) := ⟨yf.toNat, by omega⟩
  obtain ⟨c, rfl⟩ : ∃ f : Nat, xc = (f : Int) := ⟨xc.toNat, by omega⟩
  obtain ⟨d, rfl⟩ : ∃ f : Nat, yc = (f : Int) := ⟨yc.toNat, by omega⟩
  have HX := Lib.hid (fun w => l8Bits_any f c w (by omega))
  have HY := Lib.hid (fun w => l8Bits_any g d w (by omega))
  have hbm := bits_meet (f := f) (c := c) (g := g) (d := d) (by omega) (by omega) (by omega) (by omega)
  clear hd1 hd2
  generalize mskN f c = s1 at *
  generalize mskN g d = s2 at *
  go_enter Tryz.func141, Tryz.ntmps141
  go_wp2
  generalize (w.alloc (.cells #[.int .i64 x.id, .int .i64 xs, .slice a1 m1 c1, .int .i64 f, .int .i64 c] 94)).alloc (.cells #[.int .i64 y.id, .int .i64 y.st, .slice a2 m2 c2, .int .i64 g, .int .i64 d] 94) = w2 at *
  generalize decide ((f : Int) < g + d ∧ (g : Int) < f + c) = hh at *
  have HCB := Lib.hid (fun (w' : World) (hb : Below w2.heap.size w2 w') => HCQ.out w' (HBX.out.trans (hb.mono HBX.out.size)))
  clear HCQ
  cases mt
  · have j1 := rg q1
    have j2 := rg q2
    have k2 := rg l2
    clear q1 q2 q3 q4 l2 l3 l4
    refine wp_region_quiet_below (by kernel_rfl) (by kernel_rfl) ?_
    repeat (go_big_quiet_step (first | (go_at_call 105; exact Calls.regrown_of (HCB.out _ (below_regrown _ _ _)))))
    refine wpQuiet_nil ?_
    rintro _ ⟨⟨dq, osq⟩, rfl⟩
    go_wp2
    go_ret
    exact ⟨by rw [HF.out]; cases hh <;> rfl, HBX.out.trans ((below_regrown _ dq osq).mono HBX.out.size)⟩
  have j1 := rg q1
  have j2 := rg q2
  have j3 := rg q3
  have j4 := rg q4
  have k2 := rg l2
  have k3 := rg l3
  have k4 := rg l4
  clear q1 q2 q3 q4 l2 l3 l4
  refine wp_region_quiet_below (by kernel_rfl) (by kernel_rfl) ?_
  repeat (go_big_quiet_step (first | (go_at_call 105; exact Calls.regrown_of (HCB.out _ (below_regrown _ _ _))) | (go_at_call 189; first | (with_reducible exact Calls.regrown_of (HX.out _)) | (with_reducible exact Calls.regrown_of (HY.out _)))))
  refine wpQuiet_nil ?_
  rintro _ ⟨⟨dq, osq⟩, rfl⟩
  go_wp2
  go_ret
  exact ⟨by rw [HF.out]; simp [hbm], HBX.out.trans ((below_regrown _ dq osq).mono HBX.out.size)⟩
end Go.Proofs.YtmkkdenhjfjmgaaGreat
namespace Go.Proofs.YtmkkdenhjfjmgaaGreat
open Go.RowKit Go.Sort
set_option maxRecDepth 100000

/-! ### Searches -/
section
variable {α : Type}
theorem anyG_more {zs : List α} {p : α → Bool} {nil : α} {k : Nat} (hk : k < zs.length) (h : (zs.take k).any p = false) (e : p (zs[k]?.getD nil) = false) : (zs.take (k + 1)).any p = false := by
  rw [List.getElem?_eq_getElem hk] at e
  rw [List.take_add_one, List.any_append, h, List.getElem?_eq_getElem hk]
  simpa using e
/-- The first place, or -1. -/
def idxG (zs : List α) (p : α → Bool) : Int := match zs.findIdx? p with | some k => k | none => -1
theorem idxG_none {zs : List α} {p : α → Bool} (h : zs.any p = false) : idxG zs p = -1 := by
  have : zs.findIdx? p = none := by rw [List.findIdx?_eq_none_iff]; simpa [List.any_eq_false] using h
  simp [idxG, this]
theorem idxG_some {zs : List α} {p : α → Bool} {nil : α} {k : Nat} (hk : k < zs.length) (h : (zs.take k).any p = false) (e : p (zs[k]?.getD nil) = true) : idxG zs p = k := by
  have : zs.findIdx? p = some k := by
    rw [List.findIdx?_eq_some_iff_getElem]
    refine ⟨hk, by simpa [List.getElem?_eq_getElem hk] using e, fun j hj => ?_⟩
    simp only [List.any_eq_false] at h
    have := h zs[j] (List.mem_take_iff_getElem.2 ⟨j, by omega, by simp⟩)
    simpa using this
  simp [idxG, this]
theorem idxG_geq (zs : List α) (p : α → Bool) : decide (0 ≤ idxG zs p) = zs.any p := by
  cases h : zs.findIdx? p with
  | none =>
    rw [List.findIdx?_eq_none_iff] at h
    have : zs.any p = false := by simpa [List.any_eq_false] using h
    rw [this]; simp [idxG_none this]
  | some k =>
    have := h
    rw [List.findIdx?_eq_some_iff_getElem] at h
    obtain ⟨hk, e, _⟩ := h
    have h2 : zs.any p = true := List.any_eq_true.2 ⟨_, List.getElem_mem hk, e⟩
    rw [h2]; simp [idxG, this]
end
/-- Number F is a function of Go text. -/
def IsFn (F : FuncId) : Prop := ∀ (args : Array Value) (w : World), (callFunc F args).run Tryz.prog w = .ok (.enter F args) w
theorem isFn_of {F : FuncId} {fn : Func} (h1 : Tryz.prog.funcs[F]? = some fn) (h2 : (fn.name == "runtime.NumGoroutine") = false) (h3 : fn.body.isNone = false) : IsFn F := by
  intro args w
  unfold callFunc
  simp only [Sem.run_bind, run_program, Result.andThen_ok, h1, h2, h3]
  rfl

/-! ### Growths -/
abbrev ptr (b : Nat) : Value := .pointer (some ⟨b, 0, none⟩)
end Go.Proofs.YtmkkdenhjfjmgaaGreat
namespace Go.Proofs.YtmkkdenhjfjmgaaGreat
open Go.RowKit Go.Sort
set_option maxRecDepth 100000

theorem lgt_leaf {w : World} {x : Value} {u : Value} (h : Rdt w (.leaf x) u) : u = x := by cases h; rfl
theorem lgt_opn {w : World} {v : Value} {zs : List Lgt} (h : Rdt w (rws 5 lgtD zs) v) : ∃ a n cap, v = .slice a n cap ∧ Hid (zs.length = n) ∧ n ≤ cap ∧ n ≤ 9223372036854775807 ∧
    (0 < n → ∃ b off, a = some ⟨b, off, none⟩ ∧ b < w.heap.size ∧ ∀ i, i < n → ∃ u, w.cell? ⟨b, off + i * 5, none⟩ = some (.int .i64 (zs[i]?.getD nilL).id) ∧ w.cell? ⟨b, off + i * 5 + 1, none⟩ = some (.int .i64 (zs[i]?.getD nilL).st) ∧
      w.cell? ⟨b, off + i * 5 + 2, none⟩ = some u ∧ w.cell? ⟨b, off + i * 5 + 3, none⟩ = some (.int .i64 (zs[i]?.getD nilL).fi) ∧ w.cell? ⟨b, off + i * 5 + 4, none⟩ = some (.int .i64 (zs[i]?.getD nilL).ct) ∧ Rd w u (zs[i]?.getD nilL).fb) := by
  obtain ⟨a, n, cap, e, HN, h1, h2, h3⟩ := rws_opn (m := 5) (en := lgtD) (fun _ => rfl) (by omega) nilL h
  refine ⟨a, n, cap, e, HN, h1, h2, fun h0 => ?_⟩
  obtain ⟨b, off, ea, hb, hc⟩ := h3 h0
  refine ⟨b, off, ea, hb, fun i hi => ?_⟩
  obtain ⟨u0, k0, d0⟩ := hc i hi 0 _ rfl
  obtain ⟨u1, k1, d1⟩ := hc i hi 1 _ rfl
  obtain ⟨u2, k2, d2⟩ := hc i hi 2 _ rfl
  obtain ⟨u3, k3, d3⟩ := hc i hi 3 _ rfl
  obtain ⟨u4, k4, d4⟩ := hc i hi 4 _ rfl
  rw [lgt_leaf d0] at k0
  rw [lgt_leaf d1] at k1
  rw [lgt_leaf d3] at k3
  rw [lgt_leaf d4] at k4
  exact ⟨u2, k0, k1, k2, k3, k4, Rdt.toRd d2⟩
set_option maxHeartbeats 1600000 in
theorem indexFuncLgt_any (v : Value) (zs : List Lgt) (F : FuncId) (b0 : Nat) (p : Lgt → Bool) (w : World) (h : Rdt w (rws 5 lgtD zs) v) (hF : IsFn F)
    (hp : ∀ (i : Nat) (w' : World), i < zs.length → Below w.heap.size w w' → ∀ z u, z = zs[i]?.getD nilL → Rd w' u z.fb → Calls Tryz.prog F #[.agg #[.int .i64 z.id, .int .i64 z.st, u, .int .i64 z.fi, .int .i64 z.ct], ptr b0] w' fun e w2 => e = .returned (.bool (p z)) ∧ Below w'.heap.size w' w2) :
    Calls Tryz.prog 180 #[v, .func (.func F) #[] #[ptr b0]] w fun e w' => e = .returned (.int .i64 (idxG zs p)) ∧ Below w.heap.size w w' := by
  obtain ⟨a, n, cap, rfl, HN, _, hla, ha⟩ := lgt_opn h
  rw [HN.out] at hp
  have HP := Lib.hid hp
  have HA := Lib.hid ha
  clear hp ha h
  have hF := show ∀ (args : Array Value) (w : World), (callFunc F args).run Tryz.prog w = .ok (.enter F args) w from hF
  have HI := Lib.hid (fun k hk h e => idxG_some (zs := zs) (p := p) (nil := nilL) (k := k) hk h e)
  have HO := Lib.hid (idxG_none (zs := zs) (p := p))
  have HM := Lib.hid (fun k hk h e => anyG_more (zs := zs) (p := p) (nil := nilL) (k := k) hk h e)
  generalize idxG zs p = r at *
  go_enter Tryz.func180, Tryz.ntmps180
  go_wp2
  go_loopw [5, 8] (fun _ i wr => ∃ k : Nat, k ≤ n ∧ i = .int .i64 k ∧ Hid ((zs.take k).any p = false) ∧ Hid (Below w.heap.size w wr)) (fun _ i _ => n - (intOf i).toNat)
  case atStart => exact ⟨0, by omega, rfl, by simp [Hid], Below.refl _ _⟩
  case round =>
    obtain ⟨k, hk, rfl, HT, HB⟩ := hrel
    by_cases hlt : k < n
    · have hltI : (k : Int) < (n : Int) := by omega
      have hkx : k < zs.length := by rw [HN.out]; exact hlt
      obtain ⟨b, off, rfl, hbs, hcs⟩ := HA.out (by omega)
      obtain ⟨u, e0, e1, e2, e3, e4, hru⟩ := hcs k hlt
      have hw0 := (HB.out.cell (p := ⟨b, off + k * 5, none⟩) hbs).trans e0
      have hw1 := (HB.out.cell (p := ⟨b, off + k * 5 + 1, none⟩) hbs).trans e1
      have hw2 := (HB.out.cell (p := ⟨b, off + k * 5 + 2, none⟩) hbs).trans e2
      have hw3 := (HB.out.cell (p := ⟨b, off + k * 5 + 3, none⟩) hbs).trans e3
      have hw4 := (HB.out.cell (p := ⟨b, off + k * 5 + 4, none⟩) hbs).trans e4
      have HSL := hru.opn
      have HPK := Lib.hid (HP.out k wr hlt HB.out _ u rfl (hru.belowAll HB.out))
      have HIK := Lib.hid (HI.out k hkx HT.out)
      have HMK := Lib.hid (HM.out k hkx HT.out)
      obtain ⟨au, cu, nu, -, rfl, -, -, -⟩ := HSL
      clear hcs hkx e0 e1 e2 e3 e4 hru
      generalize zs[k]?.getD nilL = z at *
      generalize p z = pz at *
      have hz := HB.out.size
      cases pz
      · have HE := Lib.hid (HMK.out rfl)
        go_wp2_with fail
        refine HPK.out.mono ?_
        rintro e w2 ⟨rfl, b2⟩
        have HB2 := Lib.hid (HB.out.trans (b2.mono hz))
        clear b2
        go_wp2
        go_roundw
        case rel => exact ⟨k + 1, by omega, by go_num, HE.out, HB2.out⟩
        case measure => simp [intOf]; omega
      · have HE := Lib.hid (HIK.out rfl)
        go_wp2_with fail
        refine HPK.out.mono ?_
        rintro e w2 ⟨rfl, b2⟩
        have HB2 := Lib.hid (HB.out.trans (b2.mono hz))
        clear b2
        go_wp2
        go_ret
        exact ⟨by rw [HE.out]; rfl, HB2.out⟩
    · obtain rfl : n = k := by omega
      have hall := HT.out
      rw [← HN.out, List.take_length] at hall
      have HE := Lib.hid (HO.out hall)
      clear hall
      go_wp2
      go_ret
      exact ⟨by rw [HE.out]; rfl, HB.out⟩
theorem containsFuncLgt_any (v : Value) (zs : List Lgt) (F : FuncId) (b0 : Nat) (p : Lgt → Bool) (w : World) (h : Rdt w (rws 5 lgtD zs) v) (hF : IsFn F)
    (hp : ∀ (i : Nat) (w' : World), i < zs.length → Below w.heap.size w w' → ∀ z u, z = zs[i]?.getD nilL → Rd w' u z.fb → Calls Tryz.prog F #[.agg #[.int .i64 z.id, .int .i64 z.st, u, .int .i64 z.fi, .int .i64 z.ct], ptr b0] w' fun e w2 => e = .returned (.bool (p z)) ∧ Below w'.heap.size w' w2) :
    Calls Tryz.prog 134 #[v, .func (.func F) #[] #[ptr b0]] w fun e w' => e = .returned (.bool (zs.any p)) ∧ Below w.heap.size w w' := by
  have HI := Lib.hid (indexFuncLgt_any v zs F b0 p w h hF hp)
  have HG := Lib.hid (idxG_geq zs p)
  generalize idxG zs p = r at *
  generalize zs.any p = s at *
  obtain ⟨a, n, cap, rfl, -⟩ := lgt_opn h
  clear h hp hF
  go_enter Tryz.func134, Tryz.ntmps134
  go_wp2_with fail
  refine HI.out.mono ?_
  rintro e w2 ⟨rfl, b2⟩
  have HB := Lib.hid b2
  clear b2
  go_wp2
  go_ret
  exact ⟨by rw [← HG.out]; rfl, HB.out⟩
end Go.Proofs.YtmkkdenhjfjmgaaGreat
namespace Go.Proofs.YtmkkdenhjfjmgaaGreat
open Go.RowKit Go.Sort
set_option maxRecDepth 100000

set_option maxHeartbeats 1600000 in
theorem indexFuncI_any (v : Value) (zs : List Int) (F : FuncId) (b0 : Nat) (p : Int → Bool) (w : World) (h : Rd w v zs) (hF : IsFn F)
    (hp : ∀ (i : Nat) (w' : World), i < zs.length → Below w.heap.size w w' → ∀ z, z = zs[i]?.getD 0 → Calls Tryz.prog F #[.int .i64 z, ptr b0] w' fun e w2 => e = .returned (.bool (p z)) ∧ Below w'.heap.size w' w2) :
    Calls Tryz.prog 153 #[v, .func (.func F) #[] #[ptr b0]] w fun e w' => e = .returned (.int .i64 (idxG zs p)) ∧ Below w.heap.size w w' := by
  obtain ⟨a, cap, n, HN, rfl, _, hla, ha⟩ := h.opn
  rw [HN.out] at hp
  have HP := Lib.hid hp
  have HA := Lib.hid ha
  clear hp ha h
  have hF := show ∀ (args : Array Value) (w : World), (callFunc F args).run Tryz.prog w = .ok (.enter F args) w from hF
  have HI := Lib.hid (fun k hk h e => idxG_some (zs := zs) (p := p) (nil := 0) (k := k) hk h e)
  have HO := Lib.hid (idxG_none (zs := zs) (p := p))
  have HM := Lib.hid (fun k hk h e => anyG_more (zs := zs) (p := p) (nil := 0) (k := k) hk h e)
  generalize idxG zs p = r at *
  go_enter Tryz.func153, Tryz.ntmps153
  go_wp2
  go_loopw [5, 8] (fun _ i wr => ∃ k : Nat, k ≤ n ∧ i = .int .i64 k ∧ Hid ((zs.take k).any p = false) ∧ Hid (Below w.heap.size w wr)) (fun _ i _ => n - (intOf i).toNat)
  case atStart => exact ⟨0, by omega, rfl, by simp [Hid], Below.refl _ _⟩
  case round =>
    obtain ⟨k, hk, rfl, HT, HB⟩ := hrel
    by_cases hlt : k < n
    · have hltI : (k : Int) < (n : Int) := by omega
      have hkx : k < zs.length := by rw [HN.out]; exact hlt
      obtain ⟨b, off, rfl, hbs, hcs⟩ := HA.out (by omega)
      have hw0 := (HB.out.cell (p := ⟨b, off + k, none⟩) hbs).trans (hcs k hlt)
      have HPK := Lib.hid (HP.out k wr hlt HB.out _ rfl)
      have HIK := Lib.hid (HI.out k hkx HT.out)
      have HMK := Lib.hid (HM.out k hkx HT.out)
      clear hcs hkx
      generalize zs[k]?.getD 0 = z at *
      generalize p z = pz at *
      have hz := HB.out.size
      cases pz
      · have HE := Lib.hid (HMK.out rfl)
        go_wp2_with fail
        refine HPK.out.mono ?_
        rintro e w2 ⟨rfl, b2⟩
        have HB2 := Lib.hid (HB.out.trans (b2.mono hz))
        clear b2
        go_wp2
        go_roundw
        case rel => exact ⟨k + 1, by omega, by go_num, HE.out, HB2.out⟩
        case measure => simp [intOf]; omega
      · have HE := Lib.hid (HIK.out rfl)
        go_wp2_with fail
        refine HPK.out.mono ?_
        rintro e w2 ⟨rfl, b2⟩
        have HB2 := Lib.hid (HB.out.trans (b2.mono hz))
        clear b2
        go_wp2
        go_ret
        exact ⟨by rw [HE.out]; rfl, HB2.out⟩
    · obtain rfl : n = k := by omega
      have hall := HT.out
      rw [← HN.out, List.take_length] at hall
      have HE := Lib.hid (HO.out hall)
      clear hall
      go_wp2
      go_ret
      exact ⟨by rw [HE.out]; rfl, HB.out⟩
theorem containsFuncI_any (v : Value) (zs : List Int) (F : FuncId) (b0 : Nat) (p : Int → Bool) (w : World) (h : Rd w v zs) (hF : IsFn F)
    (hp : ∀ (i : Nat) (w' : World), i < zs.length → Below w.heap.size w w' → ∀ z, z = zs[i]?.getD 0 → Calls Tryz.prog F #[.int .i64 z, ptr b0] w' fun e w2 => e = .returned (.bool (p z)) ∧ Below w'.heap.size w' w2) :
    Calls Tryz.prog 118 #[v, .func (.func F) #[] #[ptr b0]] w fun e w' => e = .returned (.bool (zs.any p)) ∧ Below w.heap.size w w' := by
  have HI := Lib.hid (indexFuncI_any v zs F b0 p w h hF hp)
  have HG := Lib.hid (idxG_geq zs p)
  generalize idxG zs p = r at *
  generalize zs.any p = s at *
  obtain ⟨a, cap, n, -, rfl, -⟩ := h.opn
  clear h hp hF
  go_enter Tryz.func118, Tryz.ntmps118
  go_wp2_with fail
  refine HI.out.mono ?_
  rintro e w2 ⟨rfl, b2⟩
  have HB := Lib.hid b2
  clear b2
  go_wp2
  go_ret
  exact ⟨by rw [← HG.out]; rfl, HB.out⟩
/-! ### The index of the light with a number -/
def lix (p : Pln) (id : Int) : Int := idxG p.ls (fun x => x.id == id)
theorem lightAt1_any (z : Lgt) (u : Value) (id : Int) (b0 : Nat) (w : World) (hu : Rd w u z.fb) (h0 : w.cell? ⟨b0, 0, none⟩ = some (.int .i64 id)) :
    Calls Tryz.prog 182 #[.agg #[.int .i64 z.id, .int .i64 z.st, u, .int .i64 z.fi, .int .i64 z.ct], ptr b0] w fun e w' => e = .returned (.bool (z.id == id)) ∧ Below w.heap.size w w' := by
  obtain ⟨a1, c1, n1, -, rfl, -⟩ := hu.opn
  obtain ⟨bx, bc, blt, -⟩ := box_facts w #[.int .i64 z.id, .int .i64 z.st, .slice a1 n1 c1, .int .i64 z.fi, .int .i64 z.ct] 94
  have q0 := bc 0 _ rfl
  have d0 := (bx.cell (p := ⟨b0, 0, none⟩) (World.block_lt_of_cell? _ _ h0)).trans h0
  have HBX := Lib.hid bx
  have HV := Lib.hid (rfl : (z.id == id) = (z.id == id))
  clear bx bc h0 hu
  go_enter Tryz.func182, Tryz.ntmps182
  go_wp2
  go_ret
  exact ⟨rfl, HBX.out⟩
end Go.Proofs.YtmkkdenhjfjmgaaGreat
namespace Go.Proofs.YtmkkdenhjfjmgaaGreat
open Go.RowKit Go.Sort

/-! ### Bits that are not in another mask -/
def anot (a b : Nat) : Nat := (BitVec.ofNat 64 a &&& ~~~BitVec.ofNat 64 b).toNat
theorem anot_bit (a b i : Nat) (hi : i < 64) : (anot a b).testBit i = (a.testBit i && !b.testBit i) := by
  unfold anot
  rw [BitVec.testBit_toNat, BitVec.getLsbD_and, BitVec.getLsbD_not, BitVec.getLsbD_ofNat, BitVec.getLsbD_ofNat, decide_eq_true hi]
  simp
theorem anot_le {a b : Nat} (ha : a < 16777216) : anot a b ≤ a := by
  unfold anot
  rw [BitVec.toNat_and, BitVec.toNat_ofNat, Nat.mod_eq_of_lt (by omega)]
  exact Nat.and_le_left
theorem bits_anot {a b : Nat} (ha : a < 16777216) : bits .andNot .i64 (a : Int) (b : Int) = ((anot a b : Nat) : Int) := by
  have h := anot_le (b := b) ha
  unfold bits
  show IntKind.i64.wrap (((BitVec.ofInt 64 (a : Int) &&& ~~~BitVec.ofInt 64 (b : Int)).toNat : Nat) : Int) = _
  rw [BitVec.ofInt_natCast, BitVec.ofInt_natCast]
  show IntKind.i64.wrap ((anot a b : Nat) : Int) = _
  rw [IntWalk.i64_in _ (by omega)]
theorem nat_zero {a : Nat} (h : ∀ i, a.testBit i = false) : a = 0 := Nat.eq_of_testBit_eq fun i => by rw [h i, Nat.zero_testBit]
theorem lt24_bit {a i : Nat} (ha : a < 16777216) (h : a.testBit i = true) : i < 24 := by
  rcases Nat.lt_or_ge i 24 with h1 | h1
  · exact h1
  · have : a < 2 ^ i := Nat.lt_of_lt_of_le ha (Nat.le_trans (Nat.le_refl (2 ^ 24)) (Nat.pow_le_pow_right (by omega) h1))
    rw [Nat.testBit_lt_two_pow this] at h; cases h
theorem anot_zero {a b : Nat} (ha : a < 16777216) : anot a b = 0 ↔ ∀ i, a.testBit i = true → b.testBit i = true := by
  constructor
  · intro h i hi
    have := anot_bit a b i (by have := lt24_bit ha hi; omega)
    rw [h, Nat.zero_testBit, hi] at this
    simpa using this.symm
  · intro h
    refine nat_zero fun i => ?_
    rcases Bool.eq_false_or_eq_true ((anot a b).testBit i) with e | e
    · have hi := lt24_bit (Nat.lt_of_le_of_lt (anot_le ha) ha) e
      rw [anot_bit a b i (by omega)] at e
      simp only [Bool.and_eq_true, Bool.not_eq_true'] at e
      rw [h i e.1] at e; exact absurd e.2 (by simp)
    · exact e

/-! ### The index of a light -/
theorem lix_some {p : Pln} {x : Int} (h : 0 ≤ lix p x) : ∃ k : Nat, k < p.ls.length ∧ lix p x = (k : Int) ∧ (lgA p k).id = x := by
  unfold lix idxG at *
  cases e : p.ls.findIdx? (fun y => y.id == x) with
  | none => rw [e] at h; exact absurd h (by decide)
  | some k =>
    rw [List.findIdx?_eq_some_iff_getElem] at e
    obtain ⟨hk, e1, -⟩ := e
    exact ⟨k, hk, rfl, by unfold lgA; rw [List.getElem?_eq_getElem hk]; simpa using e1⟩
theorem lix_at {p : Pln} (h : plnOk p = true) {k : Nat} (hk : k < p.ls.length) : lix p (lgA p k).id = k := by
  have h0 : 0 ≤ lix p (lgA p k).id := by
    unfold lix idxG
    cases e : p.ls.findIdx? (fun y => y.id == (lgA p k).id) with
    | none =>
      rw [List.findIdx?_eq_none_iff] at e
      have := e (p.ls[k]) (List.getElem_mem hk)
      unfold lgA at this
      rw [List.getElem?_eq_getElem hk] at this
      simp at this
    | some k => exact Int.natCast_nonneg k
  obtain ⟨j, hj, e, e2⟩ := lix_some h0
  rw [e, plnOk_inj h hj hk e2]
theorem lix_bd (p : Pln) (x : Int) : -1 ≤ lix p x ∧ lix p x < p.ls.length := by
  rcases Int.lt_or_le (lix p x) 0 with h | h
  · unfold lix idxG at *
    cases e : p.ls.findIdx? (fun y => y.id == x) with
    | none => simp; omega
    | some k => rw [e] at h; exact absurd h (by simp)
  · obtain ⟨k, hk, e, -⟩ := lix_some h
    omega

/-! ### Sets of lights that are down -/
def noL (p : Pln) (x : Int) : Bool := decide (lix p x < 0)
def dwOk (p : Pln) (d : List Int) : Bool := plnOk p && (setOk d 1000 && !(d.any (noL p)))
def dmk (p : Pln) (d : List Int) : Nat := d.foldl (fun m x => m ||| 2 ^ (lix p x).toNat) 0
theorem dwOk_parts {p : Pln} {d : List Int} (h : dwOk p d = true) : plnOk p = true ∧ setOk d 1000 = true ∧ ∀ x ∈ d, 0 ≤ lix p x := by
  unfold dwOk at h
  simp only [Bool.and_eq_true, Bool.not_eq_true', List.any_eq_false, noL, decide_eq_true_eq] at h
  exact ⟨h.1, h.2.1, fun x hx => by have := h.2.2 x hx; omega⟩
theorem dmk_take {p : Pln} {d : List Int} {k : Nat} (hk : k < d.length) : dmk p (d.take (k + 1)) = dmk p (d.take k) ||| 2 ^ (lix p (d[k]?.getD 0)).toNat := by
  unfold dmk
  rw [List.take_add_one, List.foldl_append, List.getElem?_eq_getElem hk]
  rfl
theorem dmk_fold (p : Pln) (d : List Int) (m i : Nat) : (d.foldl (fun m x => m ||| 2 ^ (lix p x).toNat) m).testBit i = (m.testBit i || d.any fun x => decide ((lix p x).toNat = i)) := by
  induction d generalizing m with
  | nil => simp
  | cons x d ih => rw [List.foldl_cons, ih, Nat.testBit_or, Nat.testBit_two_pow, List.any_cons, Bool.or_assoc]
theorem dmk_bit (p : Pln) (d : List Int) (i : Nat) : (dmk p d).testBit i = d.any fun x => decide ((lix p x).toNat = i) := by
  unfold dmk; rw [dmk_fold, Nat.zero_testBit, Bool.false_or]
theorem dmk_lt {p : Pln} {d : List Int} (h : ∀ x ∈ d, 0 ≤ lix p x) (h0 : 0 < p.ls.length ∨ d = []) : dmk p d < 2 ^ p.ls.length := by
  unfold dmk
  have : ∀ m, m < 2 ^ p.ls.length → d.foldl (fun m x => m ||| 2 ^ (lix p x).toNat) m < 2 ^ p.ls.length := by
    clear h0
    induction d with
    | nil => exact fun m hm => hm
    | cons x d ih =>
      intro m hm
      rw [List.foldl_cons]
      obtain ⟨k, hk, e, -⟩ := lix_some (h x (List.mem_cons_self ..))
      exact ih (fun y hy => h y (List.mem_cons_of_mem _ hy)) _ (or_lt hm (by rw [e]; exact Nat.pow_lt_pow_right (by omega) hk))
  exact this 0 (Nat.two_pow_pos _)
theorem dmk_lt' {p : Pln} {d : List Int} (h : ∀ x ∈ d, 0 ≤ lix p x) : dmk p d < 2 ^ p.ls.length := by
  cases d with
  | nil => exact Nat.two_pow_pos _
  | cons x d => exact dmk_lt h (.inl (by obtain ⟨k, hk, -⟩ := lix_some (h x (List.mem_cons_self ..)); omega))
theorem dmk_has {p : Pln} {d : List Int} (hp : plnOk p = true) (h : ∀ x ∈ d, 0 ≤ lix p x) {i : Nat} (hi : i < p.ls.length) : (dmk p d).testBit i = d.contains (lgA p i).id := by
  rw [dmk_bit, Bool.eq_iff_iff]
  simp only [List.any_eq_true, decide_eq_true_eq, List.contains_iff_mem]
  constructor
  · rintro ⟨x, hx, e⟩
    obtain ⟨k, hk, e1, e2⟩ := lix_some (h x hx)
    have : k = i := by omega
    subst this
    rw [e2]; exact hx
  · intro hm
    exact ⟨_, hm, by rw [lix_at hp hi]; rfl⟩
/-! ### What groups hit, as a set -/
theorem hts_mem {p : Pln} {gs : List Int} {x : Int} : x ∈ hts p gs ↔ ∃ k : Nat, k < p.ls.length ∧ hitL p gs (lgA p k) = true ∧ (lgA p k).id = x := by
  unfold hts hitTo
  rw [List.take_length, List.mem_map]
  constructor
  · rintro ⟨y, hy, rfl⟩
    rw [List.mem_filter] at hy
    obtain ⟨k, hk, rfl⟩ := List.mem_iff_getElem.mp hy.1
    exact ⟨k, hk, by unfold lgA; rw [List.getElem?_eq_getElem hk]; exact hy.2, by unfold lgA; rw [List.getElem?_eq_getElem hk]; rfl⟩
  · rintro ⟨k, hk, e, rfl⟩
    refine ⟨p.ls[k], List.mem_filter.mpr ⟨List.getElem_mem hk, ?_⟩, ?_⟩
    · unfold lgA at e; rw [List.getElem?_eq_getElem hk] at e; exact e
    · unfold lgA; rw [List.getElem?_eq_getElem hk]; rfl
theorem hts_asc {p : Pln} (h : plnOk p = true) (gs : List Int) : (hts p gs).Pairwise (· < ·) := by
  unfold hts hitTo
  rw [List.take_length, List.pairwise_map]
  refine List.Pairwise.filter _ ?_
  rw [List.pairwise_iff_getElem]
  intro i j hi hj hij
  have := plnOk_id h hij hj
  unfold lgA at this
  rw [List.getElem?_eq_getElem hi, List.getElem?_eq_getElem hj] at this
  exact this
theorem uni_off {p : Pln} {gs : List Int} {i : Nat} (hi : ¬ i < p.ls.length) : (uni (hmks p) gs).testBit i = false := by rw [uni_hit, decide_eq_false hi]; rfl
theorem uni_on {p : Pln} {gs : List Int} {i : Nat} (hi : i < p.ls.length) : (uni (hmks p) gs).testBit i = hitL p gs (lgA p i) := by rw [uni_hit, decide_eq_true hi]; rfl
theorem uni_none {p : Pln} {gs : List Int} : uni (hmks p) gs = 0 ↔ hts p gs = [] := by
  constructor
  · intro h
    refine List.eq_nil_iff_forall_not_mem.mpr fun x hx => ?_
    obtain ⟨k, hk, e, -⟩ := hts_mem.mp hx
    rw [← uni_on hk, h, Nat.zero_testBit] at e
    cases e
  · intro h
    refine nat_zero fun i => ?_
    by_cases hi : i < p.ls.length
    · rw [uni_on hi]
      cases e : hitL p gs (lgA p i)
      · rfl
      · have := hts_mem.mpr ⟨i, hi, e, rfl⟩
        rw [h] at this; cases this
    · exact uni_off hi
theorem uni_sub {p : Pln} {gs d : List Int} (h : dwOk p d = true) : anot (uni (hmks p) gs) (dmk p d) = 0 ↔ ∀ x ∈ hts p gs, x ∈ d := by
  obtain ⟨h1, h2, h3⟩ := dwOk_parts h
  rw [anot_zero (le12 (uni_lt (hmks_mem p)) (plnOk_sz h1).2.1)]
  constructor
  · intro e x hx
    obtain ⟨k, hk, ek, rfl⟩ := hts_mem.mp hx
    have := e k (by rw [uni_on hk]; exact ek)
    rw [dmk_has h1 h3 hk] at this
    simpa using this
  · intro e i hi
    by_cases hl : i < p.ls.length
    · rw [uni_on hl] at hi
      rw [dmk_has h1 h3 hl]
      have := e _ (hts_mem.mpr ⟨i, hl, hi, rfl⟩)
      simpa using this
    · rw [uni_off hl] at hi; cases hi
theorem uni_one (ms : List Nat) (g : Int) : uni ms [g] = ms[g.toNat]?.getD 0 := by unfold uni; simp

/-! ### Suspects and explanations -/
def susB (p : Pln) (d : List Int) (g : Int) : Bool := !(hts p [g]).isEmpty && (hts p [g]).all fun x => d.contains x
def susTo (p : Pln) (d : List Int) (k : Nat) : List Int := ((List.range k).filter fun i : Nat => susB p d i).map fun i : Nat => (i : Int)
def sps (p : Pln) (d : List Int) : List Int := susTo p d (grps p.n).length
def expB (p : Pln) (d gs : List Int) : Bool := decide (hts p gs = d) && !(gs.any fun g => (hts p [g]).isEmpty)
theorem susTo_yes {p : Pln} {d : List Int} {k : Nat} (h : susB p d k = true) : susTo p d (k + 1) = susTo p d k ++ [(k : Int)] := by
  unfold susTo; rw [List.range_succ, List.filter_append]; simp [h]
theorem susTo_no {p : Pln} {d : List Int} {k : Nat} (h : susB p d k = false) : susTo p d (k + 1) = susTo p d k := by
  unfold susTo; rw [List.range_succ, List.filter_append]; simp [h]
theorem susTo_len (p : Pln) (d : List Int) (k : Nat) : (susTo p d k).length ≤ k := by
  unfold susTo; rw [List.length_map]; exact Nat.le_trans (List.length_filter_le _ _) (by simp)
theorem susB_none {p : Pln} {d : List Int} {g : Int} (h : ¬ 0 < (hts p [g]).length) : susB p d g = false := by
  have : hts p [g] = [] := List.eq_nil_of_length_eq_zero (by omega)
  unfold susB; rw [this]; rfl
theorem filter_full {xs : List Int} {f : Int → Bool} : (xs.filter f).length = xs.length ↔ xs.all f = true := by
  rw [List.length_filter_eq_length_iff, List.all_eq_true]
theorem susB_impl {p : Pln} {d : List Int} (hp : plnOk p = true) {g : Int} (h : 0 < (hts p [g]).length) : susB p d g = decide ((ust (cmn (hts p [g]) d)).length = (hts p [g]).length) := by
  have h1 : (hts p [g]).isEmpty = false := by cases e : hts p [g] with | nil => rw [e] at h; exact absurd h (by simp) | cons x xs => rfl
  have h2 : ust (cmn (hts p [g]) d) = cmn (hts p [g]) d := ust_of ((hts_asc hp [g]).filter _) fun x => Iff.rfl
  unfold susB
  rw [h1, h2]
  unfold cmn
  rw [Bool.eq_iff_iff]
  simp [filter_full]
theorem susB_spec {p : Pln} {d : List Int} (hd : dwOk p d = true) {g : Int} : susB p d g = (decide (¬ (hmks p)[g.toNat]?.getD 0 = 0) && decide (anot ((hmks p)[g.toNat]?.getD 0) (dmk p d) = 0)) := by
  rw [← uni_one (hmks p) g]
  unfold susB
  rw [Bool.eq_iff_iff]
  have h1 := @uni_none p [g]
  have h2 := @uni_sub p [g] d hd
  simp only [Bool.and_eq_true, Bool.not_eq_true', decide_eq_true_eq, h1, h2, List.all_eq_true, List.isEmpty_eq_false_iff, List.contains_iff_mem, ne_eq]
end Go.Proofs.YtmkkdenhjfjmgaaGreat
namespace Go.Proofs.YtmkkdenhjfjmgaaGreat
open Go.RowKit Go.Sort
set_option maxRecDepth 100000

/-- Only blocks of T have been written, and new ones; what T' adds is new. -/
structure Mv (T T' : Nat → Prop) (w w' : World) : Prop where
  os : w'.os = w.os
  tape : w'.tape = w.tape
  output : w'.output = w.output
  size : w.heap.size ≤ w'.heap.size
  block : ∀ g, g < w.heap.size → ¬ T g → w'.heap[g]? = w.heap[g]?
  old : ∀ g, T' g → T g ∨ w.heap.size ≤ g
theorem Mv.refl (T : Nat → Prop) (w : World) : Mv T T w w := ⟨rfl, rfl, rfl, Nat.le_refl _, fun _ _ _ => rfl, fun _ h => .inl h⟩
theorem Mv.trans {T T' T'' : Nat → Prop} {a b c : World} (h : Mv T T' a b) (k : Mv T' T'' b c) : Mv T T'' a c :=
  ⟨k.os.trans h.os, k.tape.trans h.tape, k.output.trans h.output, Nat.le_trans h.size k.size, fun g hg hn => by
    rw [k.block g (Nat.lt_of_lt_of_le hg h.size) (fun e => (h.old g e).elim hn (fun e => by omega)), h.block g hg hn], fun g hg => by
    rcases k.old g hg with e | e
    · exact h.old g e
    · exact .inr (Nat.le_trans h.size e)⟩
theorem Mv.of_below {T : Nat → Prop} {a b : World} (h : Below a.heap.size a b) : Mv T T a b := ⟨h.os, h.tape, h.output, h.size, fun k hk _ => h.block k hk, fun _ h => .inl h⟩
theorem Mv.below {T T' : Nat → Prop} {a b u : World} {N : Nat} (h : Mv T T' a b) (hb : Below N u a) (hN : N ≤ a.heap.size) (hT : ∀ g, T g → N ≤ g) : Below N u b :=
  ⟨h.os.trans hb.os, h.tape.trans hb.tape, h.output.trans hb.output, Nat.le_trans hb.size h.size, fun k hk => by rw [h.block k (Nat.lt_of_lt_of_le hk hN) (fun e => by have := hT k e; omega), hb.block k hk]⟩
theorem Own.keptM {w w' : World} {base : Nat} {v : Value} {xs : List Int} {T T' : Nat → Prop} (h : Own w base v xs) (hm : Mv T T' w w') (hT : ∀ g, v.ownBlock = some g → ¬ T g) : Own w' base v xs := by
  rcases h with h | ⟨g, off, cap, cur, rfl, h1, ⟨T, h2⟩, h3⟩
  · exact .inl h
  · exact .inr ⟨g, off, cap, cur, rfl, h1, ⟨T, by rw [hm.block g (Array.getElem?_eq_some_iff.1 h2).1 (hT g rfl)]; exact h2⟩, h3⟩
theorem ints_get {ys : List Int} {j : Nat} {v : Value} (h : (ints ys)[j]? = some v) : j < ys.length ∧ v = .int .i64 (ys[j]?.getD 0) := by
  have hj : j < ys.length := by
    have := (List.getElem?_eq_some_iff.1 h).1
    simpa using this
  refine ⟨hj, ?_⟩
  simp only [ints, List.getElem?_map, List.getElem?_eq_getElem hj, Option.map_some, Option.some.injEq] at h
  simp [List.getElem?_eq_getElem hj, h.symm]
theorem full_ok {w : World} {v : Value} {xs : List Int} (h : Rd w v xs) : ∃ a cap, v = .slice a xs.length cap ∧ xs.length ≤ cap ∧ (a = none → xs.length = 0 ∧ cap = 0) ∧ ∀ b, a = some b → ∀ j u, (ints xs)[j]? = some u → w.cell? (b.add j) = some u := by
  rcases h with ⟨rfl, rfl⟩ | ⟨b, off, cap, rfl, h1, h2, h3, h4⟩
  · exact ⟨none, 0, rfl, by simp, by simp, by simp⟩
  · refine ⟨_, cap, rfl, h1, by simp, fun b' hb j u hu => ?_⟩
    simp only [Option.some.injEq] at hb
    subst hb
    obtain ⟨hj, rfl⟩ := ints_get hu
    rw [show (⟨b, off, none⟩ : Addr).add j = ⟨b, off + j, none⟩ by simp [Addr.add]]
    exact h4 j hj
theorem full_opn {w : World} {v : Value} {xs : List Int} (h : Rd w v xs) : ∃ a cap n, Hid (xs.length = n) ∧ v = .slice a n cap ∧ n ≤ cap ∧ (a = none → n = 0 ∧ cap = 0) := by
  obtain ⟨a, cap, hv, h1, h2, _⟩ := full_ok h
  exact ⟨a, cap, xs.length, rfl, hv, h1, h2⟩
end Go.Proofs.YtmkkdenhjfjmgaaGreat
namespace Go.Proofs.YtmkkdenhjfjmgaaGreat
open Go.RowKit Go.Sort
set_option maxRecDepth 100000

set_option maxHeartbeats 800000 in
theorem l1OwnE_any (v : Value) (xs : List Int) (w : World) (h : Rd w v xs) (hl : xs.length ≤ 900000) :
    Calls Tryz.prog 163 #[v] w fun e w' => ∃ v', e = .returned v' ∧ w'.ownsRow w.heap.size 3 1 v' xs.length (ints xs) ∧ Below w.heap.size w w' := by
  have hb0 := ((Below.refl w.heap.size w).alloc (Nat.le_refl _) (.cells #[] 3))
  have HOWN0 := Lib.hid (World.ownsRow_lit (base := w.heap.size) (e := 3) (size := 1) w #[] 0 (Nat.le_refl _) (by simp) rfl)
  have hrd := h.belowAll hb0
  obtain ⟨a, cap, n, HN, rfl, hcap, hnone⟩ := full_opn h
  obtain ⟨a', cap', n', HN', e, _, _, hc⟩ := hrd.opn
  simp only [Value.slice.injEq] at e
  obtain ⟨rfl, rfl, rfl⟩ := e
  have HC := Lib.hid (fun h0 => by
    obtain ⟨b, off, e1, e2, e3⟩ := hc h0
    exact (⟨b, off, e1, e3⟩ : ∃ b off, a = some ⟨b, off, none⟩ ∧ ∀ j, j < n → (w.alloc (.cells #[] 3)).cell? ⟨b, off + j, none⟩ = some (.int .i64 (xs[j]?.getD 0))))
  have HNO := Lib.hid hnone
  have HB0 := Lib.hid hb0
  have hn : n ≤ 900000 := by have := HN.out; omega
  rw [HN.out]
  clear hc hrd h hb0 hl HN' hnone
  go_enter Tryz.func163, Tryz.ntmps163
  go_wp2_with (at_builtin; go_loud (refine wpList_catA rfl (.tmp 3) (.tmp 4) 29 rfl Tryz.underlying29 Tryz.infoInt w.heap.size (.slice (some ⟨w.heap.size, 0, none⟩) 0 0) 0 [] rfl HOWN0.out a n cap xs rfl HN.out HNO.out HC.out (by omega) (by simp) ?_); intro v' w1 hown1 hgrow1)
  go_ret
  exact ⟨_, rfl, by simpa using hown1, HB0.out.grown hgrow1 (by simp) (fun k hk => by have e : w.heap.size = k := (by simpa [Value.ownBlock] using hk); exact Nat.le_of_eq e)⟩
end Go.Proofs.YtmkkdenhjfjmgaaGreat
namespace Go.Proofs.YtmkkdenhjfjmgaaGreat
open Go.RowKit Go.Sort
set_option maxRecDepth 100000
theorem below_mono2 {w2 wr wx : World} (h : Below wr.heap.size wr wx) (h2 : Below w2.heap.size w2 wr) : Below w2.heap.size w2 wx := h2.trans (h.mono h2.size)
set_option maxHeartbeats 3200000 in
theorem l4Walk_any (u1 u2 v3 : Value) (n : Net) (r : Rou) (w : World) (h : NetR w (.agg #[u1, u2]) n) (hr : Rd w v3 r.fb) (hl : r.fb.length ≤ 1100000) :
    Calls Tryz.prog 209 #[.agg #[u1, u2], .agg #[.int .i64 r.st, v3]] w (VisP (rouN n r) w) := by
  obtain ⟨x1, x2, e, r1, r2, hsm⟩ := h
  simp only [Value.agg.injEq, Array.mk.injEq, List.cons.injEq, and_true] at e
  obtain ⟨rfl, rfl⟩ := e
  obtain ⟨a1, m1, c1, rfl, HN1, hc1, hm1, -⟩ := flt_opn (m := 1) (enc := strE) (fun _ => rfl) (by omega) nilS r1
  obtain ⟨a2, m2, c2, rfl, HN2, hc2, hm2, ha2⟩ := flt_opn (m := 4) (enc := fibE) (fun _ => rfl) (by omega) nilB r2
  obtain ⟨a3, c3, m3, HN3, rfl, hc3, hm3, ha3⟩ := hr.opn
  have HO1 := Lib.hid (@rouN_no1 n r)
  have HO2 := Lib.hid (@rouN_no2 n r)
  have HO3 := Lib.hid (@rouN_go n r)
  rw [HN1.out] at HO1 HO3
  rw [HN3.out] at HO2 HO3
  have HR2 := Lib.hid r2
  have HX := Lib.hid (fun w' a m c (hb : Below w.heap.size w w') (e : rouN n r = none) => @VisP.no (rouN n r) w w' a m c e hb)
  have HY := Lib.hid (fun w' a m c xs (hb : Below w.heap.size w w') (ho : Own w' w.heap.size (.slice a m c) xs) (e : rouN n r = some xs) => @VisP.yes (rouN n r) w w' a m c xs e ho hb)
  have h10 : m3 ≤ 1100000 := by have := HN3.out; omega
  have HA2 := Lib.hid ha2
  have HA3 := Lib.hid ha3
  obtain ⟨bx, bc, blt, -⟩ := box_facts w #[.slice a1 m1 c1, .slice a2 m2 c2] 35
  obtain ⟨by', bd, bmt, -⟩ := box_facts (w.alloc (.cells #[.slice a1 m1 c1, .slice a2 m2 c2] 35)) #[.int .i64 r.st, .slice a3 m3 c3] 90
  have q0 := (by'.cell (p := ⟨w.heap.size, 0, none⟩) blt).trans (bc 0 _ rfl)
  have q1 := (by'.cell (p := ⟨w.heap.size, 1, none⟩) blt).trans (bc 1 _ rfl)
  have q2 := bd 0 _ rfl
  have q3 := bd 1 _ rfl
  have hs1 : (w.alloc (.cells #[.slice a1 m1 c1, .slice a2 m2 c2] 35)).heap.size = w.heap.size + 1 := by simp
  rw [hs1] at q2 q3 bmt
  have HBX := Lib.hid (bx.trans (by'.mono bx.size))
  have blt2 := Nat.lt_of_lt_of_le blt by'.size
  clear bc bd bx by' hs1 ha2 ha3 r1 r2 blt hr
  go_enter Tryz.func209, Tryz.ntmps209
  have hs2 : ((w.alloc (.cells #[.slice a1 m1 c1, .slice a2 m2 c2] 35)).alloc (.cells #[.int .i64 r.st, .slice a3 m3 c3] 90)).heap.size = w.heap.size + 1 + 1 := by simp
  have HO0 := Lib.hid (show Own (((w.alloc (.cells #[.slice a1 m1 c1, .slice a2 m2 c2] 35)).alloc (.cells #[.int .i64 r.st, .slice a3 m3 c3] 90)).alloc (.cells #[.int .i64 r.st] 3)) ((w.alloc (.cells #[.slice a1 m1 c1, .slice a2 m2 c2] 35)).alloc (.cells #[.int .i64 r.st, .slice a3 m3 c3] 90)).heap.size (.slice (some ⟨w.heap.size + 1 + 1, 0, none⟩) 1 1) [r.st] by rw [← hs2]; exact own_one _ r.st 3)
  have HB0 := Lib.hid ((Below.refl ((w.alloc (.cells #[.slice a1 m1 c1, .slice a2 m2 c2] 35)).alloc (.cells #[.int .i64 r.st, .slice a3 m3 c3] 90)).heap.size ((w.alloc (.cells #[.slice a1 m1 c1, .slice a2 m2 c2] 35)).alloc (.cells #[.int .i64 r.st, .slice a3 m3 c3] 90))).alloc (Nat.le_refl _) (.cells #[.int .i64 r.st] 3))
  clear hs2
  have t0 := (HB0.out.cell blt2).trans q0
  have t1 := (HB0.out.cell blt2).trans q1
  have t2 := (HB0.out.cell bmt).trans q2
  have t3 := (HB0.out.cell bmt).trans q3
  cases hin : inB r.st 0 ((m1 : Int) - 1)
  · have HE := Lib.hid (HO1.out hin)
    go_wp2_with (go_at_call 86; refine (l1In_any _ _ _ _).mono ?_; rintro e w' ⟨rfl, rfl⟩; rw [hin])
    go_ret2
    exact HX.out _ _ _ _ (HBX.out.trans (HB0.out.mono HBX.out.size)) HE.out
  by_cases h0 : m3 = 0
  · have HE := Lib.hid (HO2.out h0)
    have b1 : ((m3 : Int) == 0) = true := by rw [beq_iff_eq]; omega
    have b2 : decide ((m3 : Int) = 0) = true := decide_eq_true (by omega)
    clear h0
    go_wp2_with (go_at_call 86; refine (l1In_any _ _ _ _).mono ?_; rintro e w' ⟨rfl, rfl⟩; rw [hin])
    go_ret2
    exact HX.out _ _ _ _ (HBX.out.trans (HB0.out.mono HBX.out.size)) HE.out
  have HE := Lib.hid (HO3.out hin h0)
  have b1 : ((m3 : Int) == 0) = false := by rw [beq_eq_false_iff_ne]; omega
  have b2 : decide ((m3 : Int) = 0) = false := decide_eq_false (by omega)
  clear h0
  go_wp2_with (go_at_call 86; refine (l1In_any _ _ _ _).mono ?_; rintro e w' ⟨rfl, rfl⟩; rw [hin])
  generalize (w.alloc (.cells #[.slice a1 m1 c1, .slice a2 m2 c2] 35)).alloc (.cells #[.int .i64 r.st, .slice a3 m3 c3] 90) = w2 at *
  generalize w2.alloc (.cells #[.int .i64 r.st] 3) = w3 at *
  have blt3 := Nat.lt_of_lt_of_le blt2 HB0.out.size
  have bmt3 := Nat.lt_of_lt_of_le bmt HB0.out.size
  clear b1 b2 hin t0 t1 t2 t3
  go_loopw [6, 7, 8] (fun s6 i _ wr => ∃ (k : Nat) (out : List Int) (t : Int), k ≤ m3 ∧ i = .int .i64 k ∧ Hid (out[k]?.getD 0 = t) ∧ Hid (Own wr w2.heap.size s6 out) ∧ Hid (out.length = k + 1) ∧ Hid (wlk n [r.st] r.st r.fb = wlk n out t (r.fb.drop k)) ∧ Hid (Below w2.heap.size w2 wr)) (fun _ i _ _ => m3 - (intOf i).toNat)
  case atStart => exact ⟨0, [r.st], r.st, Nat.zero_le _, rfl, rfl, HO0.out, rfl, rfl, HB0.out⟩
  case round =>
    obtain ⟨k, out, t, hk, rfl, HLT, HOW, HLN, HW, HB⟩ := hrel
    obtain ⟨aR, cR, nR, HNR, rfl, hcR, hnR, hcl⟩ := HOW.out.rd.opn
    by_cases hlt : k < m3
    · have hltI : (k : Int) < (m3 : Int) := by omega
      have HST := Lib.hid (wlk_step (n := n) (out := out) (t := t) (xs := r.fb) (k := k) (by rw [HN3.out]; exact hlt))
      rw [HN2.out] at HST
      obtain ⟨b, off, rfl, hbs, hcs⟩ := HA3.out (by omega)
      have p0 := (HB.out.cell (p := ⟨w.heap.size, 0, none⟩) blt2).trans q0
      have p1 := (HB.out.cell (p := ⟨w.heap.size, 1, none⟩) blt2).trans q1
      have p2 := (HB.out.cell (p := ⟨w.heap.size + 1, 0, none⟩) bmt).trans q2
      have p3 := (HB.out.cell (p := ⟨w.heap.size + 1, 1, none⟩) bmt).trans q3
      have c0 := (HB.out.cell (p := ⟨b, off + k, none⟩) (Nat.lt_of_lt_of_le hbs HBX.out.size)).trans ((HBX.out.cell (p := ⟨b, off + k, none⟩) hbs).trans (hcs k hlt))
      have hnk : nR = k + 1 := by have := HNR.out; have := HLN.out; omega
      have hkR : k < nR := by omega
      have hkRI : (k : Int) < (nR : Int) := by omega
      have f1w : IntKind.i64.wrap ((nR : Int) - 1) = (k : Int) := by rw [IntWalk.i64_in _ (by omega)]; omega
      obtain ⟨bo, oo, rfl, hbo, hco⟩ := hcl (by omega)
      have k0 := hco k hkR
      rw [HLT.out] at k0
      have f2w : IntKind.i64.wrap ((m2 : Int) - 1) = (m2 : Int) - 1 := IntWalk.i64_in _ (by omega)
      clear hnk hco
      clear hcs
      generalize r.fb[k]?.getD 0 = x at *
      cases hix : inB x 0 ((m2 : Int) - 1)
      · rw [hix] at HST
        have HF := Lib.hid (HE.out.trans (HW.out.trans HST.out))
        have HIN := Lib.hid (fun w => l1In_any x 0 ((m2 : Int) - 1) w)
        rw [hix] at HIN
        clear hix
        go_wp2
        have j1 := rg p1
        have j3 := rg p3
        have jc := rg c0
        clear p0 p1 p2 p3 c0 k0
        refine wp_region_quiet_below (by kernel_rfl) (by kernel_rfl) ?_
        repeat (go_big_quiet_step (first | (go_at_call 86; exact rg_same (HIN.out _))))
        refine wpQuiet_nil ?_
        rintro _ ⟨⟨dq, osq⟩, rfl⟩
        have bq := below_regrown wr dq osq
        generalize grow (redrawn wr dq) osq = w4 at *
        go_wp2
        go_ret2
        exact HX.out _ _ _ _ ((HBX.out.trans (HB.out.mono HBX.out.size)).trans (bq.mono (Nat.le_trans HBX.out.size HB.out.size))) HF.out
      rw [hix] at HST
      obtain ⟨hx0, hx9⟩ := inB_true hix
      obtain ⟨j, rfl⟩ : ∃ j : Nat, x = (j : Int) := ⟨x.toNat, by omega⟩
      have hj : j < m2 := by omega
      have hjI : (j : Int) < (m2 : Int) := by omega
      have HOE := Lib.hid (fun wx (hb : Below wr.heap.size wr wx) => l2Other_any (.slice a1 m1 c1) (.slice a2 m2 c2) n j t wx ((HR2.out.behind HBX.out).behind (below_mono2 hb HB.out)) ⟨_, _, _, rfl⟩ (by rw [HN2.out]; exact hj))
      have HIN := Lib.hid (fun w => l1In_any (j : Int) 0 ((m2 : Int) - 1) w)
      rw [hix] at HIN
      unfold fbA at HOE
      have HST2 := Lib.hid (show wlk n out t (r.fb.drop k) = (if othE (n.fs[j]?.getD nilB) t < 0 ∨ othE (n.fs[j]?.getD nilB) t ∈ out then none else wlk n (out ++ [othE (n.fs[j]?.getD nilB) t]) (othE (n.fs[j]?.getD nilB) t) (r.fb.drop (k + 1))) from HST.out)
      clear HST hx0 hx9 hix
      generalize n.fs[j]?.getD nilB = f at *
      generalize othE f t = o at *
      go_wp2
      have j1 := rg p1
      have j3 := rg p3
      have jc := rg c0
      refine wp_region_quiet_below (by kernel_rfl) (by kernel_rfl) ?_
      repeat (go_big_quiet_step (first | (go_at_call 86; exact rg_same (HIN.out _))))
      refine wpQuiet_nil ?_
      rintro _ ⟨⟨dq, osq⟩, rfl⟩
      have bq := below_regrown wr dq osq
      have p0 := (bq.cell (World.block_lt_of_cell? _ _ p0)).trans p0
      have p1 := j1 dq osq
      have p3 := j3 dq osq
      have c0 := jc dq osq
      have k0 := (bq.cell (World.block_lt_of_cell? _ _ k0)).trans k0
      clear j1 j3 jc
      have HBQ := Lib.hid bq
      generalize grow (redrawn wr dq) osq = wq at *
      go_wp2
      have j0 := rg p0
      have j1 := rg p1
      have j3 := rg p3
      have jc := rg c0
      have jk := rg k0
      have HOQ := Lib.hid (fun d os => HOE.out (grow (redrawn wq d) os) (HBQ.out.trans ((below_regrown wq d os).mono HBQ.out.size)))
      clear p0 p1 p3 c0 k0 bq
      refine wp_region_quiet_below (by kernel_rfl) (by kernel_rfl) ?_
      repeat (go_big_quiet_step (first | (go_at_call 194; exact Calls.regrown_of (HOQ.out _ _))))
      refine wpQuiet_nil ?_
      rintro _ ⟨⟨dq2, osq2⟩, rfl⟩
      have b4 := HBQ.out.trans ((below_regrown wq dq2 osq2).mono HBQ.out.size)
      generalize grow (redrawn wq dq2) osq2 = w4 at *
      clear j0 j1 j3 jc jk
      have HB4 := Lib.hid (HB.out.trans (b4.mono HB.out.size))
      have HOW4 := Lib.hid (HOW.out.belowAll b4)
      have HC4 := Lib.hid (l1Has_any _ out o w4 HOW4.out.rd)
      clear b4 HOE
      by_cases ho : o < 0
      · have HF := Lib.hid (HE.out.trans (HW.out.trans (HST2.out.trans (if_pos (.inl ho)))))
        have hd : decide (o < 0) = true := decide_eq_true ho
        clear ho
        go_wp2
        go_ret2
        exact HX.out _ _ _ _ (HBX.out.trans (HB4.out.mono HBX.out.size)) HF.out
      have hd : decide (o < 0) = false := decide_eq_false ho
      cases hcn : out.contains o
      case true =>
        have HF := Lib.hid (HE.out.trans (HW.out.trans (HST2.out.trans (if_pos (.inr (List.contains_iff_mem.1 hcn))))))
        rw [hcn] at HC4
        clear ho
        go_wp2_with (go_at_call 97; refine (HC4.out).mono ?_; rintro e w' ⟨rfl, rfl⟩)
        go_ret2
        exact HX.out _ _ _ _ (HBX.out.trans (HB4.out.mono HBX.out.size)) HF.out
      have HF := Lib.hid (HW.out.trans (HST2.out.trans (if_neg (fun h => h.elim ho (fun h => by rw [List.contains_iff_mem.2 h] at hcn; cases hcn)))))
      rw [hcn] at HC4
      clear ho hcn
      have HLO := Lib.hid (show out.length ≤ 4000000 by have := HLN.out; omega)
      go_wp2_with (first
        | (go_at_call 97; refine (HC4.out).mono ?_; rintro e w' ⟨rfl, rfl⟩)
        | (at_builtin; go_loud (refine wpList_pushI rfl (.tmp 67) (.tmp 69) 29 rfl Tryz.underlying29 Tryz.infoI w2.heap.size (.slice (some ⟨bo, oo, none⟩) nR cR) out rfl HOW4.out rfl HLO.out HB4.out.size ?_); intro v5 w5 o5 g5 l5; have HO5 := Lib.hid o5; have HB5 := Lib.hid (HB4.out.grown g5 HB4.out.size (fun q hq => (HOW4.out.lt q hq).1)); clear o5 g5 l5))
      go_roundw
      case rel => exact ⟨k + 1, out ++ [o], o, hlt, by go_num, by show (out ++ [o])[k + 1]?.getD 0 = o; rw [List.getElem?_append_right (Nat.le_of_eq HLN.out), HLN.out]; simp, HO5.out, by show (out ++ [o]).length = k + 1 + 1; rw [List.length_append, HLN.out]; rfl, HF.out, HB5.out⟩
      case measure => simp [intOf]; omega
    · obtain rfl : m3 = k := by omega
      have HF := Lib.hid (show rouN n r = some out by rw [HE.out, HW.out, List.drop_of_length_le (Nat.le_of_eq HN3.out)]; rfl)
      have p3 := (HB.out.cell (p := ⟨w.heap.size + 1, 1, none⟩) bmt).trans q3
      go_wp2
      go_ret2
      exact HY.out _ _ _ _ _ (HBX.out.trans (HB.out.mono HBX.out.size)) (HOW.out.mono HBX.out.size) HF.out
end Go.Proofs.YtmkkdenhjfjmgaaGreat
