/- Joined: XUse XCol XCos XGroW XLgo XFni XSusP XChoP XMinP. -/
import Derived.Test.YtmkkdenhjfjmgaaGreatBf07
import Derived.Lib.QuietBelow
import Derived.Deep.RegionHeld3
import Derived.Test.YtmkkdenhjfjmgaaGreatBf04
import Derived.Test.YtmkkdenhjfjmgaaGreatBf02
import Derived.Test.YtmkkdenhjfjmgaaGreatBf06
namespace Go.Proofs.YtmkkdenhjfjmgaaGreat
open Go.RowKit Go.Sort
set_option maxRecDepth 100000

theorem meets_yes {xs ys : List Int} {k : Nat} (hk : k < xs.length) (h : ys.contains (xs[k]?.getD 0) = true) : meets xs ys = true := by
  rw [List.getElem?_eq_getElem hk] at h
  unfold meets
  rw [List.any_eq_true]
  exact ⟨xs[k], List.getElem_mem hk, h⟩
theorem meets_more {xs ys : List Int} {k : Nat} (hk : k < xs.length) (h : meets (xs.take k) ys = false) (h2 : ys.contains (xs[k]?.getD 0) = false) : meets (xs.take (k + 1)) ys = false := by
  rw [List.getElem?_eq_getElem hk] at h2
  unfold meets at h ⊢
  rw [List.take_add_one, List.any_append, h, List.getElem?_eq_getElem hk]
  simpa using h2
theorem meets_cmn (xs ys : List Int) : meets xs ys = decide (0 < (ust (cmn xs ys)).length) := by
  rw [Bool.eq_iff_iff, decide_eq_true_eq]
  unfold meets
  rw [List.any_eq_true]
  constructor
  · rintro ⟨x, hx, hy⟩
    have : x ∈ ust (cmn xs ys) := ust_mem.2 (List.mem_filter.2 ⟨hx, hy⟩)
    exact List.length_pos_of_mem this
  · intro h
    obtain ⟨x, hx⟩ := List.exists_mem_of_length_pos h
    have := List.mem_filter.1 (ust_mem.1 hx)
    exact ⟨x, this.1, this.2⟩
set_option maxHeartbeats 1600000 in
theorem l4Uses_any (va vb : Value) (r : Rou) (ys : List Int) (w : World) (ha : Rd w va r.fb) (hb : Rd w vb ys) :
    Calls Tryz.prog 105 #[.agg #[.int .i64 r.st, va], vb] w fun e w' => e = .returned (.bool (meets r.fb ys)) ∧ Below w.heap.size w w' := by
  obtain ⟨a, ca, n, HN, rfl, _, hn, hca⟩ := ha.opn
  have HC := Lib.hid (fun x w' (hw : Below w.heap.size w w') => l1Has_any vb ys x w' (hb.belowAll hw))
  obtain ⟨b, cb, m, -, rfl, -, -, -⟩ := hb.opn
  obtain ⟨bx, bc, blt, -⟩ := box_facts w #[.int .i64 r.st, .slice a n ca] 90
  have q1 := bc 1 _ rfl
  have HBX := Lib.hid bx
  have HA := Lib.hid hca
  have HY := Lib.hid (fun k h1 h2 => @meets_yes r.fb ys k h1 h2)
  have HZ := Lib.hid (fun k h1 h2 h3 => @meets_more r.fb ys k h1 h2 h3)
  have HT := Lib.hid (show r.fb.take n = r.fb from List.take_of_length_le (Nat.le_of_eq HN.out))
  rw [HN.out] at HY HZ
  clear hca ha hb bc bx
  generalize hxs : r.fb = xs at *
  go_enter Tryz.func105, Tryz.ntmps105
  go_wp2
  generalize w.alloc (.cells #[.int .i64 r.st, .slice a n ca] 90) = w2 at *
  go_loopw [5] (fun i wr => ∃ k : Nat, k ≤ n ∧ i = .int .i64 k ∧ Hid (meets (xs.take k) ys = false) ∧ wr = w2) (fun i _ => n - (intOf i).toNat)
  case atStart => exact ⟨0, Nat.zero_le _, rfl, rfl, rfl⟩
  case round =>
    obtain ⟨k, hk, rfl, HM, rfl⟩ := hrel
    by_cases hlt : k < n
    · have hltI : (k : Int) < (n : Int) := by omega
      obtain ⟨b', off, rfl, hbs, hcs⟩ := HA.out (by omega)
      have c0 := (HBX.out.cell (p := ⟨b', off + k, none⟩) hbs).trans (hcs k hlt)
      have HY1 := Lib.hid (HY.out k hlt)
      have HZ1 := Lib.hid (HZ.out k hlt HM.out)
      have HC1 := Lib.hid (HC.out (xs[k]?.getD 0) wr HBX.out)
      clear hcs
      generalize xs[k]?.getD 0 = x at *
      cases hcn : ys.contains x
      · have HE := Lib.hid (HZ1.out hcn)
        rw [hcn] at HC1
        clear hcn
        go_wp2_with (go_at_call 97; refine (HC1.out).mono ?_; rintro e w' ⟨rfl, rfl⟩)
        go_roundw
        case rel => exact ⟨k + 1, hlt, by go_num, HE.out, trivial⟩
        case measure => simp [intOf]; omega
      · have HE := Lib.hid (HY1.out hcn)
        rw [hcn] at HC1
        clear hcn
        go_wp2_with (go_at_call 97; refine (HC1.out).mono ?_; rintro e w' ⟨rfl, rfl⟩)
        go_ret
        exact ⟨by rw [HE.out]; rfl, HBX.out⟩
    · obtain rfl : n = k := by omega
      rw [HT.out] at HM
      go_wp2
      go_ret
      exact ⟨by rw [HM.out]; rfl, HBX.out⟩
end Go.Proofs.YtmkkdenhjfjmgaaGreat
namespace Go.Proofs.YtmkkdenhjfjmgaaGreat
open Go.RowKit Go.Sort
set_option maxRecDepth 100000

set_option maxHeartbeats 1600000 in
theorem collide_any (v1 v2 : Value) (x y : Lgt) (w : World) (h1 : Rd w v1 x.fb) (h2 : Rd w v2 y.fb) (hb1 : blkOk x.fi x.ct = true) (hb2 : blkOk y.fi y.ct = true) (hl : x.fb.length ≤ 1100000) :
    Calls Tryz.prog 136 #[.agg #[.int .i64 x.id, .int .i64 x.st, v1, .int .i64 x.fi, .int .i64 x.ct], .agg #[.int .i64 y.id, .int .i64 y.st, v2, .int .i64 y.fi, .int .i64 y.ct]] w fun e w' => e = .returned (.bool (collB x y)) ∧ Below w.heap.size w w' := by
  have HC := Lib.hid (fun w' (hb : Below w.heap.size w w') => common_any v1 v2 x.fb y.fb w' (h1.belowAll hb) (h2.belowAll hb) hl)
  have HM := Lib.hid (meets_cmn x.fb y.fb)
  have hd1 := blkOk_bd hb1
  have hd2 := blkOk_bd hb2
  obtain ⟨a1, c1, m1, -, rfl, -, -, -⟩ := h1.opn
  obtain ⟨a2, c2, m2, -, rfl, -, -, -⟩ := h2.opn
  have HF := Lib.hid (show collB x y = (decide (x.fi < y.fi + y.ct ∧ y.fi < x.fi + x.ct) && meets x.fb y.fb) from rfl)
  obtain ⟨bx, bc, blt, -⟩ := box_facts w #[.int .i64 x.id, .int .i64 x.st, .slice a1 m1 c1, .int .i64 x.fi, .int .i64 x.ct] 94
  obtain ⟨by', bd, bmt, -⟩ := box_facts (w.alloc (.cells #[.int .i64 x.id, .int .i64 x.st, .slice a1 m1 c1, .int .i64 x.fi, .int .i64 x.ct] 94)) #[.int .i64 y.id, .int .i64 y.st, .slice a2 m2 c2, .int .i64 y.fi, .int .i64 y.ct] 94
  have q2 := (by'.cell (p := ⟨w.heap.size, 2, none⟩) blt).trans (bc 2 _ rfl)
  have q3 := (by'.cell (p := ⟨w.heap.size, 3, none⟩) blt).trans (bc 3 _ rfl)
  have q4 := (by'.cell (p := ⟨w.heap.size, 4, none⟩) blt).trans (bc 4 _ rfl)
  have l2 := bd 2 _ rfl
  have l3 := bd 3 _ rfl
  have l4 := bd 4 _ rfl
  have hs1 : (w.alloc (.cells #[.int .i64 x.id, .int .i64 x.st, .slice a1 m1 c1, .int .i64 x.fi, .int .i64 x.ct] 94)).heap.size = w.heap.size + 1 := by simp
  rw [hs1] at l2 l3 l4 bmt
  have blt2 := Nat.lt_of_lt_of_le blt by'.size
  have HBX := Lib.hid (bx.trans (by'.mono bx.size))
  clear bc bd bx by' hs1 blt h1 h2 hb1 hb2
  generalize collB x y = q at *
  generalize meets x.fb y.fb = mt at *
  generalize cmn x.fb y.fb = cm at *
  generalize x.fi = xf at *
  generalize y.fi = yf at *
  generalize x.ct = xc at *
  generalize y.ct = yc at *
  obtain ⟨f, rfl⟩ : ∃ f : Nat, xf = (f : Int) := ⟨xf.toNat, by omega⟩
  obtain ⟨g, rfl⟩ : ∃ f : Nat, yf = (f : Int) := ⟨yf.toNat, by omega⟩
  obtain ⟨c, rfl⟩ : ∃ f : Nat, xc = (f : Int) := ⟨xc.toNat, by omega⟩
  obtain ⟨d, rfl⟩ : ∃ f : Nat, yc = (f : Int) := ⟨yc.toNat, by omega⟩
  have HX := Lib.hid (fun w => maskOf_any f c w (by omega))
  have HY := Lib.hid (fun w => maskOf_any g d w (by omega))
  have hbm := bits_meet (f := f) (c := c) (g := g) (d := d) (by omega) (by omega) (by omega) (by omega)
  clear hd1 hd2
  generalize mskN f c = s1 at *
  generalize mskN g d = s2 at *
  go_enter Tryz.func136, Tryz.ntmps136
  go_wp2
  generalize (w.alloc (.cells #[.int .i64 x.id, .int .i64 x.st, .slice a1 m1 c1, .int .i64 f, .int .i64 c] 94)).alloc (.cells #[.int .i64 y.id, .int .i64 y.st, .slice a2 m2 c2, .int .i64 g, .int .i64 d] 94) = w2 at *
  cases hd : decide ((f : Int) < g + d ∧ (g : Int) < f + c)
  · rw [hd] at hbm HF
    clear hd
    have j2 := rg q2
    have j3 := rg q3
    have j4 := rg q4
    have k2 := rg l2
    have k3 := rg l3
    have k4 := rg l4
    refine wp_region_quiet_below (by kernel_rfl) (by kernel_rfl) ?_
    repeat (go_big_quiet_step (first | (go_at_call 181; first | (with_reducible exact Calls.regrown_of (HX.out _)) | (with_reducible exact Calls.regrown_of (HY.out _)))))
    refine wpQuiet_nil ?_
    rintro _ ⟨⟨dq, osq⟩, rfl⟩
    go_wp2
    go_ret
    exact ⟨by rw [HF.out]; rfl, HBX.out.trans ((below_regrown _ dq osq).mono HBX.out.size)⟩
  rw [hd] at hbm HF
  clear hd
  have HS := Lib.hid (fun (w' : World) (hb : Below w2.heap.size w2 w') => show Below w2.heap.size w2 w' ∧ w'.cell? ⟨w.heap.size, 2, none⟩ = some (.slice a1 m1 c1) ∧ w'.cell? ⟨w.heap.size, 3, none⟩ = some (.int .i64 f) ∧ w'.cell? ⟨w.heap.size, 4, none⟩ = some (.int .i64 c) ∧ w'.cell? ⟨w.heap.size + 1, 2, none⟩ = some (.slice a2 m2 c2) ∧ w'.cell? ⟨w.heap.size + 1, 3, none⟩ = some (.int .i64 g) ∧ w'.cell? ⟨w.heap.size + 1, 4, none⟩ = some (.int .i64 d) from
    ⟨hb, (hb.cell blt2).trans q2, (hb.cell blt2).trans q3, (hb.cell blt2).trans q4, (hb.cell bmt).trans l2, (hb.cell bmt).trans l3, (hb.cell bmt).trans l4⟩)
  have HBS := Lib.hid (fun (wx w' : World) (hb : Below w2.heap.size w2 wx) (hc : Below wx.heap.size wx w') => show Below w2.heap.size w2 w' from hb.trans (hc.mono hb.size))
  have HCB := Lib.hid (fun (w' : World) (hb : Below w2.heap.size w2 w') => HC.out w' (HBX.out.trans (hb.mono HBX.out.size)))
  have s0 : Below w2.heap.size w2 w2.drew := (Below.refl w2.heap.size w2).drew
  clear q2 q3 q4 l2 l3 l4
  go_region_held3 (fun w' => Below w2.heap.size w2 w' ∧ w'.cell? ⟨w.heap.size, 2, none⟩ = some (.slice a1 m1 c1) ∧ w'.cell? ⟨w.heap.size, 3, none⟩ = some (.int .i64 f) ∧ w'.cell? ⟨w.heap.size, 4, none⟩ = some (.int .i64 c) ∧ w'.cell? ⟨w.heap.size + 1, 2, none⟩ = some (.slice a2 m2 c2) ∧ w'.cell? ⟨w.heap.size + 1, 3, none⟩ = some (.int .i64 g) ∧ w'.cell? ⟨w.heap.size + 1, 4, none⟩ = some (.int .i64 d))
    (first | exact HS.out _ (by assumption))
    (first
      | (go_at_call 181; first | ((with_reducible refine (HX.out _).mono ?_); rintro e w5 ⟨rfl, b5⟩; have s5 := HBS.out _ _ (And.left (by assumption)) b5; clear b5) | ((with_reducible refine (HY.out _).mono ?_); rintro e w6 ⟨rfl, b6⟩; have s6 := HBS.out _ _ (And.left (by assumption)) b6; clear b6))
      | (go_at_call 98; go_loud (refine (HCB.out _ (And.left (by assumption))).mono ?_; rintro e w7 ⟨v7, rfl, o7, b7⟩; obtain ⟨a7, c7, n7, HN7, rfl, -, hn7, -⟩ := o7.rd.opn; have s7 := HBS.out _ _ (And.left (by assumption)) b7; clear b7 o7)))
  all_goals
    go_wp2
    go_ret
    exact ⟨by rw [HF.out, HM.out, HN7.out]; rfl, HBX.out.trans (s7.mono HBX.out.size)⟩
end Go.Proofs.YtmkkdenhjfjmgaaGreat
namespace Go.Proofs.YtmkkdenhjfjmgaaGreat
open Go.RowKit Go.Sort
set_option maxRecDepth 100000

set_option maxHeartbeats 1600000 in
theorem l9Collide_any (v1 v2 : Value) (x y : Lgt) (w : World) (h1 : Rd w v1 x.fb) (h2 : Rd w v2 y.fb) (hb1 : blkOk x.fi x.ct = true) (hb2 : blkOk y.fi y.ct = true) (hl : x.fb.length ≤ 1100000) :
    Calls Tryz.prog 141 #[.agg #[.int .i64 x.id, .int .i64 x.st, v1, .int .i64 x.fi, .int .i64 x.ct], .agg #[.int .i64 y.id, .int .i64 y.st, v2, .int .i64 y.fi, .int .i64 y.ct]] w fun e w' => e = .returned (.bool (collB x y)) ∧ Below w.heap.size w w' := by
  have HC := Lib.hid (fun w' (hb : Below w.heap.size w w') => l4Uses_any v1 v2 ⟨x.st, x.fb⟩ y.fb w' (h1.belowAll hb) (h2.belowAll hb))
  have hd1 := blkOk_bd hb1
  have hd2 := blkOk_bd hb2
  obtain ⟨a1, c1, m1, -, rfl, -, -, -⟩ := h1.opn
  obtain ⟨a2, c2, m2, -, rfl, -, -, -⟩ := h2.opn
  have HF := Lib.hid (show collB x y = (decide (x.fi < y.fi + y.ct ∧ y.fi < x.fi + x.ct) && meets x.fb y.fb) from rfl)
  obtain ⟨bx, bc, blt, -⟩ := box_facts w #[.int .i64 x.id, .int .i64 x.st, .slice a1 m1 c1, .int .i64 x.fi, .int .i64 x.ct] 94
  obtain ⟨by', bd, bmt, -⟩ := box_facts (w.alloc (.cells #[.int .i64 x.id, .int .i64 x.st, .slice a1 m1 c1, .int .i64 x.fi, .int .i64 x.ct] 94)) #[.int .i64 y.id, .int .i64 y.st, .slice a2 m2 c2, .int .i64 y.fi, .int .i64 y.ct] 94
  have q1 := (by'.cell (p := ⟨w.heap.size, 1, none⟩) blt).trans (bc 1 _ rfl)
  have q2 := (by'.cell (p := ⟨w.heap.size, 2, none⟩) blt).trans (bc 2 _ rfl)
  have q3 := (by'.cell (p := ⟨w.heap.size, 3, none⟩) blt).trans (bc 3 _ rfl)
  have q4 := (by'.cell (p := ⟨w.heap.size, 4, none⟩) blt).trans (bc 4 _ rfl)
  have l2 := bd 2 _ rfl
  have l3 := bd 3 _ rfl
  have l4 := bd 4 _ rfl
  have hs1 : (w.alloc (.cells #[.int .i64 x.id, .int .i64 x.st, .slice a1 m1 c1, .int .i64 x.fi, .int .i64 x.ct] 94)).heap.size = w.heap.size + 1 := by simp
  rw [hs1] at l2 l3 l4 bmt
  have blt2 := Nat.lt_of_lt_of_le blt by'.size
  have HBX := Lib.hid (bx.trans (by'.mono bx.size))
  clear bc bd bx by' hs1 blt h1 h2 hb1 hb2
  generalize collB x y = q at *
  have HCQ := Lib.hid (fun w' (hb : Below w.heap.size w w') => show Calls Tryz.prog 105 #[.agg #[.int .i64 x.st, .slice a1 m1 c1], .slice a2 m2 c2] w' fun e w'' => e = .returned (.bool (meets x.fb y.fb)) ∧ Below w'.heap.size w' w'' from HC.out w' hb)
  clear HC
  generalize meets x.fb y.fb = mt at *
  generalize x.st = xs at *
  generalize x.fi = xf at *
  generalize y.fi = yf at *
  generalize x.ct = xc at *
  generalize y.ct = yc at *
  obtain ⟨f, rfl⟩ : ∃ f : Nat, xf = (f : Int) := ⟨xf.toNat, by omega⟩
  obtain ⟨g, rfl⟩ : ∃ f : Nat, yf = (f : Int) := ⟨yf.toNat, by omega⟩
  obtain ⟨c, rfl⟩ : ∃ f : Nat, xc = (f : Int) := ⟨xc.toNat, by omega⟩
  obtain ⟨d, rfl⟩ : ∃ f : Nat, yc = (f : Int) := ⟨yc.toNat, by omega⟩
  have HX := Lib.hid (fun w => l8Bits_any f c w (by omega))
  have HY := Lib.hid (fun w => l8Bits_any g d w (by omega))
  have hbm := bits_meet (f := f) (c := c) (g := g) (d := d) (by omega) (by omega) (by omega) (by omega)
  clear hd1 hd2
  generalize mskN f c = s1 at *
  generalize mskN g d = s2 at *
  go_enter Tryz.func141, Tryz.ntmps141
  go_wp2
  generalize (w.alloc (.cells #[.int .i64 x.id, .int .i64 xs, .slice a1 m1 c1, .int .i64 f, .int .i64 c] 94)).alloc (.cells #[.int .i64 y.id, .int .i64 y.st, .slice a2 m2 c2, .int .i64 g, .int .i64 d] 94) = w2 at *
  generalize decide ((f : Int) < g + d ∧ (g : Int) < f + c) = hh at *
  have HCB := Lib.hid (fun (w' : World) (hb : Below w2.heap.size w2 w') => HCQ.out w' (HBX.out.trans (hb.mono HBX.out.size)))
  clear HCQ
  cases mt
  · have j1 := rg q1
    have j2 := rg q2
    have k2 := rg l2
    clear q1 q2 q3 q4 l2 l3 l4
    refine wp_region_quiet_below (by kernel_rfl) (by kernel_rfl) ?_
    repeat (go_big_quiet_step (first | (go_at_call 105; exact Calls.regrown_of (HCB.out _ (below_regrown _ _ _)))))
    refine wpQuiet_nil ?_
    rintro _ ⟨⟨dq, osq⟩, rfl⟩
    go_wp2
    go_ret
    exact ⟨by rw [HF.out]; cases hh <;> rfl, HBX.out.trans ((below_regrown _ dq osq).mono HBX.out.size)⟩
  have j1 := rg q1
  have j2 := rg q2
  have j3 := rg q3
  have j4 := rg q4
  have k2 := rg l2
  have k3 := rg l3
  have k4 := rg l4
  clear q1 q2 q3 q4 l2 l3 l4
  refine wp_region_quiet_below (by kernel_rfl) (by kernel_rfl) ?_
  repeat (go_big_quiet_step (first | (go_at_call 105; exact Calls.regrown_of (HCB.out _ (below_regrown _ _ _))) | (go_at_call 189; first | (with_reducible exact Calls.regrown_of (HX.out _)) | (with_reducible exact Calls.regrown_of (HY.out _)))))
  refine wpQuiet_nil ?_
  rintro _ ⟨⟨dq, osq⟩, rfl⟩
  go_wp2
  go_ret
  exact ⟨by rw [HF.out]; simp [hbm], HBX.out.trans ((below_regrown _ dq osq).mono HBX.out.size)⟩
end Go.Proofs.YtmkkdenhjfjmgaaGreat
namespace Go.Proofs.YtmkkdenhjfjmgaaGreat
open Go.RowKit Go.Sort
set_option maxRecDepth 100000

/-! ### Searches -/
section
variable {α : Type}
theorem anyG_more {zs : List α} {p : α → Bool} {nil : α} {k : Nat} (hk : k < zs.length) (h : (zs.take k).any p = false) (e : p (zs[k]?.getD nil) = false) : (zs.take (k + 1)).any p = false := by
  rw [List.getElem?_eq_getElem hk] at e
  rw [List.take_add_one, List.any_append, h, List.getElem?_eq_getElem hk]
  simpa using e
/-- The first place, or -1. -/
def idxG (zs : List α) (p : α → Bool) : Int := match zs.findIdx? p with | some k => k | none => -1
theorem idxG_none {zs : List α} {p : α → Bool} (h : zs.any p = false) : idxG zs p = -1 := by
  have : zs.findIdx? p = none := by rw [List.findIdx?_eq_none_iff]; simpa [List.any_eq_false] using h
  simp [idxG, this]
theorem idxG_some {zs : List α} {p : α → Bool} {nil : α} {k : Nat} (hk : k < zs.length) (h : (zs.take k).any p = false) (e : p (zs[k]?.getD nil) = true) : idxG zs p = k := by
  have : zs.findIdx? p = some k := by
    rw [List.findIdx?_eq_some_iff_getElem]
    refine ⟨hk, by simpa [List.getElem?_eq_getElem hk] using e, fun j hj => ?_⟩
    simp only [List.any_eq_false] at h
    have := h zs[j] (List.mem_take_iff_getElem.2 ⟨j, by omega, by simp⟩)
    simpa using this
  simp [idxG, this]
theorem idxG_geq (zs : List α) (p : α → Bool) : decide (0 ≤ idxG zs p) = zs.any p := by
  cases h : zs.findIdx? p with
  | none =>
    rw [List.findIdx?_eq_none_iff] at h
    have : zs.any p = false := by simpa [List.any_eq_false] using h
    rw [this]; simp [idxG_none this]
  | some k =>
    have := h
    rw [List.findIdx?_eq_some_iff_getElem] at h
    obtain ⟨hk, e, _⟩ := h
    have h2 : zs.any p = true := List.any_eq_true.2 ⟨_, List.getElem_mem hk, e⟩
    rw [h2]; simp [idxG, this]
end
/-- Number F is a function of Go text. -/
def IsFn (F : FuncId) : Prop := ∀ (args : Array Value) (w : World), (callFunc F args).run Tryz.prog w = .ok (.enter F args) w
theorem isFn_of {F : FuncId} {fn : Func} (h1 : Tryz.prog.funcs[F]? = some fn) (h2 : (fn.name == "runtime.NumGoroutine") = false) (h3 : fn.body.isNone = false) : IsFn F := by
  intro args w
  unfold callFunc
  simp only [Sem.run_bind, run_program, Result.andThen_ok, h1, h2, h3]
  rfl

/-! ### Growths -/
abbrev ptr (b : Nat) : Value := .pointer (some ⟨b, 0, none⟩)
end Go.Proofs.YtmkkdenhjfjmgaaGreat
namespace Go.Proofs.YtmkkdenhjfjmgaaGreat
open Go.RowKit Go.Sort
set_option maxRecDepth 100000

theorem lgt_leaf {w : World} {x : Value} {u : Value} (h : Rdt w (.leaf x) u) : u = x := by cases h; rfl
theorem lgt_opn {w : World} {v : Value} {zs : List Lgt} (h : Rdt w (rws 5 lgtD zs) v) : ∃ a n cap, v = .slice a n cap ∧ Hid (zs.length = n) ∧ n ≤ cap ∧ n ≤ 9223372036854775807 ∧
    (0 < n → ∃ b off, a = some ⟨b, off, none⟩ ∧ b < w.heap.size ∧ ∀ i, i < n → ∃ u, w.cell? ⟨b, off + i * 5, none⟩ = some (.int .i64 (zs[i]?.getD nilL).id) ∧ w.cell? ⟨b, off + i * 5 + 1, none⟩ = some (.int .i64 (zs[i]?.getD nilL).st) ∧
      w.cell? ⟨b, off + i * 5 + 2, none⟩ = some u ∧ w.cell? ⟨b, off + i * 5 + 3, none⟩ = some (.int .i64 (zs[i]?.getD nilL).fi) ∧ w.cell? ⟨b, off + i * 5 + 4, none⟩ = some (.int .i64 (zs[i]?.getD nilL).ct) ∧ Rd w u (zs[i]?.getD nilL).fb) := by
  obtain ⟨a, n, cap, e, HN, h1, h2, h3⟩ := rws_opn (m := 5) (en := lgtD) (fun _ => rfl) (by omega) nilL h
  refine ⟨a, n, cap, e, HN, h1, h2, fun h0 => ?_⟩
  obtain ⟨b, off, ea, hb, hc⟩ := h3 h0
  refine ⟨b, off, ea, hb, fun i hi => ?_⟩
  obtain ⟨u0, k0, d0⟩ := hc i hi 0 _ rfl
  obtain ⟨u1, k1, d1⟩ := hc i hi 1 _ rfl
  obtain ⟨u2, k2, d2⟩ := hc i hi 2 _ rfl
  obtain ⟨u3, k3, d3⟩ := hc i hi 3 _ rfl
  obtain ⟨u4, k4, d4⟩ := hc i hi 4 _ rfl
  rw [lgt_leaf d0] at k0
  rw [lgt_leaf d1] at k1
  rw [lgt_leaf d3] at k3
  rw [lgt_leaf d4] at k4
  exact ⟨u2, k0, k1, k2, k3, k4, Rdt.toRd d2⟩
set_option maxHeartbeats 1600000 in
theorem indexFuncLgt_any (v : Value) (zs : List Lgt) (F : FuncId) (b0 : Nat) (p : Lgt → Bool) (w : World) (h : Rdt w (rws 5 lgtD zs) v) (hF : IsFn F)
    (hp : ∀ (i : Nat) (w' : World), i < zs.length → Below w.heap.size w w' → ∀ z u, z = zs[i]?.getD nilL → Rd w' u z.fb → Calls Tryz.prog F #[.agg #[.int .i64 z.id, .int .i64 z.st, u, .int .i64 z.fi, .int .i64 z.ct], ptr b0] w' fun e w2 => e = .returned (.bool (p z)) ∧ Below w'.heap.size w' w2) :
    Calls Tryz.prog 180 #[v, .func (.func F) #[] #[ptr b0]] w fun e w' => e = .returned (.int .i64 (idxG zs p)) ∧ Below w.heap.size w w' := by
  obtain ⟨a, n, cap, rfl, HN, _, hla, ha⟩ := lgt_opn h
  rw [HN.out] at hp
  have HP := Lib.hid hp
  have HA := Lib.hid ha
  clear hp ha h
  have hF := show ∀ (args : Array Value) (w : World), (callFunc F args).run Tryz.prog w = .ok (.enter F args) w from hF
  have HI := Lib.hid (fun k hk h e => idxG_some (zs := zs) (p := p) (nil := nilL) (k := k) hk h e)
  have HO := Lib.hid (idxG_none (zs := zs) (p := p))
  have HM := Lib.hid (fun k hk h e => anyG_more (zs := zs) (p := p) (nil := nilL) (k := k) hk h e)
  generalize idxG zs p = r at *
  go_enter Tryz.func180, Tryz.ntmps180
  go_wp2
  go_loopw [5, 8] (fun _ i wr => ∃ k : Nat, k ≤ n ∧ i = .int .i64 k ∧ Hid ((zs.take k).any p = false) ∧ Hid (Below w.heap.size w wr)) (fun _ i _ => n - (intOf i).toNat)
  case atStart => exact ⟨0, by omega, rfl, by simp [Hid], Below.refl _ _⟩
  case round =>
    obtain ⟨k, hk, rfl, HT, HB⟩ := hrel
    by_cases hlt : k < n
    · have hltI : (k : Int) < (n : Int) := by omega
      have hkx : k < zs.length := by rw [HN.out]; exact hlt
      obtain ⟨b, off, rfl, hbs, hcs⟩ := HA.out (by omega)
      obtain ⟨u, e0, e1, e2, e3, e4, hru⟩ := hcs k hlt
      have hw0 := (HB.out.cell (p := ⟨b, off + k * 5, none⟩) hbs).trans e0
      have hw1 := (HB.out.cell (p := ⟨b, off + k * 5 + 1, none⟩) hbs).trans e1
      have hw2 := (HB.out.cell (p := ⟨b, off + k * 5 + 2, none⟩) hbs).trans e2
      have hw3 := (HB.out.cell (p := ⟨b, off + k * 5 + 3, none⟩) hbs).trans e3
      have hw4 := (HB.out.cell (p := ⟨b, off + k * 5 + 4, none⟩) hbs).trans e4
      have HSL := hru.opn
      have HPK := Lib.hid (HP.out k wr hlt HB.out _ u rfl (hru.belowAll HB.out))
      have HIK := Lib.hid (HI.out k hkx HT.out)
      have HMK := Lib.hid (HM.out k hkx HT.out)
      obtain ⟨au, cu, nu, -, rfl, -, -, -⟩ := HSL
      clear hcs hkx e0 e1 e2 e3 e4 hru
      generalize zs[k]?.getD nilL = z at *
      generalize p z = pz at *
      have hz := HB.out.size
      cases pz
      · have HE := Lib.hid (HMK.out rfl)
        go_wp2_with fail
        refine HPK.out.mono ?_
        rintro e w2 ⟨rfl, b2⟩
        have HB2 := Lib.hid (HB.out.trans (b2.mono hz))
        clear b2
        go_wp2
        go_roundw
        case rel => exact ⟨k + 1, by omega, by go_num, HE.out, HB2.out⟩
        case measure => simp [intOf]; omega
      · have HE := Lib.hid (HIK.out rfl)
        go_wp2_with fail
        refine HPK.out.mono ?_
        rintro e w2 ⟨rfl, b2⟩
        have HB2 := Lib.hid (HB.out.trans (b2.mono hz))
        clear b2
        go_wp2
        go_ret
        exact ⟨by rw [HE.out]; rfl, HB2.out⟩
    · obtain rfl : n = k := by omega
      have hall := HT.out
      rw [← HN.out, List.take_length] at hall
      have HE := Lib.hid (HO.out hall)
      clear hall
      go_wp2
      go_ret
      exact ⟨by rw [HE.out]; rfl, HB.out⟩
theorem containsFuncLgt_any (v : Value) (zs : List Lgt) (F : FuncId) (b0 : Nat) (p : Lgt → Bool) (w : World) (h : Rdt w (rws 5 lgtD zs) v) (hF : IsFn F)
    (hp : ∀ (i : Nat) (w' : World), i < zs.length → Below w.heap.size w w' → ∀ z u, z = zs[i]?.getD nilL → Rd w' u z.fb → Calls Tryz.prog F #[.agg #[.int .i64 z.id, .int .i64 z.st, u, .int .i64 z.fi, .int .i64 z.ct], ptr b0] w' fun e w2 => e = .returned (.bool (p z)) ∧ Below w'.heap.size w' w2) :
    Calls Tryz.prog 134 #[v, .func (.func F) #[] #[ptr b0]] w fun e w' => e = .returned (.bool (zs.any p)) ∧ Below w.heap.size w w' := by
  have HI := Lib.hid (indexFuncLgt_any v zs F b0 p w h hF hp)
  have HG := Lib.hid (idxG_geq zs p)
  generalize idxG zs p = r at *
  generalize zs.any p = s at *
  obtain ⟨a, n, cap, rfl, -⟩ := lgt_opn h
  clear h hp hF
  go_enter Tryz.func134, Tryz.ntmps134
  go_wp2_with fail
  refine HI.out.mono ?_
  rintro e w2 ⟨rfl, b2⟩
  have HB := Lib.hid b2
  clear b2
  go_wp2
  go_ret
  exact ⟨by rw [← HG.out]; rfl, HB.out⟩
end Go.Proofs.YtmkkdenhjfjmgaaGreat
namespace Go.Proofs.YtmkkdenhjfjmgaaGreat
open Go.RowKit Go.Sort
set_option maxRecDepth 100000

set_option maxHeartbeats 1600000 in
theorem indexFuncI_any (v : Value) (zs : List Int) (F : FuncId) (b0 : Nat) (p : Int → Bool) (w : World) (h : Rd w v zs) (hF : IsFn F)
    (hp : ∀ (i : Nat) (w' : World), i < zs.length → Below w.heap.size w w' → ∀ z, z = zs[i]?.getD 0 → Calls Tryz.prog F #[.int .i64 z, ptr b0] w' fun e w2 => e = .returned (.bool (p z)) ∧ Below w'.heap.size w' w2) :
    Calls Tryz.prog 153 #[v, .func (.func F) #[] #[ptr b0]] w fun e w' => e = .returned (.int .i64 (idxG zs p)) ∧ Below w.heap.size w w' := by
  obtain ⟨a, cap, n, HN, rfl, _, hla, ha⟩ := h.opn
  rw [HN.out] at hp
  have HP := Lib.hid hp
  have HA := Lib.hid ha
  clear hp ha h
  have hF := show ∀ (args : Array Value) (w : World), (callFunc F args).run Tryz.prog w = .ok (.enter F args) w from hF
  have HI := Lib.hid (fun k hk h e => idxG_some (zs := zs) (p := p) (nil := 0) (k := k) hk h e)
  have HO := Lib.hid (idxG_none (zs := zs) (p := p))
  have HM := Lib.hid (fun k hk h e => anyG_more (zs := zs) (p := p) (nil := 0) (k := k) hk h e)
  generalize idxG zs p = r at *
  go_enter Tryz.func153, Tryz.ntmps153
  go_wp2
  go_loopw [5, 8] (fun _ i wr => ∃ k : Nat, k ≤ n ∧ i = .int .i64 k ∧ Hid ((zs.take k).any p = false) ∧ Hid (Below w.heap.size w wr)) (fun _ i _ => n - (intOf i).toNat)
  case atStart => exact ⟨0, by omega, rfl, by simp [Hid], Below.refl _ _⟩
  case round =>
    obtain ⟨k, hk, rfl, HT, HB⟩ := hrel
    by_cases hlt : k < n
    · have hltI : (k : Int) < (n : Int) := by omega
      have hkx : k < zs.length := by rw [HN.out]; exact hlt
      obtain ⟨b, off, rfl, hbs, hcs⟩ := HA.out (by omega)
      have hw0 := (HB.out.cell (p := ⟨b, off + k, none⟩) hbs).trans (hcs k hlt)
      have HPK := Lib.hid (HP.out k wr hlt HB.out _ rfl)
      have HIK := Lib.hid (HI.out k hkx HT.out)
      have HMK := Lib.hid (HM.out k hkx HT.out)
      clear hcs hkx
      generalize zs[k]?.getD 0 = z at *
      generalize p z = pz at *
      have hz := HB.out.size
      cases pz
      · have HE := Lib.hid (HMK.out rfl)
        go_wp2_with fail
        refine HPK.out.mono ?_
        rintro e w2 ⟨rfl, b2⟩
        have HB2 := Lib.hid (HB.out.trans (b2.mono hz))
        clear b2
        go_wp2
        go_roundw
        case rel => exact ⟨k + 1, by omega, by go_num, HE.out, HB2.out⟩
        case measure => simp [intOf]; omega
      · have HE := Lib.hid (HIK.out rfl)
        go_wp2_with fail
        refine HPK.out.mono ?_
        rintro e w2 ⟨rfl, b2⟩
        have HB2 := Lib.hid (HB.out.trans (b2.mono hz))
        clear b2
        go_wp2
        go_ret
        exact ⟨by rw [HE.out]; rfl, HB2.out⟩
    · obtain rfl : n = k := by omega
      have hall := HT.out
      rw [← HN.out, List.take_length] at hall
      have HE := Lib.hid (HO.out hall)
      clear hall
      go_wp2
      go_ret
      exact ⟨by rw [HE.out]; rfl, HB.out⟩
theorem containsFuncI_any (v : Value) (zs : List Int) (F : FuncId) (b0 : Nat) (p : Int → Bool) (w : World) (h : Rd w v zs) (hF : IsFn F)
    (hp : ∀ (i : Nat) (w' : World), i < zs.length → Below w.heap.size w w' → ∀ z, z = zs[i]?.getD 0 → Calls Tryz.prog F #[.int .i64 z, ptr b0] w' fun e w2 => e = .returned (.bool (p z)) ∧ Below w'.heap.size w' w2) :
    Calls Tryz.prog 118 #[v, .func (.func F) #[] #[ptr b0]] w fun e w' => e = .returned (.bool (zs.any p)) ∧ Below w.heap.size w w' := by
  have HI := Lib.hid (indexFuncI_any v zs F b0 p w h hF hp)
  have HG := Lib.hid (idxG_geq zs p)
  generalize idxG zs p = r at *
  generalize zs.any p = s at *
  obtain ⟨a, cap, n, -, rfl, -⟩ := h.opn
  clear h hp hF
  go_enter Tryz.func118, Tryz.ntmps118
  go_wp2_with fail
  refine HI.out.mono ?_
  rintro e w2 ⟨rfl, b2⟩
  have HB := Lib.hid b2
  clear b2
  go_wp2
  go_ret
  exact ⟨by rw [← HG.out]; rfl, HB.out⟩
/-! ### The index of the light with a number -/
def lix (p : Pln) (id : Int) : Int := idxG p.ls (fun x => x.id == id)
theorem lightAt1_any (z : Lgt) (u : Value) (id : Int) (b0 : Nat) (w : World) (hu : Rd w u z.fb) (h0 : w.cell? ⟨b0, 0, none⟩ = some (.int .i64 id)) :
    Calls Tryz.prog 182 #[.agg #[.int .i64 z.id, .int .i64 z.st, u, .int .i64 z.fi, .int .i64 z.ct], ptr b0] w fun e w' => e = .returned (.bool (z.id == id)) ∧ Below w.heap.size w w' := by
  obtain ⟨a1, c1, n1, -, rfl, -⟩ := hu.opn
  obtain ⟨bx, bc, blt, -⟩ := box_facts w #[.int .i64 z.id, .int .i64 z.st, .slice a1 n1 c1, .int .i64 z.fi, .int .i64 z.ct] 94
  have q0 := bc 0 _ rfl
  have d0 := (bx.cell (p := ⟨b0, 0, none⟩) (World.block_lt_of_cell? _ _ h0)).trans h0
  have HBX := Lib.hid bx
  have HV := Lib.hid (rfl : (z.id == id) = (z.id == id))
  clear bx bc h0 hu
  go_enter Tryz.func182, Tryz.ntmps182
  go_wp2
  go_ret
  exact ⟨rfl, HBX.out⟩
end Go.Proofs.YtmkkdenhjfjmgaaGreat
namespace Go.Proofs.YtmkkdenhjfjmgaaGreat
open Go.RowKit Go.Sort

/-! ### Bits that are not in another mask -/
def anot (a b : Nat) : Nat := (BitVec.ofNat 64 a &&& ~~~BitVec.ofNat 64 b).toNat
theorem anot_bit (a b i : Nat) (hi : i < 64) : (anot a b).testBit i = (a.testBit i && !b.testBit i) := by
  unfold anot
  rw [BitVec.testBit_toNat, BitVec.getLsbD_and, BitVec.getLsbD_not, BitVec.getLsbD_ofNat, BitVec.getLsbD_ofNat, decide_eq_true hi]
  simp
theorem anot_le {a b : Nat} (ha : a < 16777216) : anot a b ≤ a := by
  unfold anot
  rw [BitVec.toNat_and, BitVec.toNat_ofNat, Nat.mod_eq_of_lt (by omega)]
  exact Nat.and_le_left
theorem bits_anot {a b : Nat} (ha : a < 16777216) : bits .andNot .i64 (a : Int) (b : Int) = ((anot a b : Nat) : Int) := by
  have h := anot_le (b := b) ha
  unfold bits
  show IntKind.i64.wrap (((BitVec.ofInt 64 (a : Int) &&& ~~~BitVec.ofInt 64 (b : Int)).toNat : Nat) : Int) = _
  rw [BitVec.ofInt_natCast, BitVec.ofInt_natCast]
  show IntKind.i64.wrap ((anot a b : Nat) : Int) = _
  rw [IntWalk.i64_in _ (by omega)]
theorem nat_zero {a : Nat} (h : ∀ i, a.testBit i = false) : a = 0 := Nat.eq_of_testBit_eq fun i => by rw [h i, Nat.zero_testBit]
theorem lt24_bit {a i : Nat} (ha : a < 16777216) (h : a.testBit i = true) : i < 24 := by
  rcases Nat.lt_or_ge i 24 with h1 | h1
  · exact h1
  · have : a < 2 ^ i := Nat.lt_of_lt_of_le ha (Nat.le_trans (Nat.le_refl (2 ^ 24)) (Nat.pow_le_pow_right (by omega) h1))
    rw [Nat.testBit_lt_two_pow this] at h; cases h
theorem anot_zero {a b : Nat} (ha : a < 16777216) : anot a b = 0 ↔ ∀ i, a.testBit i = true → b.testBit i = true := by
  constructor
  · intro h i hi
    have := anot_bit a b i (by have := lt24_bit ha hi; omega)
    rw [h, Nat.zero_testBit, hi] at this
    simpa using this.symm
  · intro h
    refine nat_zero fun i => ?_
    rcases Bool.eq_false_or_eq_true ((anot a b).testBit i) with e | e
    · have hi := lt24_bit (Nat.lt_of_le_of_lt (anot_le ha) ha) e
      rw [anot_bit a b i (by omega)] at e
      simp only [Bool.and_eq_true, Bool.not_eq_true'] at e
      rw [h i e.1] at e; exact absurd e.2 (by simp)
    · exact e

/-! ### The index of a light -/
theorem lix_some {p : Pln} {x : Int} (h : 0 ≤ lix p x) : ∃ k : Nat, k < p.ls.length ∧ lix p x = (k : Int) ∧ (lgA p k).id = x := by
  unfold lix idxG at *
  cases e : p.ls.findIdx? (fun y => y.id == x) with
  | none => rw [e] at h; exact absurd h (by decide)
  | some k =>
    rw [List.findIdx?_eq_some_iff_getElem] at e
    obtain ⟨hk, e1, -⟩ := e
    exact ⟨k, hk, rfl, by unfold lgA; rw [List.getElem?_eq_getElem hk]; simpa using e1⟩
theorem lix_at {p : Pln} (h : plnOk p = true) {k : Nat} (hk : k < p.ls.length) : lix p (lgA p k).id = k := by
  have h0 : 0 ≤ lix p (lgA p k).id := by
    unfold lix idxG
    cases e : p.ls.findIdx? (fun y => y.id == (lgA p k).id) with
    | none =>
      rw [List.findIdx?_eq_none_iff] at e
      have := e (p.ls[k]) (List.getElem_mem hk)
      unfold lgA at this
      rw [List.getElem?_eq_getElem hk] at this
      simp at this
    | some k => exact Int.natCast_nonneg k
  obtain ⟨j, hj, e, e2⟩ := lix_some h0
  rw [e, plnOk_inj h hj hk e2]
theorem lix_bd (p : Pln) (x : Int) : -1 ≤ lix p x ∧ lix p x < p.ls.length := by
  rcases Int.lt_or_le (lix p x) 0 with h | h
  · unfold lix idxG at *
    cases e : p.ls.findIdx? (fun y => y.id == x) with
    | none => simp; omega
    | some k => rw [e] at h; exact absurd h (by simp)
  · obtain ⟨k, hk, e, -⟩ := lix_some h
    omega

/-! ### Sets of lights that are down -/
def noL (p : Pln) (x : Int) : Bool := decide (lix p x < 0)
def dwOk (p : Pln) (d : List Int) : Bool := plnOk p && (setOk d 1000 && !(d.any (noL p)))
def dmk (p : Pln) (d : List Int) : Nat := d.foldl (fun m x => m ||| 2 ^ (lix p x).toNat) 0
theorem dwOk_parts {p : Pln} {d : List Int} (h : dwOk p d = true) : plnOk p = true ∧ setOk d 1000 = true ∧ ∀ x ∈ d, 0 ≤ lix p x := by
  unfold dwOk at h
  simp only [Bool.and_eq_true, Bool.not_eq_true', List.any_eq_false, noL, decide_eq_true_eq] at h
  exact ⟨h.1, h.2.1, fun x hx => by have := h.2.2 x hx; omega⟩
theorem dmk_take {p : Pln} {d : List Int} {k : Nat} (hk : k < d.length) : dmk p (d.take (k + 1)) = dmk p (d.take k) ||| 2 ^ (lix p (d[k]?.getD 0)).toNat := by
  unfold dmk
  rw [List.take_add_one, List.foldl_append, List.getElem?_eq_getElem hk]
  rfl
theorem dmk_fold (p : Pln) (d : List Int) (m i : Nat) : (d.foldl (fun m x => m ||| 2 ^ (lix p x).toNat) m).testBit i = (m.testBit i || d.any fun x => decide ((lix p x).toNat = i)) := by
  induction d generalizing m with
  | nil => simp
  | cons x d ih => rw [List.foldl_cons, ih, Nat.testBit_or, Nat.testBit_two_pow, List.any_cons, Bool.or_assoc]
theorem dmk_bit (p : Pln) (d : List Int) (i : Nat) : (dmk p d).testBit i = d.any fun x => decide ((lix p x).toNat = i) := by
  unfold dmk; rw [dmk_fold, Nat.zero_testBit, Bool.false_or]
theorem dmk_lt {p : Pln} {d : List Int} (h : ∀ x ∈ d, 0 ≤ lix p x) (h0 : 0 < p.ls.length ∨ d = []) : dmk p d < 2 ^ p.ls.length := by
  unfold dmk
  have : ∀ m, m < 2 ^ p.ls.length → d.foldl (fun m x => m ||| 2 ^ (lix p x).toNat) m < 2 ^ p.ls.length := by
    clear h0
    induction d with
    | nil => exact fun m hm => hm
    | cons x d ih =>
      intro m hm
      rw [List.foldl_cons]
      obtain ⟨k, hk, e, -⟩ := lix_some (h x (List.mem_cons_self ..))
      exact ih (fun y hy => h y (List.mem_cons_of_mem _ hy)) _ (or_lt hm (by rw [e]; exact Nat.pow_lt_pow_right (by omega) hk))
  exact this 0 (Nat.two_pow_pos _)
theorem dmk_lt' {p : Pln} {d : List Int} (h : ∀ x ∈ d, 0 ≤ lix p x) : dmk p d < 2 ^ p.ls.length := by
  cases d with
  | nil => exact Nat.two_pow_pos _
  | cons x d => exact dmk_lt h (.inl (by obtain ⟨k, hk, -⟩ := lix_some (h x (List.mem_cons_self ..)); omega))
theorem dmk_has {p : Pln} {d : List Int} (hp : plnOk p = true) (h : ∀ x ∈ d, 0 ≤ lix p x) {i : Nat} (hi : i < p.ls.length) : (dmk p d).testBit i = d.contains (lgA p i).id := by
  rw [dmk_bit, Bool.eq_iff_iff]
  simp only [List.any_eq_true, decide_eq_true_eq, List.contains_iff_mem]
  constructor
  · rintro ⟨x, hx, e⟩
    obtain ⟨k, hk, e1, e2⟩ := lix_some (h x hx)
    have : k = i := by omega
    subst this
    rw [e2]; exact hx
  · intro hm
    exact ⟨_, hm, by rw [lix_at hp hi]; rfl⟩
theorem setOk_asc {xs : List Int} {m : Int} (h : setOk xs m = true) : xs.Pairwise (· < ·) := by
  rw [List.pairwise_iff_getElem]
  intro i j hi hj hij
  have : ∀ k : Nat, i + k + 1 < xs.length → xs[i]?.getD 0 < xs[i + k + 1]?.getD 0 := by
    intro k
    induction k with
    | zero => intro hk; exact setOk_up h hk
    | succ k ih => intro hk; exact Int.lt_trans (ih (by omega)) (setOk_up h hk)
  have := this (j - i - 1) (by omega)
  rw [show i + (j - i - 1) + 1 = j by omega, List.getElem?_eq_getElem hi, List.getElem?_eq_getElem hj] at this
  exact this

/-! ### What groups hit, as a set -/
theorem hts_mem {p : Pln} {gs : List Int} {x : Int} : x ∈ hts p gs ↔ ∃ k : Nat, k < p.ls.length ∧ hitL p gs (lgA p k) = true ∧ (lgA p k).id = x := by
  unfold hts hitTo
  rw [List.take_length, List.mem_map]
  constructor
  · rintro ⟨y, hy, rfl⟩
    rw [List.mem_filter] at hy
    obtain ⟨k, hk, rfl⟩ := List.mem_iff_getElem.mp hy.1
    exact ⟨k, hk, by unfold lgA; rw [List.getElem?_eq_getElem hk]; exact hy.2, by unfold lgA; rw [List.getElem?_eq_getElem hk]; rfl⟩
  · rintro ⟨k, hk, e, rfl⟩
    refine ⟨p.ls[k], List.mem_filter.mpr ⟨List.getElem_mem hk, ?_⟩, ?_⟩
    · unfold lgA at e; rw [List.getElem?_eq_getElem hk] at e; exact e
    · unfold lgA; rw [List.getElem?_eq_getElem hk]; rfl
theorem hts_asc {p : Pln} (h : plnOk p = true) (gs : List Int) : (hts p gs).Pairwise (· < ·) := by
  unfold hts hitTo
  rw [List.take_length, List.pairwise_map]
  refine List.Pairwise.filter _ ?_
  rw [List.pairwise_iff_getElem]
  intro i j hi hj hij
  have := plnOk_id h hij hj
  unfold lgA at this
  rw [List.getElem?_eq_getElem hi, List.getElem?_eq_getElem hj] at this
  exact this
theorem uni_off {p : Pln} {gs : List Int} {i : Nat} (hi : ¬ i < p.ls.length) : (uni (hmks p) gs).testBit i = false := by rw [uni_hit, decide_eq_false hi]; rfl
theorem dmk_off {p : Pln} {d : List Int} (h : ∀ x ∈ d, 0 ≤ lix p x) {i : Nat} (hi : ¬ i < p.ls.length) : (dmk p d).testBit i = false :=
  Nat.testBit_lt_two_pow (Nat.lt_of_lt_of_le (dmk_lt' h) (Nat.pow_le_pow_right (by omega) (by omega)))
theorem uni_on {p : Pln} {gs : List Int} {i : Nat} (hi : i < p.ls.length) : (uni (hmks p) gs).testBit i = hitL p gs (lgA p i) := by rw [uni_hit, decide_eq_true hi]; rfl
theorem uni_none {p : Pln} {gs : List Int} : uni (hmks p) gs = 0 ↔ hts p gs = [] := by
  constructor
  · intro h
    refine List.eq_nil_iff_forall_not_mem.mpr fun x hx => ?_
    obtain ⟨k, hk, e, -⟩ := hts_mem.mp hx
    rw [← uni_on hk, h, Nat.zero_testBit] at e
    cases e
  · intro h
    refine nat_zero fun i => ?_
    by_cases hi : i < p.ls.length
    · rw [uni_on hi]
      cases e : hitL p gs (lgA p i)
      · rfl
      · have := hts_mem.mpr ⟨i, hi, e, rfl⟩
        rw [h] at this; cases this
    · exact uni_off hi
theorem uni_eq {p : Pln} {gs d : List Int} (h : dwOk p d = true) : uni (hmks p) gs = dmk p d ↔ hts p gs = d := by
  obtain ⟨h1, h2, h3⟩ := dwOk_parts h
  constructor
  · intro e
    refine asc_ext (hts_asc h1 gs) (setOk_asc h2) fun x => ?_
    rw [hts_mem]
    constructor
    · rintro ⟨k, hk, ek, rfl⟩
      rw [← uni_on hk, e, dmk_has h1 h3 hk] at ek
      simpa using ek
    · intro hx
      obtain ⟨k, hk, -, rfl⟩ := lix_some (h3 x hx)
      refine ⟨k, hk, ?_, rfl⟩
      rw [← uni_on hk, e, dmk_has h1 h3 hk]
      simpa using hx
  · intro e
    refine Nat.eq_of_testBit_eq fun i => ?_
    by_cases hi : i < p.ls.length
    · rw [dmk_has h1 h3 hi, ← e, hts_has h1 hi, uni_on hi]
    · rw [uni_off hi, dmk_off h3 hi]
theorem uni_sub {p : Pln} {gs d : List Int} (h : dwOk p d = true) : anot (uni (hmks p) gs) (dmk p d) = 0 ↔ ∀ x ∈ hts p gs, x ∈ d := by
  obtain ⟨h1, h2, h3⟩ := dwOk_parts h
  rw [anot_zero (le12 (uni_lt (hmks_mem p)) (plnOk_sz h1).2.1)]
  constructor
  · intro e x hx
    obtain ⟨k, hk, ek, rfl⟩ := hts_mem.mp hx
    have := e k (by rw [uni_on hk]; exact ek)
    rw [dmk_has h1 h3 hk] at this
    simpa using this
  · intro e i hi
    by_cases hl : i < p.ls.length
    · rw [uni_on hl] at hi
      rw [dmk_has h1 h3 hl]
      have := e _ (hts_mem.mpr ⟨i, hl, hi, rfl⟩)
      simpa using this
    · rw [uni_off hl] at hi; cases hi
theorem uni_one (ms : List Nat) (g : Int) : uni ms [g] = ms[g.toNat]?.getD 0 := by unfold uni; simp

/-! ### Suspects and explanations -/
def susB (p : Pln) (d : List Int) (g : Int) : Bool := !(hts p [g]).isEmpty && (hts p [g]).all fun x => d.contains x
def susTo (p : Pln) (d : List Int) (k : Nat) : List Int := ((List.range k).filter fun i : Nat => susB p d i).map fun i : Nat => (i : Int)
def sps (p : Pln) (d : List Int) : List Int := susTo p d (grps p.n).length
def expB (p : Pln) (d gs : List Int) : Bool := decide (hts p gs = d) && !(gs.any fun g => (hts p [g]).isEmpty)
theorem susTo_yes {p : Pln} {d : List Int} {k : Nat} (h : susB p d k = true) : susTo p d (k + 1) = susTo p d k ++ [(k : Int)] := by
  unfold susTo; rw [List.range_succ, List.filter_append]; simp [h]
theorem susTo_no {p : Pln} {d : List Int} {k : Nat} (h : susB p d k = false) : susTo p d (k + 1) = susTo p d k := by
  unfold susTo; rw [List.range_succ, List.filter_append]; simp [h]
theorem susTo_len (p : Pln) (d : List Int) (k : Nat) : (susTo p d k).length ≤ k := by
  unfold susTo; rw [List.length_map]; exact Nat.le_trans (List.length_filter_le _ _) (by simp)
theorem susB_none {p : Pln} {d : List Int} {g : Int} (h : ¬ 0 < (hts p [g]).length) : susB p d g = false := by
  have : hts p [g] = [] := List.eq_nil_of_length_eq_zero (by omega)
  unfold susB; rw [this]; rfl
theorem filter_full {xs : List Int} {f : Int → Bool} : (xs.filter f).length = xs.length ↔ xs.all f = true := by
  rw [List.length_filter_eq_length_iff, List.all_eq_true]
theorem susB_impl {p : Pln} {d : List Int} (hp : plnOk p = true) {g : Int} (h : 0 < (hts p [g]).length) : susB p d g = decide ((ust (cmn (hts p [g]) d)).length = (hts p [g]).length) := by
  have h1 : (hts p [g]).isEmpty = false := by cases e : hts p [g] with | nil => rw [e] at h; exact absurd h (by simp) | cons x xs => rfl
  have h2 : ust (cmn (hts p [g]) d) = cmn (hts p [g]) d := ust_of ((hts_asc hp [g]).filter _) fun x => Iff.rfl
  unfold susB
  rw [h1, h2]
  unfold cmn
  rw [Bool.eq_iff_iff]
  simp [filter_full]
theorem susB_spec {p : Pln} {d : List Int} (hd : dwOk p d = true) {g : Int} : susB p d g = (decide (¬ (hmks p)[g.toNat]?.getD 0 = 0) && decide (anot ((hmks p)[g.toNat]?.getD 0) (dmk p d) = 0)) := by
  rw [← uni_one (hmks p) g]
  unfold susB
  rw [Bool.eq_iff_iff]
  have h1 := @uni_none p [g]
  have h2 := @uni_sub p [g] d hd
  simp only [Bool.and_eq_true, Bool.not_eq_true', decide_eq_true_eq, h1, h2, List.all_eq_true, List.isEmpty_eq_false_iff, List.contains_iff_mem, ne_eq]
theorem exp_uni {p : Pln} {d gs : List Int} (hd : dwOk p d = true) : decide (hts p gs = d) = decide (uni (hmks p) gs = dmk p d) := decide_eq_decide.mpr (uni_eq hd).symm
end Go.Proofs.YtmkkdenhjfjmgaaGreat
namespace Go.Proofs.YtmkkdenhjfjmgaaGreat
open Go.RowKit Go.Sort

/-! ### Choices -/
def frm (g : Nat → List (List Int)) : Nat → Nat → List (List Int)
  | 0, _ => []
  | m + 1, k => g k ++ frm g m (k + 1)
/-- The lists of so many values, rising in place from f on, each behind l. -/
def chv (sus : List Int) : Nat → Nat → List Int → List (List Int)
  | 0, _, l => [l]
  | c + 1, f, l => frm (fun k => chv sus c (k + 1) (l ++ [sus[k]?.getD 0])) (sus.length - f) f
theorem frm_step {g : Nat → List (List Int)} {n k : Nat} (h : k < n) : frm g (n - k) k = g k ++ frm g (n - (k + 1)) (k + 1) := by
  obtain ⟨m, hm⟩ : ∃ m, n - k = m + 1 := ⟨n - k - 1, by omega⟩
  rw [hm, show n - (k + 1) = m by omega]; rfl
theorem frm_end {g : Nat → List (List Int)} {n k : Nat} (h : n ≤ k) : frm g (n - k) k = [] := by rw [show n - k = 0 by omega]; rfl
theorem frm_nil {g : Nat → List (List Int)} : ∀ {m f : Nat}, (∀ k, f ≤ k → k < f + m → g k = []) → frm g m f = []
  | 0, _, _ => rfl
  | m + 1, f, h => by
    show g f ++ frm g m (f + 1) = []
    rw [h f (Nat.le_refl _) (by omega), frm_nil fun k h1 h2 => h k (by omega) (by omega)]; rfl
theorem frm_congr {g g' : Nat → List (List Int)} : ∀ {m f : Nat}, (∀ k, f ≤ k → k < f + m → g k = g' k) → frm g m f = frm g' m f
  | 0, _, _ => rfl
  | m + 1, f, h => by
    show g f ++ frm g m (f + 1) = g' f ++ frm g' m (f + 1)
    rw [h f (Nat.le_refl _) (by omega), frm_congr fun k h1 h2 => h k (by omega) (by omega)]
theorem frm_map {g : Nat → List (List Int)} {h : List Int → List Int} : ∀ {m f : Nat}, (frm g m f).map h = frm (fun k => (g k).map h) m f
  | 0, _ => rfl
  | m + 1, f => by
    show (g f ++ frm g m (f + 1)).map h = (g f).map h ++ frm (fun k => (g k).map h) m (f + 1)
    rw [List.map_append, frm_map]
theorem frm_mem {g : Nat → List (List Int)} {x : List Int} : ∀ {m f : Nat}, x ∈ frm g m f → ∃ k, f ≤ k ∧ k < f + m ∧ x ∈ g k
  | 0, _, h => by cases h
  | m + 1, f, h => by
    rcases List.mem_append.1 (show x ∈ g f ++ frm g m (f + 1) from h) with h | h
    · exact ⟨f, Nat.le_refl _, by omega, h⟩
    · obtain ⟨k, h1, h2, h3⟩ := frm_mem h; exact ⟨k, by omega, by omega, h3⟩
theorem frm_len {g : Nat → List (List Int)} {n : Nat} : ∀ {m f : Nat}, f + m = n → (∀ k, f ≤ k → k < n → (g k).length ≤ 2 ^ (n - (k + 1))) → (frm g m f).length + 1 ≤ 2 ^ m
  | 0, _, _, _ => by simp [frm]
  | m + 1, f, e, h => by
    show (g f ++ frm g m (f + 1)).length + 1 ≤ 2 ^ (m + 1)
    have h1 := h f (Nat.le_refl _) (by omega)
    have h2 := frm_len (g := g) (n := n) (m := m) (f := f + 1) (by omega) fun k a b => h k (by omega) b
    rw [show n - (f + 1) = m by omega] at h1
    rw [List.length_append, Nat.pow_succ]; omega
theorem chv_len {sus : List Int} : ∀ {c f : Nat} {l : List Int}, (chv sus c f l).length ≤ 2 ^ (sus.length - f)
  | 0, f, l => Nat.two_pow_pos _
  | c + 1, f, l => by
    show (frm _ (sus.length - f) f).length ≤ _
    by_cases hf : f ≤ sus.length
    · have := frm_len (g := fun k => chv sus c (k + 1) (l ++ [sus[k]?.getD 0])) (n := sus.length) (m := sus.length - f) (f := f) (by omega) fun k _ _ => chv_len
      omega
    · rw [frm_end (by omega)]; exact Nat.zero_le _
theorem chv_none {sus : List Int} : ∀ {c f : Nat} {l : List Int}, sus.length < f + (c + 1) → chv sus (c + 1) f l = []
  | 0, f, l, h => frm_end (by omega)
  | c + 1, f, l, h => frm_nil fun k h1 h2 => chv_none (by omega)
theorem chv_mem {sus : List Int} : ∀ {c f : Nat} {l x : List Int}, x ∈ chv sus c f l → x.length = l.length + c ∧ ∀ y ∈ x, y ∈ l ∨ y ∈ sus
  | 0, f, l, x, h => by
    have : x = l := by simpa [chv] using h
    subst this; exact ⟨rfl, fun y hy => .inl hy⟩
  | c + 1, f, l, x, h => by
    obtain ⟨k, h1, h2, h3⟩ := frm_mem (show x ∈ frm _ _ _ from h)
    obtain ⟨e, hm⟩ := chv_mem h3
    refine ⟨by rw [e]; simp; omega, fun y hy => ?_⟩
    rcases hm y hy with h | h
    · rcases List.mem_append.1 h with h | h
      · exact .inl h
      · have hk : k < sus.length := by omega
        rw [List.getElem?_eq_getElem hk] at h
        have : y = sus[k] := by simpa using h
        exact .inr (this ▸ List.getElem_mem hk)
    · exact .inr h
def iota (n : Nat) : List Int := (List.range n).map fun i : Nat => (i : Int)
theorem iota_len (n : Nat) : (iota n).length = n := by simp [iota]
theorem iota_at {n k : Nat} (h : k < n) : (iota n)[k]?.getD 0 = (k : Int) := by simp [iota, h]
def ats (sus : List Int) (l : List Int) : List Int := l.map fun x => sus[x.toNat]?.getD 0
theorem ats_snoc {sus l : List Int} {k : Nat} : ats sus (l ++ [(k : Int)]) = ats sus l ++ [sus[k]?.getD 0] := by simp [ats]
theorem ats_take {sus l : List Int} {k : Nat} (h : k < l.length) : ats sus (l.take (k + 1)) = ats sus (l.take k) ++ [sus[(l[k]?.getD 0).toNat]?.getD 0] := by
  unfold ats
  rw [List.take_add_one, List.map_append, List.getElem?_eq_getElem h]; rfl
theorem chv_ats {sus : List Int} : ∀ {c f : Nat} {l : List Int}, (chv (iota sus.length) c f l).map (ats sus) = chv sus c f (ats sus l)
  | 0, f, l => rfl
  | c + 1, f, l => by
    show (frm _ ((iota sus.length).length - f) f).map (ats sus) = frm _ (sus.length - f) f
    rw [frm_map, iota_len]
    refine frm_congr fun k h1 h2 => ?_
    show (chv _ _ _ _).map _ = _
    rw [chv_ats, iota_at (by omega), ats_snoc]

/-! ### A visitor that may stop -/
def runV {σ : Type} (step : σ → List Int → σ × Bool) : List (List Int) → σ → σ × Bool
  | [], s => (s, false)
  | x :: xs, s => if (step s x).2 = true then ((step s x).1, true) else runV step xs (step s x).1
variable {σ : Type} {step : σ → List Int → σ × Bool}
theorem runV_one {x : List Int} {s : σ} : runV step [x] s = step s x := by
  unfold runV
  split
  · rename_i h; rw [← h]
  · rename_i h; rw [Bool.not_eq_true] at h; unfold runV; rw [← h]
theorem runV_cons {x : List Int} {xs : List (List Int)} {s : σ} : runV step (x :: xs) s = if (step s x).2 = true then ((step s x).1, true) else runV step xs (step s x).1 := rfl
theorem runV_go {xs ys : List (List Int)} {s : σ} (h : (runV step xs s).2 = false) : runV step (xs ++ ys) s = runV step ys (runV step xs s).1 := by
  induction xs generalizing s with
  | nil => rfl
  | cons x xs ih =>
    rw [List.cons_append, runV_cons, runV_cons]
    rw [runV_cons] at h
    split
    · rename_i e; rw [if_pos e] at h; cases h
    · rename_i e; rw [if_neg e] at h
      exact ih h
theorem runV_stop {xs ys : List (List Int)} {s : σ} (h : (runV step xs s).2 = true) : runV step (xs ++ ys) s = runV step xs s := by
  induction xs generalizing s with
  | nil => cases h
  | cons x xs ih =>
    rw [List.cons_append, runV_cons, runV_cons]
    rw [runV_cons] at h
    split
    · rfl
    · rename_i e; rw [if_neg e] at h; exact ih h
theorem runV_map {m : List Int → List Int} {xs : List (List Int)} {s : σ} : runV (fun s x => step s (m x)) xs s = runV step (xs.map m) s := by
  induction xs generalizing s with
  | nil => rfl
  | cons x xs ih =>
    show (if (step s (m x)).2 = true then ((step s (m x)).1, true) else runV _ xs (step s (m x)).1) = (if (step s (m x)).2 = true then ((step s (m x)).1, true) else runV step (xs.map m) (step s (m x)).1)
    rw [ih]
theorem runV_filter {q : List Int → Bool} {xs : List (List Int)} {s : σ} : runV (fun s x => if q x = true then step s x else (s, false)) xs s = runV step (xs.filter q) s := by
  induction xs generalizing s with
  | nil => rfl
  | cons x xs ih =>
    rw [List.filter_cons]
    conv => lhs; unfold runV
    cases e : q x
    · simp only [Bool.false_eq_true, if_false]; exact ih
    · simp only [if_true]
      conv => rhs; unfold runV
      rw [ih]

/-! ### Explanations -/
def exl (p : Pln) (d : List Int) (c : Nat) : List (List Int) := (chv (sps p d) c 0 []).filter (expB p d)
def exTo (p : Pln) (d : List Int) (k : Nat) : List (List Int) := (List.range k).flatMap (exl p d)
def exA (p : Pln) (d : List Int) : List (List Int) := exTo p d ((sps p d).length + 1)
theorem exTo_succ (p : Pln) (d : List Int) (k : Nat) : exTo p d (k + 1) = exTo p d k ++ exl p d k := by
  unfold exTo; rw [List.range_succ, List.flatMap_append, List.flatMap_singleton]
theorem exTo_pre (p : Pln) (d : List Int) {k m : Nat} (h : k ≤ m) : ∃ r, exTo p d m = exTo p d k ++ r := by
  induction m with
  | zero => exact ⟨[], by rw [show k = 0 by omega]; simp⟩
  | succ m ih =>
    by_cases e : k = m + 1
    · subst e; exact ⟨[], by simp⟩
    · obtain ⟨r, hr⟩ := ih (by omega)
      exact ⟨r ++ exl p d m, by rw [exTo_succ, hr, List.append_assoc]⟩
def stE (p : Pln) (d all : List Int) (step : σ → List Int → σ × Bool) (s : σ) (places : List Int) : σ × Bool :=
  if expB p d (ats all places) = true then step s (ats all places) else (s, false)
theorem runV_exl {p : Pln} {d : List Int} {c : Nat} {s : σ} : runV (stE p d (sps p d) step) (chv (iota (sps p d).length) c 0 []) s = runV step (exl p d c) s := by
  have e := runV_map (step := fun s x => if expB p d x = true then step s x else (s, false)) (m := ats (sps p d)) (xs := chv (iota (sps p d).length) c 0 []) (s := s)
  refine Eq.trans (show runV (stE p d (sps p d) step) _ s = _ from e) ?_
  rw [chv_ats, runV_filter]; rfl
theorem sps_mem {p : Pln} {d : List Int} {g : Int} (h : g ∈ sps p d) : ∃ k : Nat, g = (k : Int) ∧ k < (grps p.n).length ∧ susB p d k = true := by
  unfold sps susTo at h
  rw [List.mem_map] at h
  obtain ⟨k, hk, rfl⟩ := h
  rw [List.mem_filter] at hk
  exact ⟨k, rfl, List.mem_range.1 hk.1, hk.2⟩
theorem sus_pos {p : Pln} {d : List Int} {g : Int} (h : g ∈ sps p d) : (hts p [g]).isEmpty = false := by
  obtain ⟨k, rfl, -, hs⟩ := sps_mem h
  unfold susB at hs
  simp only [Bool.and_eq_true, Bool.not_eq_true'] at hs
  exact hs.1
/-- Of suspects it is enough that the union is the mask. -/
theorem expB_sus {p : Pln} {d gs : List Int} (hd : dwOk p d = true) (h : ∀ g ∈ gs, g ∈ sps p d) : expB p d gs = decide (uni (hmks p) gs = dmk p d) := by
  unfold expB
  rw [exp_uni hd, show (gs.any fun g => (hts p [g]).isEmpty) = false from by rw [List.any_eq_false]; intro g hg; rw [sus_pos (h g hg)]; simp]
  simp
def uniB (p : Pln) (d gs : List Int) : Bool := decide (uni (hmks p) gs = dmk p d)
theorem exl_spec {p : Pln} {d : List Int} (hd : dwOk p d = true) (c : Nat) : exl p d c = (chv (sps p d) c 0 []).filter (uniB p d) := by
  unfold exl
  refine List.filter_congr fun x hx => ?_
  have := (chv_mem hx).2
  exact expB_sus hd fun g hg => (this g hg).elim (fun h => by cases h) id
end Go.Proofs.YtmkkdenhjfjmgaaGreat
namespace Go.Proofs.YtmkkdenhjfjmgaaGreat
open Go.RowKit Go.Sort

/-! ### The first explanation -/
def stF (_ : Option (List Int)) (list : List Int) : Option (List Int) × Bool := (some list, true)
theorem runV_first {xs : List (List Int)} : runV stF xs none = (xs.head?, !xs.isEmpty) := by cases xs <;> rfl
def fewO (p : Pln) (d : List Int) : Option (List Int) := (exA p d).head?
def fewL (p : Pln) (d : List Int) : List Int := (fewO p d).getD []
def fewB (p : Pln) (d : List Int) : Bool := (fewO p d).isSome
theorem runV_few (p : Pln) (d : List Int) : (runV stF (exA p d) none).1 = fewO p d := by rw [runV_first]; rfl
theorem few_at {p : Pln} {d : List Int} {k : Nat} (hk : k ≤ (sps p d).length) (h0 : exTo p d k = []) {x : List Int} {xs : List (List Int)} (h : exl p d k = x :: xs) : fewO p d = some x := by
  obtain ⟨r, hr⟩ := exTo_pre p d (show k + 1 ≤ (sps p d).length + 1 by omega)
  unfold fewO exA
  rw [hr, exTo_succ, h0, h]; rfl
theorem few_none {p : Pln} {d : List Int} (h0 : exTo p d ((sps p d).length + 1) = []) : fewO p d = none := by unfold fewO exA; rw [h0]; rfl

/-! ### The minimal explanations -/
end Go.Proofs.YtmkkdenhjfjmgaaGreat
