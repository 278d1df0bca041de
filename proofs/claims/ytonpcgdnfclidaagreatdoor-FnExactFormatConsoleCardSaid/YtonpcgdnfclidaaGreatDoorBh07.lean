/- Joined: XCol XCos XGroW XLgo XLpb. -/
import Derived.Test.YtonpcgdnfclidaaGreatDoorBh06
import Derived.Lib.QuietBelow
import Derived.Deep.RegionHeld3
import Derived.Test.YtonpcgdnfclidaaGreatDoorBh03
import Derived.Test.YtonpcgdnfclidaaGreatDoorBh02
import Derived.Test.YtonpcgdnfclidaaGreatDoorBh04
namespace Go.Proofs.YtonpcgdnfclidaaGreatDoor
open Go.RowKit Go.Sort
set_option maxRecDepth 100000

set_option maxHeartbeats 1600000 in
theorem collide_any (v1 v2 : Value) (x y : Lgt) (w : World) (h1 : Rd w v1 x.fb) (h2 : Rd w v2 y.fb) (hb1 : blkOk x.fi x.ct = true) (hb2 : blkOk y.fi y.ct = true) (hl : x.fb.length ≤ 1100000) :
    Calls Tryz.prog 61 #[.agg #[.int .i64 x.id, .int .i64 x.st, v1, .int .i64 x.fi, .int .i64 x.ct], .agg #[.int .i64 y.id, .int .i64 y.st, v2, .int .i64 y.fi, .int .i64 y.ct]] w fun e w' => e = .returned (.bool (collB x y)) ∧ Below w.heap.size w w' := by
  have HC := Lib.hid (fun w' (hb : Below w.heap.size w w') => common_any v1 v2 x.fb y.fb w' (h1.belowAll hb) (h2.belowAll hb) hl)
  have HM := Lib.hid (meets_cmn x.fb y.fb)
  have hd1 := blkOk_bd hb1
  have hd2 := blkOk_bd hb2
  obtain ⟨a1, c1, m1, -, rfl, -, -, -⟩ := h1.opn
  obtain ⟨a2, c2, m2, -, rfl, -, -, -⟩ := h2.opn
  have HF := Lib.hid (show collB x y = (decide (x.fi < y.fi + y.ct ∧ y.fi < x.fi + x.ct) && meets x.fb y.fb) from rfl)
  obtain ⟨bx, bc, blt, -⟩ := box_facts w #[.int .i64 x.id, .int .i64 x.st, .slice a1 m1 c1, .int .i64 x.fi, .int .i64 x.ct] 98
  obtain ⟨by', bd, bmt, -⟩ := box_facts (w.alloc (.cells #[.int .i64 x.id, .int .i64 x.st, .slice a1 m1 c1, .int .i64 x.fi, .int .i64 x.ct] 98)) #[.int .i64 y.id, .int .i64 y.st, .slice a2 m2 c2, .int .i64 y.fi, .int .i64 y.ct] 98
  have q2 := (by'.cell (p := ⟨w.heap.size, 2, none⟩) blt).trans (bc 2 _ rfl)
  have q3 := (by'.cell (p := ⟨w.heap.size, 3, none⟩) blt).trans (bc 3 _ rfl)
  have q4 := (by'.cell (p := ⟨w.heap.size, 4, none⟩) blt).trans (bc 4 _ rfl)
  have l2 := bd 2 _ rfl
  have l3 := bd 3 _ rfl
  have l4 := bd 4 _ rfl
  have hs1 : (w.alloc (.cells #[.int .i64 x.id, .int .i64 x.st, .slice a1 m1 c1, .int .i64 x.fi, .int .i64 x.ct] 98)).heap.size = w.heap.size + 1 := by simp
  rw [hs1] at l2 l3 l4 bmt
  have blt2 := Nat.lt_of_lt_of_le blt by'.size
  have HBX := Lib.hid (bx.trans (by'.mono bx.size))
  clear bc bd bx by' hs1 blt h1 h2 hb1 hb2
  generalize collB x y = q at *
  generalize meets x.fb y.fb = mt at *
  generalize cmn x.fb y.fb = cm at *
  generalize x.fi = xf at *
  generalize y.fi = yf at *
  generalize x.ct = xc at *
  generalize y.ct = yc at *
  obtain ⟨f, rfl⟩ : ∃ f : Nat, xf = (f : Int) := ⟨xf.toNat, by omega⟩
  obtain ⟨g, rfl⟩ : ∃ f : Nat, yf = (f : Int) := ⟨yf.toNat, by omega⟩
  obtain ⟨c, rfl⟩ : ∃ f : Nat, xc = (f : Int) := ⟨xc.toNat, by omega⟩
  obtain ⟨d, rfl⟩ : ∃ f : Nat, yc = (f : Int) := ⟨yc.toNat, by omega⟩
  have HX := Lib.hid (fun w => maskOf_any f c w (by omega))
  have HY := Lib.hid (fun w => maskOf_any g d w (by omega))
  have hbm := bits_meet (f := f) (c := c) (g := g) (d := d) (by omega) (by omega) (by omega) (by omega)
  clear hd1 hd2
  generalize mskN f c = s1 at *
  generalize mskN g d = s2 at *
  go_enter Tryz.func61, Tryz.ntmps61
  go_wp2
  generalize (w.alloc (.cells #[.int .i64 x.id, .int .i64 x.st, .slice a1 m1 c1, .int .i64 f, .int .i64 c] 98)).alloc (.cells #[.int .i64 y.id, .int .i64 y.st, .slice a2 m2 c2, .int .i64 g, .int .i64 d] 98) = w2 at *
  cases hd : decide ((f : Int) < g + d ∧ (g : Int) < f + c)
  · rw [hd] at hbm HF
    clear hd
    have j2 := rg q2
    have j3 := rg q3
    have j4 := rg q4
    have k2 := rg l2
    have k3 := rg l3
    have k4 := rg l4
    refine wp_region_quiet_below (by kernel_rfl) (by kernel_rfl) ?_
    repeat (go_big_quiet_step (first | (go_at_call 91; first | (with_reducible exact Calls.regrown_of (HX.out _)) | (with_reducible exact Calls.regrown_of (HY.out _)))))
    refine wpQuiet_nil ?_
    rintro _ ⟨⟨dq, osq⟩, rfl⟩
    go_wp2
    go_ret
    exact ⟨by rw [HF.out]; rfl, HBX.out.trans ((below_regrown _ dq osq).mono HBX.out.size)⟩
  rw [hd] at hbm HF
  clear hd
  have HS := Lib.hid (fun (w' : World) (hb : Below w2.heap.size w2 w') => show Below w2.heap.size w2 w' ∧ w'.cell? ⟨w.heap.size, 2, none⟩ = some (.slice a1 m1 c1) ∧ w'.cell? ⟨w.heap.size, 3, none⟩ = some (.int .i64 f) ∧ w'.cell? ⟨w.heap.size, 4, none⟩ = some (.int .i64 c) ∧ w'.cell? ⟨w.heap.size + 1, 2, none⟩ = some (.slice a2 m2 c2) ∧ w'.cell? ⟨w.heap.size + 1, 3, none⟩ = some (.int .i64 g) ∧ w'.cell? ⟨w.heap.size + 1, 4, none⟩ = some (.int .i64 d) from
    ⟨hb, (hb.cell blt2).trans q2, (hb.cell blt2).trans q3, (hb.cell blt2).trans q4, (hb.cell bmt).trans l2, (hb.cell bmt).trans l3, (hb.cell bmt).trans l4⟩)
  have HBS := Lib.hid (fun (wx w' : World) (hb : Below w2.heap.size w2 wx) (hc : Below wx.heap.size wx w') => show Below w2.heap.size w2 w' from hb.trans (hc.mono hb.size))
  have HCB := Lib.hid (fun (w' : World) (hb : Below w2.heap.size w2 w') => HC.out w' (HBX.out.trans (hb.mono HBX.out.size)))
  have s0 : Below w2.heap.size w2 w2.drew := (Below.refl w2.heap.size w2).drew
  clear q2 q3 q4 l2 l3 l4
  go_region_held3 (fun w' => Below w2.heap.size w2 w' ∧ w'.cell? ⟨w.heap.size, 2, none⟩ = some (.slice a1 m1 c1) ∧ w'.cell? ⟨w.heap.size, 3, none⟩ = some (.int .i64 f) ∧ w'.cell? ⟨w.heap.size, 4, none⟩ = some (.int .i64 c) ∧ w'.cell? ⟨w.heap.size + 1, 2, none⟩ = some (.slice a2 m2 c2) ∧ w'.cell? ⟨w.heap.size + 1, 3, none⟩ = some (.int .i64 g) ∧ w'.cell? ⟨w.heap.size + 1, 4, none⟩ = some (.int .i64 d))
    (first | exact HS.out _ (by assumption))
    (first
      | (go_at_call 91; first | ((with_reducible refine (HX.out _).mono ?_); rintro e w5 ⟨rfl, b5⟩; have s5 := HBS.out _ _ (And.left (by assumption)) b5; clear b5) | ((with_reducible refine (HY.out _).mono ?_); rintro e w6 ⟨rfl, b6⟩; have s6 := HBS.out _ _ (And.left (by assumption)) b6; clear b6))
      | (go_at_call 92; go_loud (refine (HCB.out _ (And.left (by assumption))).mono ?_; rintro e w7 ⟨v7, rfl, o7, b7⟩; obtain ⟨a7, c7, n7, HN7, rfl, -, hn7, -⟩ := o7.rd.opn; have s7 := HBS.out _ _ (And.left (by assumption)) b7; clear b7 o7)))
  all_goals
    go_wp2
    go_ret
    exact ⟨by rw [HF.out, HM.out, HN7.out]; rfl, HBX.out.trans (s7.mono HBX.out.size)⟩
end Go.Proofs.YtonpcgdnfclidaaGreatDoor
namespace Go.Proofs.YtonpcgdnfclidaaGreatDoor
open Go.RowKit Go.Sort
set_option maxRecDepth 100000

set_option maxHeartbeats 1600000 in
theorem l9Collide_any (v1 v2 : Value) (x y : Lgt) (w : World) (h1 : Rd w v1 x.fb) (h2 : Rd w v2 y.fb) (hb1 : blkOk x.fi x.ct = true) (hb2 : blkOk y.fi y.ct = true) (_hl : x.fb.length ≤ 1100000) :
    Calls Tryz.prog 81 #[.agg #[.int .i64 x.id, .int .i64 x.st, v1, .int .i64 x.fi, .int .i64 x.ct], .agg #[.int .i64 y.id, .int .i64 y.st, v2, .int .i64 y.fi, .int .i64 y.ct]] w fun e w' => e = .returned (.bool (collB x y)) ∧ Below w.heap.size w w' := by
  have HC := Lib.hid (fun w' (hb : Below w.heap.size w w') => l4Uses_any v1 v2 ⟨x.st, x.fb⟩ y.fb w' (h1.belowAll hb) (h2.belowAll hb))
  have hd1 := blkOk_bd hb1
  have hd2 := blkOk_bd hb2
  obtain ⟨a1, c1, m1, -, rfl, -, -, -⟩ := h1.opn
  obtain ⟨a2, c2, m2, -, rfl, -, -, -⟩ := h2.opn
  have HF := Lib.hid (show collB x y = (decide (x.fi < y.fi + y.ct ∧ y.fi < x.fi + x.ct) && meets x.fb y.fb) from rfl)
  obtain ⟨bx, bc, blt, -⟩ := box_facts w #[.int .i64 x.id, .int .i64 x.st, .slice a1 m1 c1, .int .i64 x.fi, .int .i64 x.ct] 98
  obtain ⟨by', bd, bmt, -⟩ := box_facts (w.alloc (.cells #[.int .i64 x.id, .int .i64 x.st, .slice a1 m1 c1, .int .i64 x.fi, .int .i64 x.ct] 98)) #[.int .i64 y.id, .int .i64 y.st, .slice a2 m2 c2, .int .i64 y.fi, .int .i64 y.ct] 98
  have q1 := (by'.cell (p := ⟨w.heap.size, 1, none⟩) blt).trans (bc 1 _ rfl)
  have q2 := (by'.cell (p := ⟨w.heap.size, 2, none⟩) blt).trans (bc 2 _ rfl)
  have q3 := (by'.cell (p := ⟨w.heap.size, 3, none⟩) blt).trans (bc 3 _ rfl)
  have q4 := (by'.cell (p := ⟨w.heap.size, 4, none⟩) blt).trans (bc 4 _ rfl)
  have l2 := bd 2 _ rfl
  have l3 := bd 3 _ rfl
  have l4 := bd 4 _ rfl
  have hs1 : (w.alloc (.cells #[.int .i64 x.id, .int .i64 x.st, .slice a1 m1 c1, .int .i64 x.fi, .int .i64 x.ct] 98)).heap.size = w.heap.size + 1 := by simp
  rw [hs1] at l2 l3 l4 bmt
  have blt2 := Nat.lt_of_lt_of_le blt by'.size
  have HBX := Lib.hid (bx.trans (by'.mono bx.size))
  clear bc bd bx by' hs1 blt h1 h2 hb1 hb2
  generalize collB x y = q at *
  have HCQ := Lib.hid (fun w' (hb : Below w.heap.size w w') => show Calls Tryz.prog 113 #[.agg #[.int .i64 x.st, .slice a1 m1 c1], .slice a2 m2 c2] w' fun e w'' => e = .returned (.bool (meets x.fb y.fb)) ∧ Below w'.heap.size w' w'' from HC.out w' hb)
  clear HC
  generalize meets x.fb y.fb = mt at *
  generalize x.st = xs at *
  generalize x.fi = xf at *
  generalize y.fi = yf at *
  generalize x.ct = xc at *
  generalize y.ct = yc at *
  obtain ⟨f, rfl⟩ : ∃ f : Nat, xf = (f : Int) := ⟨xf.toNat, by omega⟩
  obtain ⟨g, rfl⟩ : ∃ f : Nat, yf = (f : Int) := ⟨yf.toNat, by omega⟩
  obtain ⟨c, rfl⟩ : ∃ f : Nat, xc = (f : Int) := ⟨xc.toNat, by omega⟩
  obtain ⟨d, rfl⟩ : ∃ f : Nat, yc = (f : Int) := ⟨yc.toNat, by omega⟩
  have HX := Lib.hid (fun w => l8Bits_any f c w (by omega))
  have HY := Lib.hid (fun w => l8Bits_any g d w (by omega))
  have hbm := bits_meet (f := f) (c := c) (g := g) (d := d) (by omega) (by omega) (by omega) (by omega)
  clear hd1 hd2
  generalize mskN f c = s1 at *
  generalize mskN g d = s2 at *
  go_enter Tryz.func81, Tryz.ntmps81
  go_wp2
  generalize (w.alloc (.cells #[.int .i64 x.id, .int .i64 xs, .slice a1 m1 c1, .int .i64 f, .int .i64 c] 98)).alloc (.cells #[.int .i64 y.id, .int .i64 y.st, .slice a2 m2 c2, .int .i64 g, .int .i64 d] 98) = w2 at *
  generalize decide ((f : Int) < g + d ∧ (g : Int) < f + c) = hh at *
  have HCB := Lib.hid (fun (w' : World) (hb : Below w2.heap.size w2 w') => HCQ.out w' (HBX.out.trans (hb.mono HBX.out.size)))
  clear HCQ
  cases mt
  · have j1 := rg q1
    have j2 := rg q2
    have k2 := rg l2
    clear q1 q2 q3 q4 l2 l3 l4
    refine wp_region_quiet_below (by kernel_rfl) (by kernel_rfl) ?_
    repeat (go_big_quiet_step (first | (go_at_call 113; exact Calls.regrown_of (HCB.out _ (below_regrown _ _ _)))))
    refine wpQuiet_nil ?_
    rintro _ ⟨⟨dq, osq⟩, rfl⟩
    go_wp2
    go_ret
    exact ⟨by rw [HF.out]; cases hh <;> rfl, HBX.out.trans ((below_regrown _ dq osq).mono HBX.out.size)⟩
  have j1 := rg q1
  have j2 := rg q2
  have j3 := rg q3
  have j4 := rg q4
  have k2 := rg l2
  have k3 := rg l3
  have k4 := rg l4
  clear q1 q2 q3 q4 l2 l3 l4
  refine wp_region_quiet_below (by kernel_rfl) (by kernel_rfl) ?_
  repeat (go_big_quiet_step (first | (go_at_call 113; exact Calls.regrown_of (HCB.out _ (below_regrown _ _ _))) | (go_at_call 114; first | (with_reducible exact Calls.regrown_of (HX.out _)) | (with_reducible exact Calls.regrown_of (HY.out _)))))
  refine wpQuiet_nil ?_
  rintro _ ⟨⟨dq, osq⟩, rfl⟩
  go_wp2
  go_ret
  exact ⟨by rw [HF.out]; simp, HBX.out.trans ((below_regrown _ dq osq).mono HBX.out.size)⟩
end Go.Proofs.YtonpcgdnfclidaaGreatDoor
namespace Go.Proofs.YtonpcgdnfclidaaGreatDoor
open Go.RowKit Go.Sort
set_option maxRecDepth 100000

/-! ### Searches -/
section
variable {α : Type}
theorem anyG_more {zs : List α} {p : α → Bool} {nil : α} {k : Nat} (hk : k < zs.length) (h : (zs.take k).any p = false) (e : p (zs[k]?.getD nil) = false) : (zs.take (k + 1)).any p = false := by
  rw [List.getElem?_eq_getElem hk] at e
  rw [List.take_add_one, List.any_append, h, List.getElem?_eq_getElem hk]
  simpa using e
/-- The first place, or -1. -/
def idxG (zs : List α) (p : α → Bool) : Int := match zs.findIdx? p with | some k => k | none => -1
theorem idxG_none {zs : List α} {p : α → Bool} (h : zs.any p = false) : idxG zs p = -1 := by
  have : zs.findIdx? p = none := by rw [List.findIdx?_eq_none_iff]; simpa [List.any_eq_false] using h
  simp [idxG, this]
theorem idxG_some {zs : List α} {p : α → Bool} {nil : α} {k : Nat} (hk : k < zs.length) (h : (zs.take k).any p = false) (e : p (zs[k]?.getD nil) = true) : idxG zs p = k := by
  have : zs.findIdx? p = some k := by
    rw [List.findIdx?_eq_some_iff_getElem]
    refine ⟨hk, by simpa [List.getElem?_eq_getElem hk] using e, fun j hj => ?_⟩
    simp only [List.any_eq_false] at h
    have := h zs[j] (List.mem_take_iff_getElem.2 ⟨j, by omega, by simp⟩)
    simpa using this
  simp [idxG, this]
theorem idxG_geq (zs : List α) (p : α → Bool) : decide (0 ≤ idxG zs p) = zs.any p := by
  cases h : zs.findIdx? p with
  | none =>
    rw [List.findIdx?_eq_none_iff] at h
    have : zs.any p = false := by simpa [List.any_eq_false] using h
    rw [this]; simp [idxG_none this]
  | some k =>
    have := h
    rw [List.findIdx?_eq_some_iff_getElem] at h
    obtain ⟨hk, e, _⟩ := h
    have h2 : zs.any p = true := List.any_eq_true.2 ⟨_, List.getElem_mem hk, e⟩
    rw [h2]; simp [idxG, this]
end
/-- Number F is a function of Go text. -/
def IsFn (F : FuncId) : Prop := ∀ (args : Array Value) (w : World), (callFunc F args).run Tryz.prog w = .ok (.enter F args) w
theorem isFn_of {F : FuncId} {fn : Func} (h1 : Tryz.prog.funcs[F]? = some fn) (h2 : (fn.name == "runtime.NumGoroutine") = false) (h3 : fn.body.isNone = false) : IsFn F := by
  intro args w
  unfold callFunc
  simp only [Sem.run_bind, run_program, Result.andThen_ok, h1, h2, h3]
  rfl

/-! ### Growths -/
abbrev ptr (b : Nat) : Value := .pointer (some ⟨b, 0, none⟩)
end Go.Proofs.YtonpcgdnfclidaaGreatDoor
namespace Go.Proofs.YtonpcgdnfclidaaGreatDoor
open Go.RowKit Go.Sort
set_option maxRecDepth 100000

theorem lgt_leaf {w : World} {x : Value} {u : Value} (h : Rdt w (.leaf x) u) : u = x := by cases h; rfl
theorem lgt_opn {w : World} {v : Value} {zs : List Lgt} (h : Rdt w (rws 5 lgtD zs) v) : ∃ a n cap, v = .slice a n cap ∧ Hid (zs.length = n) ∧ n ≤ cap ∧ n ≤ 9223372036854775807 ∧
    (0 < n → ∃ b off, a = some ⟨b, off, none⟩ ∧ b < w.heap.size ∧ ∀ i, i < n → ∃ u, w.cell? ⟨b, off + i * 5, none⟩ = some (.int .i64 (zs[i]?.getD nilL).id) ∧ w.cell? ⟨b, off + i * 5 + 1, none⟩ = some (.int .i64 (zs[i]?.getD nilL).st) ∧
      w.cell? ⟨b, off + i * 5 + 2, none⟩ = some u ∧ w.cell? ⟨b, off + i * 5 + 3, none⟩ = some (.int .i64 (zs[i]?.getD nilL).fi) ∧ w.cell? ⟨b, off + i * 5 + 4, none⟩ = some (.int .i64 (zs[i]?.getD nilL).ct) ∧ Rd w u (zs[i]?.getD nilL).fb) := by
  obtain ⟨a, n, cap, e, HN, h1, h2, h3⟩ := rws_opn (m := 5) (en := lgtD) (fun _ => rfl) (by omega) nilL h
  refine ⟨a, n, cap, e, HN, h1, h2, fun h0 => ?_⟩
  obtain ⟨b, off, ea, hb, hc⟩ := h3 h0
  refine ⟨b, off, ea, hb, fun i hi => ?_⟩
  obtain ⟨u0, k0, d0⟩ := hc i hi 0 _ rfl
  obtain ⟨u1, k1, d1⟩ := hc i hi 1 _ rfl
  obtain ⟨u2, k2, d2⟩ := hc i hi 2 _ rfl
  obtain ⟨u3, k3, d3⟩ := hc i hi 3 _ rfl
  obtain ⟨u4, k4, d4⟩ := hc i hi 4 _ rfl
  rw [lgt_leaf d0] at k0
  rw [lgt_leaf d1] at k1
  rw [lgt_leaf d3] at k3
  rw [lgt_leaf d4] at k4
  exact ⟨u2, k0, k1, k2, k3, k4, Rdt.toRd d2⟩
set_option maxHeartbeats 1600000 in
theorem indexFuncLgt_any (v : Value) (zs : List Lgt) (F : FuncId) (b0 : Nat) (p : Lgt → Bool) (w : World) (h : Rdt w (rws 5 lgtD zs) v) (hF : IsFn F)
    (hp : ∀ (i : Nat) (w' : World), i < zs.length → Below w.heap.size w w' → ∀ z u, z = zs[i]?.getD nilL → Rd w' u z.fb → Calls Tryz.prog F #[.agg #[.int .i64 z.id, .int .i64 z.st, u, .int .i64 z.fi, .int .i64 z.ct], ptr b0] w' fun e w2 => e = .returned (.bool (p z)) ∧ Below w'.heap.size w' w2) :
    Calls Tryz.prog 90 #[v, .func (.func F) #[] #[ptr b0]] w fun e w' => e = .returned (.int .i64 (idxG zs p)) ∧ Below w.heap.size w w' := by
  obtain ⟨a, n, cap, rfl, HN, _, hla, ha⟩ := lgt_opn h
  rw [HN.out] at hp
  have HP := Lib.hid hp
  have HA := Lib.hid ha
  clear hp ha h
  have hF := show ∀ (args : Array Value) (w : World), (callFunc F args).run Tryz.prog w = .ok (.enter F args) w from hF
  have HI := Lib.hid (fun k hk h e => idxG_some (zs := zs) (p := p) (nil := nilL) (k := k) hk h e)
  have HO := Lib.hid (idxG_none (zs := zs) (p := p))
  have HM := Lib.hid (fun k hk h e => anyG_more (zs := zs) (p := p) (nil := nilL) (k := k) hk h e)
  generalize idxG zs p = r at *
  go_enter Tryz.func90, Tryz.ntmps90
  go_wp2
  go_loopw [5, 8] (fun _ i wr => ∃ k : Nat, k ≤ n ∧ i = .int .i64 k ∧ Hid ((zs.take k).any p = false) ∧ Hid (Below w.heap.size w wr)) (fun _ i _ => n - (intOf i).toNat)
  case atStart => exact ⟨0, by omega, rfl, by simp [Hid], Below.refl _ _⟩
  case round =>
    obtain ⟨k, hk, rfl, HT, HB⟩ := hrel
    by_cases hlt : k < n
    · have hltI : (k : Int) < (n : Int) := by omega
      have hkx : k < zs.length := by rw [HN.out]; exact hlt
      obtain ⟨b, off, rfl, hbs, hcs⟩ := HA.out (by omega)
      obtain ⟨u, e0, e1, e2, e3, e4, hru⟩ := hcs k hlt
      have hw0 := (HB.out.cell (p := ⟨b, off + k * 5, none⟩) hbs).trans e0
      have hw1 := (HB.out.cell (p := ⟨b, off + k * 5 + 1, none⟩) hbs).trans e1
      have hw2 := (HB.out.cell (p := ⟨b, off + k * 5 + 2, none⟩) hbs).trans e2
      have hw3 := (HB.out.cell (p := ⟨b, off + k * 5 + 3, none⟩) hbs).trans e3
      have hw4 := (HB.out.cell (p := ⟨b, off + k * 5 + 4, none⟩) hbs).trans e4
      have HSL := hru.opn
      have HPK := Lib.hid (HP.out k wr hlt HB.out _ u rfl (hru.belowAll HB.out))
      have HIK := Lib.hid (HI.out k hkx HT.out)
      have HMK := Lib.hid (HM.out k hkx HT.out)
      obtain ⟨au, cu, nu, -, rfl, -, -, -⟩ := HSL
      clear hcs hkx e0 e1 e2 e3 e4 hru
      generalize zs[k]?.getD nilL = z at *
      generalize p z = pz at *
      have hz := HB.out.size
      cases pz
      · have HE := Lib.hid (HMK.out rfl)
        go_wp2_with fail
        refine HPK.out.mono ?_
        rintro e w2 ⟨rfl, b2⟩
        have HB2 := Lib.hid (HB.out.trans (b2.mono hz))
        clear b2
        go_wp2
        go_roundw
        case rel => exact ⟨k + 1, by omega, by go_num, HE.out, HB2.out⟩
        case measure => simp [intOf]; omega
      · have HE := Lib.hid (HIK.out rfl)
        go_wp2_with fail
        refine HPK.out.mono ?_
        rintro e w2 ⟨rfl, b2⟩
        have HB2 := Lib.hid (HB.out.trans (b2.mono hz))
        clear b2
        go_wp2
        go_ret
        exact ⟨by rw [HE.out]; rfl, HB2.out⟩
    · obtain rfl : n = k := by omega
      have hall := HT.out
      rw [← HN.out, List.take_length] at hall
      have HE := Lib.hid (HO.out hall)
      clear hall
      go_wp2
      go_ret
      exact ⟨by rw [HE.out]; rfl, HB.out⟩
theorem containsFuncLgt_any (v : Value) (zs : List Lgt) (F : FuncId) (b0 : Nat) (p : Lgt → Bool) (w : World) (h : Rdt w (rws 5 lgtD zs) v) (hF : IsFn F)
    (hp : ∀ (i : Nat) (w' : World), i < zs.length → Below w.heap.size w w' → ∀ z u, z = zs[i]?.getD nilL → Rd w' u z.fb → Calls Tryz.prog F #[.agg #[.int .i64 z.id, .int .i64 z.st, u, .int .i64 z.fi, .int .i64 z.ct], ptr b0] w' fun e w2 => e = .returned (.bool (p z)) ∧ Below w'.heap.size w' w2) :
    Calls Tryz.prog 59 #[v, .func (.func F) #[] #[ptr b0]] w fun e w' => e = .returned (.bool (zs.any p)) ∧ Below w.heap.size w w' := by
  have HI := Lib.hid (indexFuncLgt_any v zs F b0 p w h hF hp)
  have HG := Lib.hid (idxG_geq zs p)
  generalize idxG zs p = r at *
  generalize zs.any p = s at *
  obtain ⟨a, n, cap, rfl, -⟩ := lgt_opn h
  clear h hp hF
  go_enter Tryz.func59, Tryz.ntmps59
  go_wp2_with fail
  refine HI.out.mono ?_
  rintro e w2 ⟨rfl, b2⟩
  have HB := Lib.hid b2
  clear b2
  go_wp2
  go_ret
  exact ⟨by rw [← HG.out]; rfl, HB.out⟩
end Go.Proofs.YtonpcgdnfclidaaGreatDoor
namespace Go.Proofs.YtonpcgdnfclidaaGreatDoor
open Go.RowKit Go.Sort
set_option maxRecDepth 100000

theorem lgt_opnw {w : World} {v : Value} {zs : List Lgt} (h : Rwt w (rws 5 lgtD zs) v) : ∃ a n cap, v = .slice a n cap ∧ Hid (zs.length = n) ∧ n ≤ 9223372036854775807 ∧
    (0 < n → ∃ b off, a = some ⟨b, off, none⟩ ∧ b < w.heap.size ∧ ∀ i, i < n → ∃ u, w.cell? ⟨b, off + i * 5, none⟩ = some (.int .i64 (zs[i]?.getD nilL).id) ∧ w.cell? ⟨b, off + i * 5 + 1, none⟩ = some (.int .i64 (zs[i]?.getD nilL).st) ∧
      w.cell? ⟨b, off + i * 5 + 2, none⟩ = some u ∧ w.cell? ⟨b, off + i * 5 + 3, none⟩ = some (.int .i64 (zs[i]?.getD nilL).fi) ∧ w.cell? ⟨b, off + i * 5 + 4, none⟩ = some (.int .i64 (zs[i]?.getD nilL).ct) ∧ Rw w u (zs[i]?.getD nilL).fb) := by
  obtain ⟨a, n, cap, hv, HN, h2, h3⟩ := h.opn
  have hn : zs.length = n := by have := HN.out; rw [flat_length (show ∀ z, (lgtD z).length = 5 from fun _ => rfl)] at this; omega
  refine ⟨a, n, cap, hv, hn, h2, fun h0 => ?_⟩
  obtain ⟨b, off, ea, hb, hc⟩ := h3 h0
  refine ⟨b, off, ea, hb, fun i hi => ?_⟩
  have hlt : i < zs.length := by omega
  have e0 : zs[i]? = some (zs[i]?.getD nilL) := by rw [List.getElem?_eq_getElem hlt]; rfl
  have g := fun r (hr : r < 5) d hd => rws_cellD (r := r) (d := d) (show ∀ z, (lgtD z).length = 5 from fun _ => rfl) e0 hr hd
  obtain ⟨u0, k0, l0⟩ := hc (i * 5 + 0) _ (g 0 (by omega) _ rfl)
  obtain ⟨u1, k1, l1⟩ := hc (i * 5 + 1) _ (g 1 (by omega) _ rfl)
  obtain ⟨u2, k2, l2⟩ := hc (i * 5 + 2) _ (g 2 (by omega) _ rfl)
  obtain ⟨u3, k3, l3⟩ := hc (i * 5 + 3) _ (g 3 (by omega) _ rfl)
  obtain ⟨u4, k4, l4⟩ := hc (i * 5 + 4) _ (g 4 (by omega) _ rfl)
  refine ⟨u2, ?_, ?_, ?_, ?_, ?_, l2.ints⟩
  · rw [show off + i * 5 = off + (i * 5 + 0) by omega, k0, l0.leaf_inv]
  · rw [show off + i * 5 + 1 = off + (i * 5 + 1) by omega, k1, l1.leaf_inv]
  · rw [show off + i * 5 + 2 = off + (i * 5 + 2) by omega, k2]
  · rw [show off + i * 5 + 3 = off + (i * 5 + 3) by omega, k3, l3.leaf_inv]
  · rw [show off + i * 5 + 4 = off + (i * 5 + 4) by omega, k4, l4.leaf_inv]
def totL (zs : List Lgt) : Nat := (zs.map fun x => x.fb.length).sum
theorem totL_step {zs : List Lgt} {k : Nat} (h : k < zs.length) : totL (zs.take (k + 1)) = totL (zs.take k) + (zs[k]?.getD nilL).fb.length := by
  rw [totL, totL, List.take_add_one, List.map_append, List.sum_append, List.getElem?_eq_getElem h]; simp
theorem totL_le (zs : List Lgt) (k : Nat) : totL (zs.take k) ≤ totL zs := by
  rw [totL, totL]
  conv => rhs; rw [← List.take_append_drop k zs, List.map_append, List.sum_append]
  omega
theorem totL_mem (zs : List Lgt) (k : Nat) : (zs[k]?.getD nilL).fb.length ≤ totL zs := by
  by_cases h : k < zs.length
  · have h1 := totL_step h
    have h2 := totL_le zs (k + 1)
    omega
  · rw [List.getElem?_eq_none (by omega)]; exact Nat.zero_le _
set_option maxHeartbeats 1600000 in
theorem szLightS_any (v : Value) (zs : List Lgt) (l : Int) (w : World) (h : Rwt w (rws 5 lgtD zs) v) (h0 : 0 ≤ l) (h1 : l ≤ 1048576) :
    Calls Tryz.prog 52 #[v, .int .i64 l] w (SzQ (zs.length + totL zs) l w) := by
  obtain ⟨a, n, cap, rfl, HN, hn, ha⟩ := lgt_opnw h
  have HT := Lib.hid (fun k (h : k < zs.length) => @totL_step zs k h)
  have HTL := Lib.hid (totL_le zs)
  have HAL := Lib.hid (show totL (zs.take n) = totL zs by rw [List.take_of_length_le (Nat.le_of_eq HN.out)])
  have HA := Lib.hid ha
  unfold SzQ
  rw [HN.out]
  clear h ha
  by_cases hc : l - n < 0
  · have hb : decide (l - n < 0) = true := by simpa using hc
    go_enter Tryz.func52, Tryz.ntmps52
    go_wp2
    go_ret
    exact ⟨-1, rfl, Below.refl _ _, .inl ⟨rfl, by omega⟩⟩
  have hb : decide (l - n < 0) = false := by simpa using hc
  have hc' : (n : Int) ≤ 1048576 := by omega
  go_enter Tryz.func52, Tryz.ntmps52
  go_wp2
  go_loopw [1, 5] (fun x i wr => ∃ (k : Nat) (r : Int), k ≤ n ∧ i = .int .i64 k ∧ x = .int .i64 r ∧ 0 ≤ r ∧ r ≤ 1048576 ∧ Hid ((n : Int) + totL (zs.take k) + r = l) ∧ Hid (Below w.heap.size w wr)) (fun _ i _ => n - (intOf i).toNat)
  case atStart => exact ⟨0, l - n, by omega, rfl, rfl, by omega, by omega, by show (n : Int) + ((totL (zs.take 0) : Nat) : Int) + (l - n) = l; simp [totL]; omega, Below.refl _ _⟩
  case round =>
    obtain ⟨k, r, hk, rfl, rfl, g0, g1, HR, HB⟩ := hrel
    by_cases hlt : k < n
    · obtain ⟨b, off, rfl, hbs, hcs⟩ := HA.out (by omega)
      obtain ⟨u, p0, p1, p2, p3, p4, hru⟩ := hcs k hlt
      have hltI : (k : Int) < (n : Int) := by omega
      have hlb : decide ((k : Int) < (n : Int)) = true := by simpa using hltI
      have d0 := (HB.out.cell (p := ⟨b, off + k * 5, none⟩) hbs).trans p0
      have d1 := (HB.out.cell (p := ⟨b, off + k * 5 + 1, none⟩) hbs).trans p1
      have d2 := (HB.out.cell (p := ⟨b, off + k * 5 + 2, none⟩) hbs).trans p2
      have d3 := (HB.out.cell (p := ⟨b, off + k * 5 + 3, none⟩) hbs).trans p3
      have d4 := (HB.out.cell (p := ⟨b, off + k * 5 + 4, none⟩) hbs).trans p4
      have HS := Lib.hid (szLight_any u (zs[k]?.getD nilL) r wr (hru.behind HB.out) g0 g1)
      have HTK := Lib.hid (HT.out k (show k < zs.length by rw [HN.out]; exact hlt))
      have HTK1 := Lib.hid (HTL.out (k + 1))
      have hz := HB.out.size
      obtain ⟨a2, n2, c2, rfl⟩ := hru.shape
      clear hcs hru p0 p1 p2 p3 p4
      generalize zs[k]?.getD nilL = f at *
      by_cases hx : r < (f.fb.length : Int)
      · rw [if_pos hx] at HS
        go_wp2_with fail
        refine HS.out.mono ?_
        rintro e w2 ⟨rfl, b2⟩
        have HB2 := Lib.hid (HB.out.trans (b2.mono hz))
        clear b2
        go_wp2
        go_ret
        exact ⟨-1, rfl, HB2.out, .inl ⟨rfl, by have := HR.out; have := HTK.out; have := HTK1.out; omega⟩⟩
      · rw [if_neg hx] at HS
        have hnn : ¬ r - (f.fb.length : Int) < 0 := by omega
        have hnb : decide (r - (f.fb.length : Int) < 0) = false := by simpa using hnn
        go_wp2_with fail
        refine HS.out.mono ?_
        rintro e w2 ⟨rfl, b2⟩
        have HB2 := Lib.hid (HB.out.trans (b2.mono hz))
        clear b2
        go_wp2
        go_roundw
        case rel => exact ⟨k + 1, r - f.fb.length, by omega, by go_num, rfl, by omega, by omega, by show (n : Int) + ((totL (zs.take (k + 1)) : Nat) : Int) + (r - f.fb.length) = l; have := HR.out; rw [HTK.out]; omega, HB2.out⟩
        case measure => simp [intOf]; omega
    · obtain rfl : k = n := by omega
      go_wp2
      go_ret
      exact ⟨r, rfl, HB.out, .inr ⟨by have := HR.out; rw [HAL.out] at this; omega, g0⟩⟩
theorem Tryz.infoLight : (Tryz.prog.info? 98).map (fun i => (i.zero, i.size, i.bytes)) = some (some (.agg #[.int .i64 0, .int .i64 0, .slice none 0 0, .int .i64 0, .int .i64 0]), 5, 56) := by kernel_rfl
theorem made_lights {w1 : World} {base n g : Nat} (h : w1.ownsRow base 98 5 (.slice (some ⟨g, 0, none⟩) n n) n (madeCells (Value.agg #[.int .i64 0, .int .i64 0, .slice none 0 0, .int .i64 0, .int .i64 0]).cells (n * 5)).toList) : Ofr w1 base (rws 5 lgtD (List.replicate n nilL)) (.slice (some ⟨g, 0, none⟩) n n) := by
  have hm : ∀ z, (lgtD z).length = 5 := fun _ => rfl
  refine Grw.ofr (T := 98) (n := n) ⟨_, List.replicate (n * 5) [], h, by rw [flat_length hm]; simp [madeCells], by rw [flat_length hm]; simp, fun j d u f e1 e2 e3 => ?_, by simp, by simp, by simp⟩
  have hj : j < n * 5 := by have := (List.getElem?_eq_some_iff.1 e3).1; simpa using this
  obtain ⟨k, r, hr, rfl⟩ : ∃ k r, r < 5 ∧ j = k * 5 + r := ⟨j / 5, j % 5, Nat.mod_lt _ (by omega), by omega⟩
  rw [flat_at hm _ _ _ hr] at e1
  have hz : (Value.agg #[.int .i64 0, .int .i64 0, .slice none 0 0, .int .i64 0, .int .i64 0]).cells = #[.int .i64 0, .int .i64 0, .slice none 0 0, .int .i64 0, .int .i64 0] := rfl
  rw [hz] at e2
  have hk : k < n := by omega
  have hm5 : (k * 5 + r) % 5 = r := by omega
  simp [hj, hk] at e1 e3
  simp [madeCells, hj, hm5] at e2
  subst e3
  match r, hr with
  | 0, _ => simp [lgtD, nilL] at e1; subst e1; subst e2; exact .leaf _
  | 1, _ => simp [lgtD, nilL] at e1; subst e1; subst e2; exact .leaf _
  | 2, _ => simp [lgtD, nilL] at e1; subst e1; subst e2; exact .nil 1
  | 3, _ => simp [lgtD, nilL] at e1; subst e1; subst e2; exact .leaf _
  | 4, _ => simp [lgtD, nilL] at e1; subst e1; subst e2; exact .leaf _
/-- A light stored over an element. -/
theorem put_light {w1 : World} {base lo k n cap : Nat} {a : Option Addr} {D : List Lgt} {x : Lgt} {u : Value} (h : Ofl w1 base lo (rws 5 lgtD D) (.slice a n cap)) (hbb : base ≤ lo) (hlo : lo ≤ w1.heap.size) (hu : Ofr w1 lo (inD x.fb) u) (hk : k < D.length) :
    ∃ g off, a = some ⟨g, off, none⟩ ∧ base ≤ g ∧ (∀ r, r < 5 → ∃ u0, w1.cell? ⟨g, off + k * 5 + r, none⟩ = some u0) ∧ (∀ j, w1.frozen? ⟨g, j, none⟩ = false) ∧
      Ofr (((((w1.setCell ⟨g, off + k * 5, none⟩ (.int .i64 x.id)).setCell ⟨g, off + k * 5 + 1, none⟩ (.int .i64 x.st)).setCell ⟨g, off + k * 5 + 2, none⟩ u).setCell ⟨g, off + k * 5 + 3, none⟩ (.int .i64 x.fi)).setCell ⟨g, off + k * 5 + 4, none⟩ (.int .i64 x.ct)) base (rws 5 lgtD (D.set k x)) (.slice a n cap) := by
  have hm : ∀ z, (lgtD z).length = 5 := fun _ => rfl
  obtain ⟨y, hy⟩ : ∃ y, D[k]? = some y := ⟨_, List.getElem?_eq_getElem hk⟩
  have h0 := h
  obtain ⟨g, off, rfl, hg, c0, f0, -, o1, t1⟩ := h.rwsPut hm (by omega) hbb 0 y ⟨x.id, y.st, y.fb, y.fi, y.ct⟩ (.leaf (.int .i64 x.id)) _ (Ofr.leaf w1 lo _) hy (by omega) rfl
  have o1 := o1 ⟨_, rfl⟩
  have u1 := t1 _ _ hu
  obtain ⟨g2, off2, ev, -, -, -, -, o2, t2⟩ := o1.rwsPut hm (by omega) hbb 1 ⟨x.id, y.st, y.fb, y.fi, y.ct⟩ ⟨x.id, x.st, y.fb, y.fi, y.ct⟩ (.leaf (.int .i64 x.st)) _ (Ofr.leaf _ lo _) (set_get hk) (by omega) rfl
  simp only [Option.some.injEq, Addr.mk.injEq, and_true] at ev
  obtain ⟨rfl, rfl⟩ := ev
  have o2 := o2 ⟨_, rfl⟩
  have u2 := t2 _ _ u1
  rw [List.set_set] at o2
  obtain ⟨g2, off2, ev, -, -, -, o3, -, -⟩ := o2.rwsPut hm (by omega) hbb 2 ⟨x.id, x.st, y.fb, y.fi, y.ct⟩ ⟨x.id, x.st, x.fb, y.fi, y.ct⟩ (inD x.fb) _ u2 (set_get hk) (by omega) rfl
  simp only [Option.some.injEq, Addr.mk.injEq, and_true] at ev
  obtain ⟨rfl, rfl⟩ := ev
  rw [List.set_set] at o3
  obtain ⟨g2, off2, ev, -, -, -, o4, -, -⟩ := o3.whole.rwsPut hm (by omega) (by simp; omega) 3 ⟨x.id, x.st, x.fb, y.fi, y.ct⟩ ⟨x.id, x.st, x.fb, x.fi, y.ct⟩ (.leaf (.int .i64 x.fi)) _ (Ofr.leaf _ _ _) (set_get hk) (by omega) rfl
  simp only [Option.some.injEq, Addr.mk.injEq, and_true] at ev
  obtain ⟨rfl, rfl⟩ := ev
  rw [List.set_set] at o4
  obtain ⟨g2, off2, ev, -, -, -, o5, -, -⟩ := o4.whole.rwsPut hm (by omega) (by simp; omega) 4 ⟨x.id, x.st, x.fb, x.fi, y.ct⟩ x (.leaf (.int .i64 x.ct)) _ (Ofr.leaf _ _ _) (set_get hk) (by omega) rfl
  simp only [Option.some.injEq, Addr.mk.injEq, and_true] at ev
  obtain ⟨rfl, rfl⟩ := ev
  rw [List.set_set] at o5
  refine ⟨g, off, rfl, hg, fun r hr => ?_, fun j => ?_, o5⟩
  · obtain ⟨fp, q, _⟩ := h0
    have hq : Rdt w1 (rws 5 lgtD D) (.slice (some ⟨g, off, none⟩) n cap) := q.rd
    obtain ⟨a', n', cap', e, HN, -, -, hc⟩ := hq.opn
    simp only [Value.slice.injEq] at e
    obtain ⟨rfl, rfl, rfl⟩ := e
    have hl := HN.out
    rw [flat_length hm] at hl
    obtain ⟨b, o, e, _, hc⟩ := hc (by omega)
    simp only [Option.some.injEq, Addr.mk.injEq, and_true] at e
    obtain ⟨rfl, rfl⟩ := e
    have hr5 : r < (lgtD y).length := by rw [hm]; exact hr
    obtain ⟨u0, k1, _⟩ := hc (k * 5 + r) _ (rws_cellD hm hy hr (List.getElem?_eq_getElem hr5))
    exact ⟨u0, by rw [Nat.add_assoc]; exact k1⟩
  · obtain ⟨fp, q, _⟩ := h0
    have q' : Odt w1 (.rows 5 (D.flatMap lgtD)) (.slice (some ⟨g, off, none⟩) n cap) fp := q
    generalize D.flatMap lgtD = ds at q'
    cases q' with
    | mk hl hu hf hn hc hgg hcs ht hd => exact frozen_of_row _ _ _ _ _ hgg
set_option maxHeartbeats 1600000 in
theorem toLightS_any (v : Value) (zs : List Lgt) (w : World) (h : Rwt w (rws 5 lgtD zs) v) (hr : zs.length ≤ 1048576) (hl : ∀ i : Nat, (zs[i]?.getD nilL).fb.length ≤ 1048576) :
    Calls Tryz.prog 56 #[v] w fun e w' => ∃ v', e = .returned v' ∧ Ofr w' w.heap.size (rws 5 lgtD zs) v' ∧ Below w.heap.size w w' := by
  obtain ⟨i0, hi, hz0, hz1, hz2⟩ := info_parts Tryz.infoLight
  obtain ⟨a, n, cap, rfl, HN, hn, ha⟩ := lgt_opnw h
  have HL := Lib.hid hl
  have HA := Lib.hid ha
  have HLN := Lib.hid (fun k hk => fillG_len nilL zs n k HN.out hk)
  have HST := Lib.hid (fun k hk => fillG_step nilL zs n k HN.out hk)
  have HAL := Lib.hid (fillG_all nilL zs n HN.out)
  rw [HN.out] at hr
  clear hl h ha
  go_enter Tryz.func56, Tryz.ntmps56
  go_wp2_with (refine wpList_make_full _ rfl _ _ 39 rfl w.heap.size 98 i0 (.agg #[.int .i64 0, .int .i64 0, .slice none 0 0, .int .i64 0, .int .i64 0]) 5 Tryz.underlying39 hi hz0 hz1 _ _ _ _ n rfl rfl rfl rfl (by rw [hz2]; omega) (by unfold maxLen; omega) (Nat.le_refl _) ?_; intro w1 hown1 hgrow1)
  have HO1 := Lib.hid (show Ofr w1 w.heap.size (rws 5 lgtD (fillG nilL zs n 0)) (.slice (some ⟨w.heap.size, 0, none⟩) n n) from by
    rw [fillG_zero]
    exact made_lights hown1)
  have HB1 := Lib.hid (show Below w.heap.size w w1 from (Below.refl _ _).grown hgrow1 (Nat.le_refl _) (by simp))
  clear hown1 hgrow1
  go_loopw [4] (fun i wr => ∃ k : Nat, k ≤ n ∧ i = .int .i64 k ∧ Hid (Ofr wr w.heap.size (rws 5 lgtD (fillG nilL zs n k)) (.slice (some ⟨w.heap.size, 0, none⟩) n n)) ∧ Hid (Below w.heap.size w wr)) (fun i _ => n - (intOf i).toNat)
  case atStart => exact ⟨0, by omega, rfl, HO1.out, HB1.out⟩
  case round =>
    obtain ⟨k, hk, rfl, HO, HB⟩ := hrel
    by_cases hlt : k < n
    · obtain ⟨b, off, rfl, hbs, hcs⟩ := HA.out (by omega)
      obtain ⟨u, p0, p1, p2, p3, p4, hru⟩ := hcs k hlt
      have hltI : (k : Int) < (n : Int) := by omega
      have d0 := (HB.out.cell (p := ⟨b, off + k * 5, none⟩) hbs).trans p0
      have d1 := (HB.out.cell (p := ⟨b, off + k * 5 + 1, none⟩) hbs).trans p1
      have d2 := (HB.out.cell (p := ⟨b, off + k * 5 + 2, none⟩) hbs).trans p2
      have d3 := (HB.out.cell (p := ⟨b, off + k * 5 + 3, none⟩) hbs).trans p3
      have d4 := (HB.out.cell (p := ⟨b, off + k * 5 + 4, none⟩) hbs).trans p4
      have HS := Lib.hid (toLight_any u (zs[k]?.getD nilL) wr (hru.behind HB.out) (HL.out k))
      have HSK := Lib.hid (HST.out k hlt)
      have HNK := Lib.hid (show k < (fillG nilL zs n k).length by rw [HLN.out k (by omega)]; exact hlt)
      obtain ⟨a2, n2, c2, rfl⟩ := hru.shape
      unfold ToP at HS
      clear hcs hru p0 p1 p2 p3 p4 HO1 HB1
      generalize zs[k]?.getD nilL = f at *
      go_wp2_with fail
      refine HS.out.mono ?_
      rintro e w2 ⟨v2, fp, rfl, ⟨u2, rfl, o2⟩, n2, g2, b2⟩
      obtain ⟨a5, c5, n5, -, rfl, -⟩ := (Rdt.toRd o2.rd).opn
      obtain ⟨g, o, ev, hg1, hcc, hfz, hof⟩ := put_light (x := f) (HO.out.ofl b2) HB.out.size b2.size ⟨fp, o2, n2, g2⟩ HNK.out
      simp only [Option.some.injEq, Addr.mk.injEq, and_true] at ev
      obtain ⟨rfl, rfl⟩ := ev
      rw [HSK.out] at hof
      obtain ⟨q0, c0⟩ := hcc 0 (by omega)
      obtain ⟨q1, c1⟩ := hcc 1 (by omega)
      obtain ⟨q2, c2'⟩ := hcc 2 (by omega)
      obtain ⟨q3, c3⟩ := hcc 3 (by omega)
      obtain ⟨q4, c4⟩ := hcc 4 (by omega)
      rw [Nat.zero_add] at c0 c1 c2' c3 c4 hof
      rw [Nat.add_zero] at c0
      have f0 := hfz (k * 5)
      have f1 := hfz (k * 5 + 1)
      have f2 := hfz (k * 5 + 2)
      have f3 := hfz (k * 5 + 3)
      have f4 := hfz (k * 5 + 4)
      have HOF := Lib.hid hof
      have HB2 := Lib.hid (HB.out.trans (b2.mono HB.out.size))
      clear hof o2 b2 hfz hcc n2 g2
      go_wp2
      go_roundw
      case rel => exact ⟨k + 1, by omega, by go_num, HOF.out, ((((HB2.out.setCell (p := ⟨w.heap.size, k * 5, none⟩) (Nat.le_refl _) _).setCell (p := ⟨w.heap.size, k * 5 + 1, none⟩) (Nat.le_refl _) _).setCell (p := ⟨w.heap.size, k * 5 + 2, none⟩) (Nat.le_refl _) _).setCell (p := ⟨w.heap.size, k * 5 + 3, none⟩) (Nat.le_refl _) _).setCell (p := ⟨w.heap.size, k * 5 + 4, none⟩) (Nat.le_refl _) _⟩
      case measure => simp [intOf]; omega
    · obtain rfl : k = n := by omega
      have hof := HO.out
      rw [HAL.out] at hof
      have HOF := Lib.hid hof
      go_wp2
      go_ret
      exact ⟨_, rfl, HOF.out, HB.out⟩
set_option maxHeartbeats 1600000 in
theorem eqLightS_same (va vb : Value) (zs : List Lgt) (w : World) (ha : Rdt w (rws 5 lgtD zs) va) (hb : Rdt w (rws 5 lgtD zs) vb) :
    Calls Tryz.prog 64 #[va, vb] w fun e w' => e = .returned (.bool true) ∧ Below w.heap.size w w' := by
  obtain ⟨a, n, ca, rfl, HN, _, hn, HA⟩ := lgt_opn ha
  obtain ⟨b, m, cb, rfl, HM, _, _, HBB⟩ := lgt_opn hb
  obtain rfl : n = m := HN.out.symm.trans HM.out
  have HA := Lib.hid HA
  have HBB := Lib.hid HBB
  clear HM ha hb
  have hne : ((n : Int) != (n : Int)) = false := by simp
  go_enter Tryz.func64, Tryz.ntmps64
  go_wp2
  go_loopw [5] (fun i wr => ∃ k : Nat, k ≤ n ∧ i = .int .i64 k ∧ Hid (Below w.heap.size w wr)) (fun i _ => n - (intOf i).toNat)
  case atStart => exact ⟨0, by omega, rfl, Below.refl _ _⟩
  case round =>
    obtain ⟨k, hk, rfl, HB⟩ := hrel
    by_cases hlt : k < n
    · obtain ⟨g1, o1, rfl, hg1, hc1⟩ := HA.out (by omega)
      obtain ⟨g2, o2, rfl, hg2, hc2⟩ := HBB.out (by omega)
      have hltI : (k : Int) < (n : Int) := by omega
      obtain ⟨u1, p0, p1, p2, p3, p4, hu1⟩ := hc1 k hlt
      obtain ⟨u2, t0, t1, t2, t3, t4, hu2⟩ := hc2 k hlt
      have j0 := rg ((HB.out.cell (p := ⟨g1, o1 + k * 5, none⟩) hg1).trans p0)
      have j1 := rg ((HB.out.cell (p := ⟨g1, o1 + k * 5 + 1, none⟩) hg1).trans p1)
      have j2 := rg ((HB.out.cell (p := ⟨g1, o1 + k * 5 + 2, none⟩) hg1).trans p2)
      have j3 := rg ((HB.out.cell (p := ⟨g1, o1 + k * 5 + 3, none⟩) hg1).trans p3)
      have j4 := rg ((HB.out.cell (p := ⟨g1, o1 + k * 5 + 4, none⟩) hg1).trans p4)
      have i0 := rg ((HB.out.cell (p := ⟨g2, o2 + k * 5, none⟩) hg2).trans t0)
      have i1 := rg ((HB.out.cell (p := ⟨g2, o2 + k * 5 + 1, none⟩) hg2).trans t1)
      have i2 := rg ((HB.out.cell (p := ⟨g2, o2 + k * 5 + 2, none⟩) hg2).trans t2)
      have i3 := rg ((HB.out.cell (p := ⟨g2, o2 + k * 5 + 3, none⟩) hg2).trans t3)
      have i4 := rg ((HB.out.cell (p := ⟨g2, o2 + k * 5 + 4, none⟩) hg2).trans t4)
      have HE := Lib.hid (fun w' (hb : Below wr.heap.size wr w') => eqLight_same u1 u2 (zs[k]?.getD nilL) w' ((hu1.belowAll HB.out).belowAll hb) ((hu2.belowAll HB.out).belowAll hb))
      obtain ⟨a5, c5, n5, -, rfl, -⟩ := hu1.opn
      obtain ⟨a6, c6, n6, -, rfl, -⟩ := hu2.opn
      clear hc1 hc2 p0 p1 p2 p3 p4 t0 t1 t2 t3 t4 hu1 hu2
      generalize zs[k]?.getD nilL = x at *
      go_wp2
      refine wp_region_quiet_below (by kernel_rfl) (by kernel_rfl) ?_
      repeat (go_big_quiet_step (first | (go_at_call 94; exact Calls.regrown_of (HE.out _ (below_regrown _ _ _)))))
      refine wpQuiet_nil ?_
      rintro _ ⟨⟨dq, osq⟩, rfl⟩
      have HBQ := Lib.hid (HB.out.trans ((below_regrown wr dq osq).mono HB.out.size))
      go_wp2
      go_roundw
      case rel => exact ⟨k + 1, by omega, by go_num, HBQ.out⟩
      case measure => simp [intOf]; omega
    · obtain rfl : k = n := by omega
      go_wp2
      go_ret
      exact ⟨rfl, HB.out⟩
end Go.Proofs.YtonpcgdnfclidaaGreatDoor
