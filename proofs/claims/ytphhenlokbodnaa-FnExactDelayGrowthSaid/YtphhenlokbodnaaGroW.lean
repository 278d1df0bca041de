/- Plain Lean and walks: growths. -/
import Derived.Test.YtphhenlokbodnaaNetS
import Derived.Test.YtphhenlokbodnaaDem
namespace Go.Proofs.Ytphhenlokbodnaa
open Go.RowKit Go.Sort
set_option maxRecDepth 100000

/-! ### Searches -/
section
variable {α : Type}
theorem anyG_more {zs : List α} {p : α → Bool} {nil : α} {k : Nat} (hk : k < zs.length) (h : (zs.take k).any p = false) (e : p (zs[k]?.getD nil) = false) : (zs.take (k + 1)).any p = false := by
  rw [List.getElem?_eq_getElem hk] at e
  rw [List.take_add_one, List.any_append, h, List.getElem?_eq_getElem hk]
  simpa using e
/-- The first place, or -1. -/
def idxG (zs : List α) (p : α → Bool) : Int := match zs.findIdx? p with | some k => k | none => -1
theorem idxG_none {zs : List α} {p : α → Bool} (h : zs.any p = false) : idxG zs p = -1 := by
  have : zs.findIdx? p = none := by rw [List.findIdx?_eq_none_iff]; simpa [List.any_eq_false] using h
  simp [idxG, this]
theorem idxG_some {zs : List α} {p : α → Bool} {nil : α} {k : Nat} (hk : k < zs.length) (h : (zs.take k).any p = false) (e : p (zs[k]?.getD nil) = true) : idxG zs p = k := by
  have : zs.findIdx? p = some k := by
    rw [List.findIdx?_eq_some_iff_getElem]
    refine ⟨hk, by simpa [List.getElem?_eq_getElem hk] using e, fun j hj => ?_⟩
    simp only [List.any_eq_false] at h
    have := h zs[j] (List.mem_take_iff_getElem.2 ⟨j, by omega, by simp⟩)
    simpa using this
  simp [idxG, this]
theorem idxG_geq (zs : List α) (p : α → Bool) : decide (0 ≤ idxG zs p) = zs.any p := by
  cases h : zs.findIdx? p with
  | none =>
    rw [List.findIdx?_eq_none_iff] at h
    have : zs.any p = false := by simpa [List.any_eq_false] using h
    rw [this]; simp [idxG_none this]
  | some k =>
    have := h
    rw [List.findIdx?_eq_some_iff_getElem] at h
    obtain ⟨hk, e, _⟩ := h
    have h2 : zs.any p = true := List.any_eq_true.2 ⟨_, List.getElem_mem hk, e⟩
    rw [h2]; simp [idxG, this]
end
/-- Number F is a function of Go text. -/
def IsFn (F : FuncId) : Prop := ∀ (args : Array Value) (w : World), (callFunc F args).run Try.prog w = .ok (.enter F args) w
theorem isFn_of {F : FuncId} {fn : Func} (h1 : Try.prog.funcs[F]? = some fn) (h2 : (fn.name == "runtime.NumGoroutine") = false) (h3 : fn.body.isNone = false) : IsFn F := by
  intro args w
  unfold callFunc
  simp only [Sem.run_bind, run_program, Result.andThen_ok, h1, h2, h3]
  rfl

/-! ### Growths -/
structure Gro where
  d : Dem
  s : Int
  e : Int
def nilG : Gro := ⟨⟨0, 0, 0, 0⟩, 0, 0⟩
def groE (g : Gro) : List Value := [.int .i64 g.d.a, .int .i64 g.d.b, .int .i64 g.d.r, .int .i64 g.d.c, .int .i64 g.s, .int .i64 g.e]
def groV (g : Gro) : Value := .agg #[.int .i64 g.d.a, .int .i64 g.d.b, .int .i64 g.d.r, .int .i64 g.d.c, .int .i64 g.s, .int .i64 g.e]
def groOk (m : Nat) (g : Gro) : Bool := demOk g.d m && inB g.s 0 g.e && decide (g.e < 8)
def grsOk (n : Net) (gs : List Gro) : Bool := netOk n && decide (gs.length ≤ 12) && !gs.any (fun g => !groOk n.ns.length g)
abbrev ptr (b : Nat) : Value := .pointer (some ⟨b, 0, none⟩)
set_option maxHeartbeats 1600000 in
theorem growthBad_any (g : Gro) (bn : Nat) (a1 a2 : Option Addr) (m c1 n2 c2 : Nat) (w : World) (hm : m ≤ 1000) (h0 : w.cell? ⟨bn, 0, none⟩ = some (.slice a1 m c1)) (h1 : w.cell? ⟨bn, 1, none⟩ = some (.slice a2 n2 c2)) :
    Calls Try.prog 42 #[groV g, ptr bn] w fun e w' => e = .returned (.bool (!groOk m g)) ∧ Below w.heap.size w w' := by
  obtain ⟨⟨a, b, r, c⟩, s, e⟩ := g
  have HD := Lib.hid (fun w => isDemand_any a1 a2 m c1 n2 c2 ⟨a, b, r, c⟩ w hm)
  have HF := Lib.hid (show groOk m ⟨⟨a, b, r, c⟩, s, e⟩ = (demOk ⟨a, b, r, c⟩ m && inB s 0 e && decide (e < 8)) from rfl)
  generalize groOk m ⟨⟨a, b, r, c⟩, s, e⟩ = q at *
  generalize demOk ⟨a, b, r, c⟩ m = dk at *
  obtain ⟨bx, -, -, -⟩ := box_facts w #[.int .i64 a, .int .i64 b, .int .i64 r, .int .i64 c, .int .i64 s, .int .i64 e] 69
  have HB := Lib.hid bx
  have hbw := World.block_lt_of_cell? w _ h0
  have hd8 : decide (8 ≤ e) = !decide (e < 8) := by rw [Bool.eq_iff_iff]; simp
  have hq : (!q) = (!dk || !inB s 0 e || !decide (e < 8)) := by rw [HF.out]; cases dk <;> cases inB s 0 e <;> cases decide (e < 8) <;> rfl
  have HQ := Lib.hid hq
  have H8 := Lib.hid hd8
  unfold groV
  unfold demV at HD
  clear bx hq hd8
  cases dk
  · go_enter Try.func42, Try.ntmps42
    go_wp2_with (go_at_call 43; refine (HD.out _).mono ?_; rintro e w' ⟨rfl, b2⟩; have HB2 := Lib.hid (HB.out.trans (b2.mono HB.out.size)); clear b2)
    go_ret
    exact ⟨by rw [HQ.out]; rfl, HB2.out⟩
  cases h2 : inB s 0 e
  · rw [h2] at HQ
    go_enter Try.func42, Try.ntmps42
    go_wp2_with (first | (go_at_call 43; refine (HD.out _).mono ?_; rintro e w' ⟨rfl, b2⟩; have HB2 := Lib.hid (HB.out.trans (b2.mono HB.out.size)); obtain ⟨hc, hf⟩ := bcell b2; clear b2) | (go_at_call 44; refine (within_any _ _ _ _).mono ?_; rintro e w' ⟨rfl, rfl⟩; rw [h2]))
    go_ret
    exact ⟨by rw [HQ.out]; rfl, HB2.out⟩
  rw [h2] at HQ
  cases h3 : decide (e < 8)
  all_goals
    rw [h3] at H8
    have h8 := H8.out
    simp only [Bool.not_false, Bool.not_true] at h8
    rw [h3] at HQ
    clear h3
    go_enter Try.func42, Try.ntmps42
    go_wp2_with (first | (go_at_call 43; refine (HD.out _).mono ?_; rintro e w' ⟨rfl, b2⟩; have HB2 := Lib.hid (HB.out.trans (b2.mono HB.out.size)); obtain ⟨hc, hf⟩ := bcell b2; clear b2) | (go_at_call 44; refine (within_any _ _ _ _).mono ?_; rintro e w' ⟨rfl, rfl⟩; rw [h2]))
    go_ret
    exact ⟨by rw [HQ.out]; rfl, HB2.out⟩
end Go.Proofs.Ytphhenlokbodnaa
