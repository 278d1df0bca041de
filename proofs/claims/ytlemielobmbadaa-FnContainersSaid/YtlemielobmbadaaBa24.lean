/- Joined: XFrmW XCtnP. -/
import Derived.Test.YtlemielobmbadaaBa23
import Derived.Test.YtlemielobmbadaaBa04
namespace Go.Proofs.Ytlemielobmbadaa
open Go.RowKit
set_option maxRecDepth 100000

set_option maxHeartbeats 800000 in
theorem l23Bytes_any (v : Value) (xs : List Int) (w : World) (h : Rd w v xs) :
    Calls Try.prog 84 #[v] w fun e w' => e = .returned (.bool (bytL xs)) ∧ w = w' := by
  obtain ⟨a, cap, n, HX, rfl, _, hla, ha⟩ := h.opn
  have HN := Lib.hid (fun k => bytL_take_false (xs := xs) (k := k))
  go_enter Try.func84, Try.ntmps84
  go_wp2
  go_loop [3] (fun i => ∃ k : Nat, k ≤ n ∧ i = .int .i64 k ∧ Hid (bytL (xs.take k) = true)) (fun i => n - (intOf i).toNat)
  case atStart => exact ⟨0, by omega, rfl, rfl⟩
  case round =>
    obtain ⟨k, hk, rfl, HT⟩ := hrel
    by_cases hlt : k < n
    · obtain ⟨b, off, rfl, _, hc⟩ := ha (by omega)
      have hcell := hc k hlt
      clear hc
      cases he : inB (xs[k]?.getD 0) 0 255
      · go_wp2_with (go_at_call 71; refine (l1In_any _ _ _ _).mono ?_; rintro e w' ⟨rfl, rfl⟩)
        go_ret
        exact ⟨by rw [HN.out k (by rw [HX.out]; exact hlt) he]; rfl, rfl⟩
      · go_wp2_with (go_at_call 71; refine (l1In_any _ _ _ _).mono ?_; rintro e w' ⟨rfl, rfl⟩)
        go_round
        case rel => exact ⟨k + 1, by omega, by go_num, by rw [take_succ' _ _ (by rw [HX.out]; exact hlt), bytL_snoc, HT.out, he]; rfl⟩
        case measure => simp [intOf]; omega
    · obtain rfl : k = n := by omega
      have hh := HT.out
      rw [← HX.out, List.take_length] at hh
      have HH := Lib.hid hh
      clear hh
      go_wp2
      go_ret
      exact ⟨by rw [HH.out]; rfl, rfl⟩

theorem notByte_any (x : Int) (w : World) : Calls Try.prog 120 #[.int .i64 x] w fun e w' => e = .returned (.bool (!inB x 0 255)) ∧ w = w' := by
  go_enter Try.func120, Try.ntmps120
  go_wp2_with (go_at_call 68; refine (within_any _ _ _ _).mono ?_; rintro e w' ⟨rfl, rfl⟩)
  go_ret
  exact ⟨rfl, rfl⟩
theorem areBytes_any (v : Value) (xs : List Int) (w : World) (h : Rd w v xs) :
    Calls Try.prog 87 #[v] w fun e w' => e = .returned (.bool (bytL xs)) ∧ w = w' := by
  have HS := Lib.hid (show (!(xs.any fun x => !inB x 0 255)) = bytL xs from by simp [bytL, List.all_eq_not_any_not])
  go_enter Try.func87, Try.ntmps87
  go_wp2_with fail
  refine (containsFunc_any _ xs _ (fun x => !inB x 0 255) _ h (isFn_of Try.func120 (by kernel_rfl) (by kernel_rfl)) notByte_any).mono ?_
  rintro e w' ⟨rfl, rfl⟩
  go_wp2
  go_ret
  exact ⟨by rw [← HS.out]; rfl, rfl⟩

def FrmOkP (w : World) (f : Frm) (e : Ending) (w' : World) : Prop := e = .returned (.bool (frmOk f)) ∧ Below w.heap.size w w'
set_option maxHeartbeats 1600000 in
theorem l23Good_any (v : Value) (f : Frm) (w : World) (h : RdF w v f) :
    Calls Try.prog 95 #[v] w (FrmOkP w f) := by
  obtain ⟨u, rfl, hu⟩ := h
  have hal := (Below.refl w.heap.size w).alloc (Nat.le_refl _) (.cells #[.int .i64 f.c, .int .i64 f.p, u] 50)
  have HY := Lib.hid (l23Bytes_any u f.l _ (hu.belowAll hal))
  have HB := Lib.hid hal
  have HF := Lib.hid (fun b1 b2 b3 b4 h1 h2 h3 h4 => frmOk_of (f := f) (b1 := b1) (b2 := b2) (b3 := b3) (b4 := b4) h1 h2 h3 h4)
  obtain ⟨a, cap, n, HX, rfl, _, hla, -⟩ := hu.opn
  clear hal hu
  rw [HX.out] at HF
  generalize bytL f.l = b4 at *
  cases h1 : inB f.c 0 255
  · have HE := Lib.hid (HF.out _ _ _ _ h1 rfl rfl rfl)
    go_enter Try.func95, Try.ntmps95
    go_wp2_with (first | (go_at_call 84; refine (HY.out).mono ?_; rintro e w' ⟨rfl, rfl⟩) | (go_at_call 71; refine (l1In_any _ _ _ _).mono ?_; rintro e w' ⟨rfl, rfl⟩))
    go_ret
    exact ⟨by rw [HE.out]; rfl, HB.out⟩
  cases h2 : inB f.p 0 11
  · have HE := Lib.hid (HF.out _ _ _ _ h1 h2 rfl rfl)
    go_enter Try.func95, Try.ntmps95
    go_wp2_with (first | (go_at_call 84; refine (HY.out).mono ?_; rintro e w' ⟨rfl, rfl⟩) | (go_at_call 71; refine (l1In_any _ _ _ _).mono ?_; rintro e w' ⟨rfl, rfl⟩))
    go_ret
    exact ⟨by rw [HE.out]; rfl, HB.out⟩
  by_cases hn : n = 12
  · subst hn
    have HE := Lib.hid (HF.out _ _ _ _ h1 h2 rfl rfl)
    go_enter Try.func95, Try.ntmps95
    go_wp2_with (first | (go_at_call 84; refine (HY.out).mono ?_; rintro e w' ⟨rfl, rfl⟩) | (go_at_call 71; refine (l1In_any _ _ _ _).mono ?_; rintro e w' ⟨rfl, rfl⟩))
    go_ret
    exact ⟨by rw [HE.out]; rfl, HB.out⟩
  · have hne : ((n : Int) == 12) = false := by simp; omega
    have hne2 : ¬ (n : Int) = 12 := by omega
    have hd : decide (n = 12) = false := by simp [hn]
    have HE := Lib.hid (HF.out _ _ _ _ h1 h2 hd rfl)
    clear hd hn
    go_enter Try.func95, Try.ntmps95
    go_wp2_with (first | (go_at_call 84; refine (HY.out).mono ?_; rintro e w' ⟨rfl, rfl⟩) | (go_at_call 71; refine (l1In_any _ _ _ _).mono ?_; rintro e w' ⟨rfl, rfl⟩))
    go_ret
    exact ⟨by rw [HE.out]; rfl, HB.out⟩
set_option maxHeartbeats 1600000 in
theorem implValid_any (v : Value) (f : Frm) (w : World) (h : RdF w v f) :
    Calls Try.prog 40 #[v] w (FrmOkP w f) := by
  obtain ⟨u, rfl, hu⟩ := h
  have hal := (Below.refl w.heap.size w).alloc (Nat.le_refl _) (.cells #[.int .i64 f.c, .int .i64 f.p, u] 50)
  have HY := Lib.hid (areBytes_any u f.l _ (hu.belowAll hal))
  have HB := Lib.hid hal
  have HF := Lib.hid (fun b1 b2 b3 b4 h1 h2 h3 h4 => frmOk_of (f := f) (b1 := b1) (b2 := b2) (b3 := b3) (b4 := b4) h1 h2 h3 h4)
  obtain ⟨a, cap, n, HX, rfl, _, hla, -⟩ := hu.opn
  clear hal hu
  rw [HX.out] at HF
  generalize bytL f.l = b4 at *
  cases h1 : inB f.c 0 255
  · have HE := Lib.hid (HF.out _ _ _ _ h1 rfl rfl rfl)
    go_enter Try.func40, Try.ntmps40
    go_wp2_with (first | (go_at_call 87; refine (HY.out).mono ?_; rintro e w' ⟨rfl, rfl⟩) | (go_at_call 68; refine (within_any _ _ _ _).mono ?_; rintro e w' ⟨rfl, rfl⟩))
    go_ret
    exact ⟨by rw [HE.out]; rfl, HB.out⟩
  cases h2 : inB f.p 0 11
  · have HE := Lib.hid (HF.out _ _ _ _ h1 h2 rfl rfl)
    go_enter Try.func40, Try.ntmps40
    go_wp2_with (first | (go_at_call 87; refine (HY.out).mono ?_; rintro e w' ⟨rfl, rfl⟩) | (go_at_call 68; refine (within_any _ _ _ _).mono ?_; rintro e w' ⟨rfl, rfl⟩))
    go_ret
    exact ⟨by rw [HE.out]; rfl, HB.out⟩
  by_cases hn : n = 12
  · subst hn
    have HE := Lib.hid (HF.out _ _ _ _ h1 h2 rfl rfl)
    go_enter Try.func40, Try.ntmps40
    go_wp2_with (first | (go_at_call 87; refine (HY.out).mono ?_; rintro e w' ⟨rfl, rfl⟩) | (go_at_call 68; refine (within_any _ _ _ _).mono ?_; rintro e w' ⟨rfl, rfl⟩))
    go_ret
    exact ⟨by rw [HE.out]; rfl, HB.out⟩
  · have hne : ((n : Int) == 12) = false := by simp; omega
    have hne2 : ¬ (n : Int) = 12 := by omega
    have hd : decide (n = 12) = false := by simp [hn]
    have HE := Lib.hid (HF.out _ _ _ _ h1 h2 hd rfl)
    clear hd hn
    go_enter Try.func40, Try.ntmps40
    go_wp2_with (first | (go_at_call 87; refine (HY.out).mono ?_; rintro e w' ⟨rfl, rfl⟩) | (go_at_call 68; refine (within_any _ _ _ _).mono ?_; rintro e w' ⟨rfl, rfl⟩))
    go_ret
    exact ⟨by rw [HE.out]; rfl, HB.out⟩
theorem specValid_any (v : Value) (f : Frm) (w : World) (h : RdF w v f) :
    Calls Try.prog 39 #[v] w (FrmOkP w f) := by
  obtain ⟨u, rfl, hu⟩ := h
  have hal := (Below.refl w.heap.size w).alloc (Nat.le_refl _) (.cells #[.int .i64 f.c, .int .i64 f.p, u] 50)
  have HR := Lib.hid (show RdF (w.alloc (.cells #[.int .i64 f.c, .int .i64 f.p, u] 50)) (.agg #[.int .i64 f.c, .int .i64 f.p, u]) f from ⟨u, rfl, hu.belowAll hal⟩)
  have HB := Lib.hid hal
  clear hal hu
  go_enter Try.func39, Try.ntmps39
  go_wp2_with fail
  refine (l23Good_any _ f _ HR.out).mono ?_
  rintro e w1 ⟨rfl, b1⟩
  have HB1 := Lib.hid (HB.out.trans (b1.mono HB.out.size))
  clear b1
  go_wp2
  go_ret
  exact ⟨rfl, HB1.out⟩
set_option maxHeartbeats 800000 in
theorem l23Parity_any (v : Value) (xs : List Int) (w : World) (h : Rd w v xs) :
    Calls Try.prog 122 #[v] w fun e w' => e = .returned (.int .i64 (parL xs)) ∧ w = w' := by
  obtain ⟨a, cap, n, HX, rfl, _, hla, ha⟩ := h.opn
  go_enter Try.func122, Try.ntmps122
  go_wp2
  go_loop [3, 4] (fun s i => ∃ k : Nat, k ≤ n ∧ i = .int .i64 k ∧ Hid (s = .int .i64 (parL (xs.take k)))) (fun _ i => n - (intOf i).toNat)
  case atStart => exact ⟨0, by omega, rfl, rfl⟩
  case round =>
    obtain ⟨k, hk, rfl, HT⟩ := hrel
    obtain rfl := HT.out
    by_cases hlt : k < n
    · obtain ⟨b, off, rfl, _, hc⟩ := ha (by omega)
      have hcell := hc k hlt
      clear hc
      go_wp2
      go_round
      case rel => exact ⟨k + 1, by omega, by go_num, by rw [parL_step (by rw [HX.out]; exact hlt)]; rfl⟩
      case measure => simp [intOf]; omega
    · obtain rfl : k = n := by omega
      go_wp2
      go_ret
      exact ⟨by rw [← HX.out, List.take_length]; rfl, rfl⟩
end Go.Proofs.Ytlemielobmbadaa
namespace Go.Proofs.Ytlemielobmbadaa
open Go.RowKit

def ssD (xss : List (List Int)) : Dt := .rows 1 (xss.map inD)
def frC (f : Frm) : List Dt := [.leaf (.int .i64 f.c), .leaf (.int .i64 f.p), inD f.l]
def frD (fs : List Frm) : Dt := .rows 3 (fs.flatMap frC)
theorem opens_ssD {H : Type} {enc : TypeId × Value → H} {P : Program} {w : World} {t t2 e : TypeId} (ht : P.underlying t = some (.slice t2)) (hc2 : P.cellsOf t2 = 1) (ht2 : P.underlying t2 = some (.slice e)) (hc : P.cellsOf e = 1) (he : P.underlying e = some (.int .i64)) : Opens enc P w t (fun xss : List (List Int) => [ssD xss]) := by
  have h := opens_slice (enc := enc) (w := w) (F := fun xs : List Int => [inD xs]) ht hc2 (by decide) (fun _ => rfl) (opens_inD ht2 hc he)
  have e : (fun xss : List (List Int) => [Dt.rows 1 (xss.flatMap fun xs => [inD xs])]) = fun xss => [ssD xss] := by funext xs; rw [flat_single]; rfl
  rwa [e] at h
theorem frC_flat : ∀ (fs : List Frm) (i r : Nat), r < 3 → (fs.flatMap frC)[3 * i + r]? = (fs[i]?).bind fun f => (frC f)[r]?
  | [], i, r, _ => by simp
  | f :: fs, 0, r, h => by
    rw [List.flatMap_cons, List.getElem?_append_left (by simp [frC]; omega)]
    simp
  | f :: fs, i + 1, r, h => by
    rw [List.flatMap_cons, List.getElem?_append_right (by simp [frC]; omega)]
    have := frC_flat fs i r h
    simp only [frC, List.length_cons, List.length_nil] at this ⊢
    rw [show 3 * (i + 1) + r - (0 + 1 + 1 + 1) = 3 * i + r by omega, this]
    simp
theorem frC_len (fs : List Frm) : (fs.flatMap frC).length = 3 * fs.length := by
  induction fs with
  | nil => rfl
  | cons f fs ih => rw [List.flatMap_cons, List.length_append, ih]; simp [frC]; omega
theorem frC_set (fs : List Frm) (i : Nat) (f : Frm) (h : i < fs.length) : (((fs.flatMap frC).set (3 * i) (.leaf (.int .i64 f.c))).set (3 * i + 1) (.leaf (.int .i64 f.p))).set (3 * i + 2) (inD f.l) = (fs.set i f).flatMap frC := by
  apply List.ext_getElem?
  intro j
  obtain ⟨k, r, hr, rfl⟩ : ∃ k r, r < 3 ∧ j = 3 * k + r := ⟨j / 3, j % 3, Nat.mod_lt _ (by omega), by omega⟩
  have hl := frC_len fs
  rw [frC_flat _ _ _ hr]
  by_cases e : k = i
  · subst e
    rw [List.getElem?_set_self h]
    match r, hr with
    | 0, _ => rw [List.getElem?_set_ne (by omega), List.getElem?_set_ne (by omega), Nat.add_zero, List.getElem?_set_self (by omega)]; rfl
    | 1, _ => rw [List.getElem?_set_ne (by omega), List.getElem?_set_self (by rw [List.length_set]; omega)]; rfl
    | 2, _ => rw [List.getElem?_set_self (by rw [List.length_set, List.length_set]; omega)]; rfl
  · rw [List.getElem?_set_ne (by omega), List.getElem?_set_ne (by omega), List.getElem?_set_ne (by omega), List.getElem?_set_ne (by omega), frC_flat _ _ _ hr]
theorem ssD_opn {w : World} {v : Value} {xss : List (List Int)} (h : Rdt w (ssD xss) v) : ∃ a n cap, v = .slice a n cap ∧ Hid (xss.length = n) ∧ n ≤ cap ∧ n ≤ 9223372036854775807 ∧
    (0 < n → ∃ b off, a = some ⟨b, off, none⟩ ∧ b < w.heap.size ∧ ∀ i, i < n → ∃ u, w.cell? ⟨b, off + i, none⟩ = some u ∧ Rd w u (xss[i]?.getD [])) := by
  obtain ⟨a, n, cap, hv, HN, h1, h2, h3⟩ := h.opn
  have hn : xss.length = n := by have := HN.out; simpa using this
  refine ⟨a, n, cap, hv, hn, h1, h2, fun h0 => ?_⟩
  obtain ⟨b, off, ea, hb, hc⟩ := h3 h0
  refine ⟨b, off, ea, hb, fun i hi => ?_⟩
  obtain ⟨u, k1, k2⟩ := hc i (inD (xss[i]?.getD [])) (by simp [List.getElem?_eq_getElem (show i < xss.length by omega)])
  exact ⟨u, k1, k2.toRd⟩
theorem ssD_opnw {w : World} {v : Value} {xss : List (List Int)} (h : Rwt w (ssD xss) v) : ∃ a n cap, v = .slice a n cap ∧ Hid (xss.length = n) ∧ n ≤ 9223372036854775807 ∧
    (0 < n → ∃ b off, a = some ⟨b, off, none⟩ ∧ b < w.heap.size ∧ ∀ i, i < n → ∃ u, w.cell? ⟨b, off + i, none⟩ = some u ∧ Rw w u (xss[i]?.getD [])) := by
  obtain ⟨a, n, cap, hv, HN, h2, h3⟩ := h.opn
  have hn : xss.length = n := by have := HN.out; simpa using this
  refine ⟨a, n, cap, hv, hn, h2, fun h0 => ?_⟩
  obtain ⟨b, off, ea, hb, hc⟩ := h3 h0
  refine ⟨b, off, ea, hb, fun i hi => ?_⟩
  obtain ⟨u, k1, k2⟩ := hc i (inD (xss[i]?.getD [])) (by simp [List.getElem?_eq_getElem (show i < xss.length by omega)])
  exact ⟨u, k1, k2.ints⟩
theorem frD_opn {w : World} {v : Value} {fs : List Frm} (h : Rdt w (frD fs) v) : ∃ a n cap, v = .slice a n cap ∧ Hid (fs.length = n) ∧ n ≤ cap ∧ n ≤ 9223372036854775807 ∧
    (0 < n → ∃ b off, a = some ⟨b, off, none⟩ ∧ b < w.heap.size ∧ ∀ i, i < n → ∃ u, w.cell? ⟨b, off + i * 3, none⟩ = some (.int .i64 (fs[i]?.getD nilF).c) ∧ w.cell? ⟨b, off + i * 3 + 1, none⟩ = some (.int .i64 (fs[i]?.getD nilF).p) ∧ w.cell? ⟨b, off + i * 3 + 2, none⟩ = some u ∧ Rd w u (fs[i]?.getD nilF).l) := by
  obtain ⟨a, n, cap, hv, HN, h1, h2, h3⟩ := h.opn
  have hn : fs.length = n := by have := HN.out; rw [frC_len] at this; omega
  refine ⟨a, n, cap, hv, hn, h1, h2, fun h0 => ?_⟩
  obtain ⟨b, off, ea, hb, hc⟩ := h3 h0
  refine ⟨b, off, ea, hb, fun i hi => ?_⟩
  have hlt : i < fs.length := by omega
  have e0 : fs[i]? = some (fs[i]?.getD nilF) := by rw [List.getElem?_eq_getElem hlt]; rfl
  have g := fun r (hr : r < 3) => frC_flat fs i r hr
  obtain ⟨u0, k1, k2⟩ := hc (3 * i + 0) (.leaf (.int .i64 (fs[i]?.getD nilF).c)) (by rw [g 0 (by omega), e0]; rfl)
  obtain ⟨u1, k3, k4⟩ := hc (3 * i + 1) (.leaf (.int .i64 (fs[i]?.getD nilF).p)) (by rw [g 1 (by omega), e0]; rfl)
  obtain ⟨u2, k5, k6⟩ := hc (3 * i + 2) (inD (fs[i]?.getD nilF).l) (by rw [g 2 (by omega), e0]; rfl)
  refine ⟨u2, ?_, ?_, ?_, k6.toRd⟩
  · rw [show off + i * 3 = off + (3 * i + 0) by omega, k1, k2.leaf_inv]
  · rw [show off + i * 3 + 1 = off + (3 * i + 1) by omega, k3, k4.leaf_inv]
  · rw [show off + i * 3 + 2 = off + (3 * i + 2) by omega, k5]
theorem inD_fp {w : World} {v : Value} {xs : List Int} {f : List Nat} (h : Odt w (inD xs) v f) : f = v.ownBlock.toList := by
  unfold inD at h
  generalize hD : (xs.map fun x => Dt.leaf (.int .i64 x)) = ds at h
  cases h with
  | nil size => rfl
  | @mk size n g off cap ds us fs cur T hl hu hf hn hc hg hcs ht hd =>
    have : fs.flatten = [] := by
      rw [List.flatten_eq_nil_iff]
      intro f hf'
      obtain ⟨j, hj, rfl⟩ := List.mem_iff_getElem.1 hf'
      have hjd : j < ds.length := by omega
      have h1 := hd j ds[j] us[j] fs[j] (List.getElem?_eq_getElem hjd) (List.getElem?_eq_getElem (by omega)) (List.getElem?_eq_getElem hj)
      have hx : j < xs.length := by rw [← hD] at hjd; simpa using hjd
      have e : ds[j] = .leaf (.int .i64 xs[j]) := by simp [← hD]
      rw [e] at h1
      exact h1.leaf_inv.2
    rw [this]; rfl
/-- The same blocks, other numbers. -/
theorem Own.odt {w : World} {base : Nat} {v : Value} {xs : List Int} (h : Own w base v xs) : Odt w (inD xs) v v.ownBlock.toList := by
  obtain ⟨fp, h1, _⟩ := h.tree
  rw [← inD_fp h1]; exact h1
/-! ### The marks -/
def szF (f : Frm) : Nat := 2 + f.l.length
def mkF (f : Frm) (q : Int) : Frm := ⟨q, q + 1, cnt (q + 2) f.l.length⟩
def mkFs : List Frm → Int → List Frm
  | [], _ => []
  | f :: fs, q => mkF f q :: mkFs fs (q + szF f)
def qAt (fs : List Frm) (k : Nat) : Nat := ((fs.take k).map szF).sum
theorem qAt_step {fs : List Frm} {k : Nat} (h : k < fs.length) : qAt fs (k + 1) = qAt fs k + szF (fs[k]?.getD nilF) := by
  rw [qAt, qAt, List.take_add_one, List.map_append, List.sum_append, List.getElem?_eq_getElem h]; simp
theorem qAt_le {fs : List Frm} {k : Nat} : qAt fs k ≤ qAt fs fs.length := by
  rw [qAt, qAt, List.take_length]
  conv => rhs; rw [← List.take_append_drop k fs, List.map_append, List.sum_append]
  omega
theorem mkFs_len : ∀ (fs : List Frm) (q : Int), (mkFs fs q).length = fs.length
  | [], _ => rfl
  | f :: fs, q => by simp [mkFs, mkFs_len fs]
theorem mkFs_get : ∀ (fs : List Frm) (q : Int) (k : Nat), k < fs.length → (mkFs fs q)[k]?.getD nilF = mkF (fs[k]?.getD nilF) (q + qAt fs k)
  | f :: fs, q, 0, _ => by simp [mkFs, qAt]
  | f :: fs, q, k + 1, h => by
    have := mkFs_get fs (q + szF f) k (by simpa using h)
    simp only [mkFs, List.getElem?_cons_succ]
    rw [this]
    congr 1
    simp [qAt]; omega
/-- Behind the marks of the first k. -/
def mkTo (fs : List Frm) (q : Int) (k : Nat) : List Frm := (mkFs fs q).take k ++ fs.drop k
theorem mkTo_zero (fs : List Frm) (q : Int) : mkTo fs q 0 = fs := by simp [mkTo]
theorem mkTo_all (fs : List Frm) (q : Int) : mkTo fs q fs.length = mkFs fs q := by
  rw [mkTo, List.drop_length, List.append_nil, ← mkFs_len fs q, List.take_length]
theorem mkTo_len (fs : List Frm) (q : Int) (k : Nat) (h : k ≤ fs.length) : (mkTo fs q k).length = fs.length := by simp [mkTo, mkFs_len]; omega
theorem mkTo_at (fs : List Frm) (q : Int) (k : Nat) (h : k < fs.length) : (mkTo fs q k)[k]? = fs[k]? := by
  rw [mkTo, List.getElem?_append_right (by simp [mkFs_len]; omega)]
  simp [mkFs_len, Nat.min_eq_left (Nat.le_of_lt h)]
theorem mkTo_step (fs : List Frm) (q : Int) (k : Nat) (h : k < fs.length) : (mkTo fs q k).set k (mkF (fs[k]?.getD nilF) (q + qAt fs k)) = mkTo fs q (k + 1) := by
  have hk : k < (mkFs fs q).length := by rw [mkFs_len]; exact h
  have hl : ((mkFs fs q).take k).length = k := by simp [mkFs_len]; omega
  rw [mkTo, mkTo, List.set_append_right _ _ (by omega), hl, Nat.sub_self, List.drop_eq_getElem_cons h, List.set_cons_zero, List.take_add_one, List.getElem?_eq_getElem hk]
  have := mkFs_get fs q k h
  rw [List.getElem?_eq_getElem hk] at this
  simp only [Option.getD_some] at this
  simp [this]
end Go.Proofs.Ytlemielobmbadaa
