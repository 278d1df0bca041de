/- Joined: XDecS XFrmP. -/
import Derived.Test.YtlemielobmbadaaDecP
import Derived.Test.YtlemielobmbadaaBa20
import Derived.Test.YtlemielobmbadaaBa19
namespace Go.Proofs.Ytlemielobmbadaa
open Go.RowKit

set_option maxHeartbeats 800000 in
set_option maxRecDepth 100000 in
theorem l1Same_any (va vb : Value) (xs ys : List Int) (w : World) (ha : Rd w va xs) (hb : Rd w vb ys) :
    Calls Try.prog 99 #[va, vb] w fun e w' => e = .returned (.bool (eqL xs ys)) ∧ Dr w w' := by
  obtain ⟨a, capa, n, HX, rfl, _, hla, ha⟩ := ha.opn
  obtain ⟨b, capb, m, HY, rfl, _, hlb, hb⟩ := hb.opn
  by_cases hn : n = m
  · subst hn
    have hne : ((n : Int) != (n : Int)) = false := by simp
    have HR := Lib.hid (show xs = ys → eqL xs ys = true from eqL_of)
    have HN := Lib.hid (show xs ≠ ys → eqL xs ys = false from fun h => by simp [eqL, h])
    generalize eqL xs ys = r at *
    go_enter Try.func99, Try.ntmps99
    go_wp2
    go_loopw [5] (fun i wr => ∃ k : Nat, k ≤ n ∧ i = .int .i64 k ∧ Hid (xs.take k = ys.take k) ∧ Dr w wr) (fun i _ => n - (intOf i).toNat)
    case atStart => exact ⟨0, by omega, rfl, by simp [Hid], Dr.refl _⟩
    case round =>
      obtain ⟨k, hk, rfl, HT, m, rfl⟩ := hrel
      by_cases hlt : k < n
      · obtain ⟨b1, o1, rfl, hs1, hc1⟩ := ha (by omega)
        obtain ⟨b2, o2, rfl, hs2, hc2⟩ := hb (by omega)
        have c1 := hc1 k hlt
        have c2 := hc2 k hlt
        clear hc1 hc2
        by_cases he : (xs[k]?.getD 0) = (ys[k]?.getD 0)
        · have hne2 : ((xs[k]?.getD 0) != (ys[k]?.getD 0)) = false := by simpa using he
          have HE := Lib.hid he
          clear he
          go_wp2
          go_quiet (fail)
          go_wp2
          go_roundw
          case rel => exact ⟨k + 1, by omega, by go_num, take_eq_step (by rw [HX.out]; exact hlt) (by rw [HY.out]; exact hlt) HT.out HE.out, ⟨_, rfl⟩⟩
          case measure => simp [intOf]; omega
        · have hne2 : ((xs[k]?.getD 0) != (ys[k]?.getD 0)) = true := by simpa using he
          have HE := Lib.hid he
          clear he
          go_wp2
          go_quiet (fail)
          go_wp2
          go_ret
          exact ⟨by rw [HN.out (fun h => HE.out (by rw [h]))]; rfl, Dr.drewN ⟨_, rfl⟩ _⟩
      · obtain rfl : k = n := by omega
        go_wp2
        go_ret
        have hh := HT.out
        rw [← HX.out, List.take_length, HX.out, ← HY.out, List.take_length] at hh
        exact ⟨by rw [HR.out hh]; rfl, ⟨_, rfl⟩⟩
  · have hne : ((n : Int) != (m : Int)) = true := by rw [bne_iff_ne]; omega
    have he : eqL xs ys = false := by simp only [eqL, decide_eq_false_iff_not]; exact fun h => hn (by rw [← HX.out, ← HY.out, h])
    have HE := Lib.hid he
    clear he
    go_enter Try.func99, Try.ntmps99
    go_wp2
    go_ret
    exact ⟨by rw [HE.out]; rfl, Dr.refl _⟩

theorem own_lit0 {w : World} {base : Nat} (hb : base ≤ w.heap.size) : Own (w.alloc (.cells #[] 3)) base (.slice (some ⟨w.heap.size, 0, none⟩) 0 0) [] := empty_any.mono hb
theorem own_lit1 {w : World} {base : Nat} (a : Int) (hb : base ≤ w.heap.size) : Own (w.alloc (.cells #[.int .i64 a] 3)) base (.slice (some ⟨w.heap.size, 0, none⟩) 1 1) [a] :=
  .inr ⟨w.heap.size, 0, 1, _, rfl, hb, ⟨_, heap_alloc_new w _⟩, by simp, by unfold maxLen; simp, by simp, rfl⟩
theorem own_lit2 {w : World} {base : Nat} (a b : Int) (hb : base ≤ w.heap.size) : Own (w.alloc (.cells #[.int .i64 a, .int .i64 b] 3)) base (.slice (some ⟨w.heap.size, 0, none⟩) 2 2) [a, b] :=
  .inr ⟨w.heap.size, 0, 2, _, rfl, hb, ⟨_, heap_alloc_new w _⟩, by simp, by unfold maxLen; simp, by simp, rfl⟩

def decFill (xs : List Int) : List Int := match dec xs with | some ps => fillR xs ps | none => []
def DecSPost (w : World) (xs : List Int) (e : Ending) (w' : World) : Prop :=
  ∃ v1 v2, e = .returned (.tuple #[v1, v2, .bool (dec xs).isSome]) ∧ Own w' w.heap.size v1 (decFill xs) ∧ Own w' w.heap.size v2 (decPl xs) ∧ Below w.heap.size w w'
theorem DecSPost.yes {w w' : World} {xs ps : List Int} {e : Ending} {v1 v2 : Value} (h : dec xs = some ps) (he : e = .returned (.tuple #[v1, v2, .bool true])) (h1 : Own w' w.heap.size v1 (fillR xs ps)) (h2 : Own w' w.heap.size v2 ps) (hb : Below w.heap.size w w') : DecSPost w xs e w' :=
  ⟨v1, v2, by rw [h]; exact he, by unfold decFill; rw [h]; exact h1, by unfold decPl; rw [h]; exact h2, hb⟩
theorem DecSPost.no {w w' : World} {xs : List Int} {e : Ending} {v1 v2 : Value} (h : dec xs = none) (he : e = .returned (.tuple #[v1, v2, .bool false])) (h1 : Own w' w.heap.size v1 []) (h2 : Own w' w.heap.size v2 []) (hb : Below w.heap.size w w') : DecSPost w xs e w' :=
  ⟨v1, v2, by rw [h]; exact he, by unfold decFill; rw [h]; exact h1, by unfold decPl; rw [h]; exact h2, hb⟩

set_option maxHeartbeats 3200000 in
set_option maxRecDepth 100000 in
theorem l24Decode_any (v : Value) (xs : List Int) (w : World) (h : Rd w v xs) (hs : symL xs = true) (hl : xs.length = 15) :
    Calls Try.prog 82 #[v] w (DecSPost w xs) := by
  have HS := Lib.hid hs
  have HL := Lib.hid hl
  have HNIL := Lib.hid (fill_nil xs)
  clear hs hl
  go_enter Try.func82, Try.ntmps82
  go_wp2_with fail
  refine (sSyn_any _ xs _ h HS.out (by rw [HL.out]; omega)).mono ?_
  rintro e w1 ⟨v1, rfl, o1, b1⟩
  have hb2 : Below w.heap.size w (w1.alloc (.cells #[.int .i64 0, .int .i64 0, .int .i64 0, .int .i64 0] 3)) := b1.alloc b1.size _
  have o2 := o1.belowAll (((Below.refl _ _).alloc (Nat.le_refl _) _ : Below w1.heap.size w1 (w1.alloc (.cells #[.int .i64 0, .int .i64 0, .int .i64 0, .int .i64 0] 3))))
  go_wp2_with fail
  refine (l1Same_any _ _ (syn xs) [0, 0, 0, 0] _ o2.rd (rd_lit4 0 0 0 0)).mono ?_
  rintro e w3 ⟨rfl, d3⟩
  have B3 := Lib.hid (d3.below hb2)
  have hr3 := h.belowAll B3.out
  have hs3 : w.heap.size ≤ w3.heap.size := B3.out.size
  clear hb2 d3 b1 o1 o2
  rw [← HNIL.out]
  cases h0 : fillOk xs []
  case true =>
    have hd := Lib.hid (dec0 (look_zero_some (k := 0) h0))
    have HF := Lib.hid (fillR_nil xs)
    go_wp2_with (go_at_call 85; refine (l1Own_any v xs _ hr3 (by rw [HL.out]; omega) (by rw [HL.out]; omega)).mono ?_; rintro e w4 ⟨v4, rfl, o4, b4⟩)
    have hs4 := b4.size
    refine bodyPost_ret (results_tmp3 rfl _ _ _) rfl ?_
    exact DecSPost.yes hd.out rfl (by rw [HF.out]; exact (o4.belowAll ((Below.refl _ _).alloc (Nat.le_refl _) _)).mono hs3) (own_lit0 (by omega)) ((B3.out.trans (b4.mono hs3)).alloc (by omega) _)
  have hd0 := Lib.hid (look_zero (ok := fillOk xs) (k := 0) h0)
  obtain ⟨L1, hL1⟩ : ∃ L, L = look (fillOk xs) 1 0 [] := ⟨_, rfl⟩
  have HL1 := Lib.hid hL1
  clear hL1
  go_wp2
  go_loopw [5] (fun i wr => ∃ k : Nat, k ≤ 15 ∧ i = .int .i64 k ∧ Hid (look (fillOk xs) 1 0 [] = lk (look (fillOk xs) 0) [] (15 - k) k) ∧ Hid (Below w.heap.size w wr)) (fun i _ => 15 - (intOf i).toNat)
  case atStart => exact ⟨0, by omega, rfl, rfl, B3.out⟩
  case round =>
    obtain ⟨k, hk, rfl, HQ, HB⟩ := hrel
    have hrw := h.belowAll HB.out
    have hsz : w.heap.size ≤ wr.heap.size := HB.out.size
    by_cases hlt : k < 15
    · have hkI : (k : Int) < 15 := by omega
      have hba : Below w.heap.size w (wr.alloc (.cells #[.int .i64 k] 3)) := HB.out.alloc hsz _
      have hra := h.belowAll hba
      have hP := Lib.hid (pl_one hlt)
      go_wp2_with fail
      refine (l24Fill_any _ _ xs [(k : Int)] _ hra (own_lit1 (k : Int) (Nat.le_refl _)).rd HS.out HL.out hP.out).mono ?_
      rintro e w5 ⟨v5, rfl, o5, b5⟩
      have hb5 := Lib.hid (hba.trans (b5.mono hba.size))
      have hs5 : w.heap.size ≤ w5.heap.size := hb5.out.size
      have ho5 := Lib.hid (o5.mono hba.size)
      clear o5 b5 hba
      cases hf : fillOk xs [(k : Int)]
      · have hst := Lib.hid (lk_step hlt (look_zero (ok := fillOk xs) (k := k + 1) (l := [] ++ [(k : Int)]) hf))
        go_wp2
        go_roundw
        case rel => exact ⟨k + 1, by omega, by go_num, HQ.out.trans hst.out, hb5.out⟩
        case measure => simp [intOf]; omega
      · have hst := Lib.hid (lk_hit (l := []) hlt (look_zero_some (ok := fillOk xs) (k := k + 1) (l := [] ++ [(k : Int)]) hf))
        go_wp2
        refine bodyPost_ret (results_tmp3 rfl _ _ _) rfl ?_
        exact DecSPost.yes (dec1 hd0.out (HQ.out.trans hst.out)) rfl (ho5.out.belowAll ((Below.refl _ _).alloc (Nat.le_refl _) _)) (own_lit1 (k : Int) hs5) (hb5.out.alloc hs5 _)
    · obtain rfl : k = 15 := by omega
      have hN1 := Lib.hid (HQ.out.trans (lk_end (Nat.le_refl _)))
      have HD2 := Lib.hid (dec2 hd0.out hN1.out)
      clear HQ
      go_wp2
      go_loopw [8] (fun i wr => ∃ k : Nat, k ≤ 15 ∧ i = .int .i64 k ∧ Hid (look (fillOk xs) 2 0 [] = lk (look (fillOk xs) 1) [] (15 - k) k) ∧ Hid (Below w.heap.size w wr)) (fun i _ => 15 - (intOf i).toNat)
      case atStart => exact ⟨0, by omega, rfl, rfl, HB.out⟩
      case round =>
        obtain ⟨k, hk, rfl, HQ, HB⟩ := hrel
        by_cases hlt : k < 15
        · have hkI : (k : Int) < 15 := by omega
          have hkd : decide ((k : Int) < 15) = true := by simp; omega
          go_wp2
          go_loopw [9] (fun i wr => ∃ j : Nat, k < j ∧ j ≤ 15 ∧ i = .int .i64 j ∧ Hid (look (fillOk xs) 1 (k + 1) [(k : Int)] = lk (look (fillOk xs) 0) [(k : Int)] (15 - j) j) ∧ Hid (Below w.heap.size w wr)) (fun i _ => 15 - (intOf i).toNat)
          case atStart => exact ⟨k + 1, by omega, by omega, by go_num, rfl, HB.out⟩
          case round =>
            obtain ⟨j, hj, hj2, rfl, HQ2, HB⟩ := hrel
            have hrw := h.belowAll HB.out
            have hsz : w.heap.size ≤ wr.heap.size := HB.out.size
            by_cases hlt2 : j < 15
            · have hjI : (j : Int) < 15 := by omega
              have hba : Below w.heap.size w (wr.alloc (.cells #[.int .i64 k, .int .i64 j] 3)) := HB.out.alloc hsz _
              have hra := h.belowAll hba
              have hP := Lib.hid (pl_two hj hlt2)
              go_wp2_with fail
              refine (l24Fill_any _ _ xs [(k : Int), (j : Int)] _ hra (own_lit2 (k : Int) (j : Int) (Nat.le_refl _)).rd HS.out HL.out hP.out).mono ?_
              rintro e w5 ⟨v5, rfl, o5, b5⟩
              have hb5 := Lib.hid (hba.trans (b5.mono hba.size))
              have hs5 : w.heap.size ≤ w5.heap.size := hb5.out.size
              have ho5 := Lib.hid (o5.mono hba.size)
              clear o5 b5 hba
              cases hf : fillOk xs [(k : Int), (j : Int)]
              · have hst := Lib.hid (lk_step hlt2 (look_zero (ok := fillOk xs) (k := j + 1) (l := [(k : Int)] ++ [(j : Int)]) hf))
                go_wp2
                go_roundw
                case rel => exact ⟨_, _, _, _, _, _, _, _, _, _, _, _, _, _, _, _, _, _, _, _, _, _, _, ⟨j + 1, by omega, by omega, by go_num, HQ2.out.trans hst.out, hb5.out⟩, rfl⟩
                case measure => simp [intOf]; omega
              · have hst := Lib.hid (lk_hit (g := look (fillOk xs) 1) (l := []) hlt (HQ2.out.trans (lk_hit (l := [(k : Int)]) hlt2 (look_zero_some (ok := fillOk xs) (k := j + 1) (l := [(k : Int)] ++ [(j : Int)]) hf))))
                go_wp2
                refine bodyPost_ret (results_tmp3 rfl _ _ _) rfl ?_
                exact DecSPost.yes (HD2.out.trans (HQ.out.trans hst.out)) rfl (ho5.out.belowAll ((Below.refl _ _).alloc (Nat.le_refl _) _)) (own_lit2 (k : Int) (j : Int) hs5) (hb5.out.alloc hs5 _)
            · obtain rfl : j = 15 := by omega
              have hst := Lib.hid (lk_step (g := look (fillOk xs) 1) (l := []) hlt (HQ2.out.trans (lk_end (Nat.le_refl _))))
              go_wp2
              go_roundw
              case rel => exact ⟨k + 1, by omega, by go_num, HQ.out.trans hst.out, HB.out⟩
              case measure => simp [intOf]; omega
        · obtain rfl : k = 15 := by omega
          have hN := Lib.hid (HD2.out.trans (HQ.out.trans (lk_end (Nat.le_refl _))))
          have hsz : w.heap.size ≤ wr.heap.size := HB.out.size
          have hba := Lib.hid (HB.out.alloc hsz (.cells #[] 3))
          go_wp2
          refine bodyPost_ret (results_tmp3 rfl _ _ _) rfl ?_
          exact DecSPost.no hN.out rfl ((own_lit0 hsz).belowAll ((Below.refl _ _).alloc (Nat.le_refl _) _)) (by have q := own_lit0 (w := wr.alloc (.cells #[] 3)) hba.out.size; rw [show (wr.alloc (.cells #[] 3)).heap.size = wr.heap.size + 1 from by simp] at q; exact q) (hba.out.alloc hba.out.size _)
end Go.Proofs.Ytlemielobmbadaa
namespace Go.Proofs.Ytlemielobmbadaa
open Go.RowKit

theorem Own.part {w : World} {base b off n cap : Nat} {xs : List Int} (h : Own w base (.slice (some ⟨b, off, none⟩) n cap) xs) (k m : Nat) (hk : k + m ≤ n) : Own w base (.slice (some ⟨b, off + k, none⟩) m (cap - k)) (sub xs k m) := by
  rcases h with ⟨h0, _⟩ | ⟨g, off', cap', cur, hv, hb, hg, h1, h2, h3, h4⟩
  · simp at h0
  · simp only [Value.slice.injEq, Option.some.injEq, Addr.mk.injEq, and_true] at hv
    obtain ⟨⟨rfl, rfl⟩, rfl, rfl⟩ := hv
    have hl : (sub xs k m).length = m := sub_len hk
    refine .inr ⟨b, off + k, cap - k, cur, by rw [hl], hb, hg, by omega, by omega, by omega, ?_⟩
    have e : ints (sub xs k m) = ((ints xs).drop k).take m := by simp [ints, sub, List.map_drop, List.map_take]
    rw [e, ← h4, List.drop_take, List.drop_drop, List.take_take, hl, Nat.min_eq_left (by omega)]
structure Frm where
  c : Int
  p : Int
  l : List Int
def bytL (xs : List Int) : Bool := xs.all fun x => inB x 0 255
theorem bytL_snoc (xs : List Int) (x : Int) : bytL (xs ++ [x]) = (bytL xs && inB x 0 255) := by simp [bytL]
theorem bytL_append (xs ys : List Int) : bytL (xs ++ ys) = (bytL xs && bytL ys) := by simp [bytL]
theorem bytL_take_false {xs : List Int} {k : Nat} (hk : k < xs.length) (h : inB (xs[k]?.getD 0) 0 255 = false) : bytL xs = false := by
  simp only [bytL, List.all_eq_false]
  refine ⟨xs[k], List.getElem_mem hk, ?_⟩
  simp [List.getElem?_eq_getElem hk] at h
  simp [h]
def frmOk (f : Frm) : Bool := inB f.c 0 255 && inB f.p 0 11 && decide (f.l.length = 12) && bytL f.l
theorem frmOk_of {f : Frm} {b1 b2 b3 b4 : Bool} (h1 : inB f.c 0 255 = b1) (h2 : inB f.p 0 11 = b2) (h3 : decide (f.l.length = 12) = b3) (h4 : bytL f.l = b4) : frmOk f = (b1 && b2 && b3 && b4) := by
  simp only [frmOk, h1, h2, h3, h4]
theorem frmOk_parts {f : Frm} (h : frmOk f = true) : inB f.c 0 255 = true ∧ inB f.p 0 11 = true ∧ f.l.length = 12 ∧ bytL f.l = true := by
  simp only [frmOk, Bool.and_eq_true, decide_eq_true_eq] at h
  exact ⟨h.1.1.1, h.1.1.2, h.1.2, h.2⟩
def parL (xs : List Int) : Int := xs.foldl xr 0
theorem parL_step {xs : List Int} {k : Nat} (hk : k < xs.length) : parL (xs.take (k + 1)) = xr (parL (xs.take k)) (xs[k]?.getD 0) := by
  rw [take_succ' _ _ hk, parL, List.foldl_append]; rfl
def frmH (f : Frm) : List Int := [246, 40, f.c, f.p] ++ f.l
def frmL (f : Frm) : List Int := frmH f ++ [parL (frmH f)]
theorem frmL_len {f : Frm} (h : f.l.length = 12) : (frmL f).length = 17 := by simp [frmL, frmH, h]
theorem frmH_len {f : Frm} (h : f.l.length = 12) : (frmH f).length = 16 := by simp [frmH, h]
/-- The value reads as the frame. -/
def RdF (w : World) (v : Value) (f : Frm) : Prop := ∃ u, v = .agg #[.int .i64 f.c, .int .i64 f.p, u] ∧ Rd w u f.l
def OwF (w : World) (base : Nat) (v : Value) (f : Frm) : Prop := ∃ u, v = .agg #[.int .i64 f.c, .int .i64 f.p, u] ∧ Own w base u f.l
theorem OwF.rd {w : World} {base : Nat} {v : Value} {f : Frm} (h : OwF w base v f) : RdF w v f := by
  obtain ⟨u, rfl, o⟩ := h; exact ⟨u, rfl, o.rd⟩
theorem RdF.belowAll {w w' : World} {v : Value} {f : Frm} (h : RdF w v f) (hb : Below w.heap.size w w') : RdF w' v f := by
  obtain ⟨u, rfl, o⟩ := h; exact ⟨u, rfl, o.belowAll hb⟩
theorem OwF.belowAll {w w' : World} {base : Nat} {v : Value} {f : Frm} (h : OwF w base v f) (hb : Below w.heap.size w w') : OwF w' base v f := by
  obtain ⟨u, rfl, o⟩ := h; exact ⟨u, rfl, o.belowAll hb⟩
theorem OwF.mono {w : World} {b b' : Nat} {v : Value} {f : Frm} (h : OwF w b v f) (hb : b' ≤ b) : OwF w b' v f := by
  obtain ⟨u, rfl, o⟩ := h; exact ⟨u, rfl, o.mono hb⟩
/-- The frame that a list of bytes is, if it is one. -/
def prsF (xs : List Int) : Frm := ⟨xs[2]?.getD 0, xs[3]?.getD 0, sub xs 4 12⟩
def prsOk (xs : List Int) : Bool := decide (xs.length = 17) && frmOk (prsF xs) && eqL (frmL (prsF xs)) xs
def nilF : Frm := ⟨0, 0, []⟩
def prsR (xs : List Int) : Frm := if prsOk xs then prsF xs else nilF
theorem prs_frm {f : Frm} (h : frmOk f = true) : prsOk (frmL f) = true ∧ prsR (frmL f) = f := by
  obtain ⟨h1, h2, h3, h4⟩ := frmOk_parts h
  have e : prsF (frmL f) = f := by
    obtain ⟨c, p, l⟩ := f
    simp only [prsF, frmL, frmH, Frm.mk.injEq]
    refine ⟨by simp, by simp, ?_⟩
    simp only [sub]
    rw [show ([246, 40, c, p] ++ l ++ [parL ([246, 40, c, p] ++ l)]).drop 4 = l ++ [parL ([246, 40, c, p] ++ l)] from rfl, List.take_append_of_le_length (by simp at h3; omega), List.take_of_length_le (by simp at h3; omega)]
  have ho : prsOk (frmL f) = true := by
    unfold prsOk
    rw [e, h, frmL_len h3, eqL_refl]; rfl
  exact ⟨ho, by unfold prsR; rw [if_pos ho, e]⟩
theorem frm_prs {xs : List Int} (h : prsOk xs = true) : frmOk (prsR xs) = true ∧ frmL (prsR xs) = xs ∧ xs.length = 17 := by
  unfold prsR; rw [if_pos h]
  simp only [prsOk, Bool.and_eq_true, decide_eq_true_eq, eqL] at h
  exact ⟨h.1.2, h.2, h.1.1⟩
theorem xr_small {a b : Nat} (ha : a < 65536) (hb : b < 65536) : xr (a : Int) (b : Int) = ((a ^^^ b : Nat) : Int) := by
  have hx : a ^^^ b < 2 ^ 16 := Nat.xor_lt_two_pow (by omega) (by omega)
  have h1 : (BitVec.ofInt 64 (a : Int)).toNat = a := by
    rw [BitVec.ofInt_natCast, BitVec.toNat_ofNat]; exact Nat.mod_eq_of_lt (by omega)
  have h2 : (BitVec.ofInt 64 (b : Int)).toNat = b := by
    rw [BitVec.ofInt_natCast, BitVec.toNat_ofNat]; exact Nat.mod_eq_of_lt (by omega)
  show IntKind.i64.wrap ((BitVec.ofInt 64 (a : Int) ^^^ BitVec.ofInt 64 (b : Int)).toNat : Int) = _
  rw [BitVec.toNat_xor, h1, h2]
  simp [IntKind.wrap, IntKind.bits, IntKind.signed]
  omega
theorem xr255 {a b : Int} (ha : 0 ≤ a ∧ a ≤ 255) (hb : 0 ≤ b ∧ b ≤ 255) : 0 ≤ xr a b ∧ xr a b ≤ 255 := by
  obtain ⟨m, rfl⟩ := Int.eq_ofNat_of_zero_le ha.1
  obtain ⟨n, rfl⟩ := Int.eq_ofNat_of_zero_le hb.1
  rw [xr_small (by omega) (by omega)]
  have h1 : m < 2 ^ 8 := by omega
  have h2 : n < 2 ^ 8 := by omega
  have := Nat.xor_lt_two_pow h1 h2
  omega
theorem parL_bd {xs : List Int} (h : bytL xs = true) : ∀ k, k ≤ xs.length → 0 ≤ parL (xs.take k) ∧ parL (xs.take k) ≤ 255
  | 0, _ => by simp [parL]
  | k + 1, hk => by
    rw [parL_step (by omega)]
    refine xr255 (parL_bd h k (by omega)) ?_
    have hm : xs[k] ∈ xs := List.getElem_mem (by omega)
    have := (List.all_eq_true.1 h) _ hm
    rw [List.getElem?_eq_getElem (by omega)]
    exact inB_true this
theorem inB_of {x lo hi : Int} (h : lo ≤ x ∧ x ≤ hi) : inB x lo hi = true := by simp [inB, h.1, h.2]
theorem frm_bytes {f : Frm} (h : frmOk f = true) : bytL (frmL f) = true := by
  obtain ⟨h1, h2, h3, h4⟩ := frmOk_parts h
  have hH : bytL (frmH f) = true := by
    have := inB_true h1; have h2' := inB_true h2
    unfold frmH
    rw [bytL_append, h4]
    simp [bytL, h1, inB_of (show 0 ≤ f.p ∧ f.p ≤ 255 by omega)]
    decide
  unfold frmL
  rw [bytL_snoc, hH]
  have := parL_bd hH _ (Nat.le_refl _)
  rw [List.take_length] at this
  rw [inB_of this]; rfl
end Go.Proofs.Ytlemielobmbadaa
