/- Walks: the draw of containers. -/
import Derived.Test.YtlemielobmbadaaCgpD
import Derived.Test.YtlemielobmbadaaBa24
import Derived.Test.YtlemielobmbadaaDpP
import Derived.Test.YtlemielobmbadaaPivW
namespace Go.Proofs.Ytlemielobmbadaa
open Go.RowKit
set_option maxRecDepth 100000

theorem Grw.kept {w w' : World} {base size n : Nat} {T : TypeId} {v : Value} {ds : List Dt} (h : Grw w base T size v n ds) (hk : ∀ k, base ≤ k → k < w.heap.size → w'.heap[k]? = w.heap[k]?) : Grw w' base T size v n ds := by
  obtain ⟨us, fs, h1, h2, h3, h4, h5, h6, h7⟩ := h
  have hlt := Grw.flt h2 h3 h4
  refine ⟨us, fs, ownsRow_kept h1 fun k e => hk k (h1.lt k e).1 (h1.lt k e).2, h2, h3, fun j d u f e1 e2 e3 => (h4 j d u f e1 e2 e3).kept fun b hb => ?_, h5, h6, h7⟩
  have hm : b ∈ fs.flatten := List.mem_flatten.2 ⟨f, List.mem_of_getElem? e3, hb⟩
  exact hk b (h6 b hm) (hlt b hm)
/-- A row under way beside a draw: a world with the cursor moved, and nothing more. -/
theorem Grw.cs {w w2 : World} {base B K size n : Nat} {c : Value} {T : TypeId} {v : Value} {ds : List Dt} (h : Grw w base T size v n ds) (hB : B < base) (hc : CS w B c K w2) :
    ∃ wv : World, Hid (Grw wv base T size v n ds) ∧ Hid (wv.heap.size = w.heap.size) ∧ Hid (Below w.heap.size wv w2) := by
  have hBs := hc.1.1
  have hg := hc.2.2
  have hB2 : B < w2.heap.size := Nat.lt_of_lt_of_le hBs hg.size
  refine ⟨{ w with heap := w.heap.setIfInBounds B w2.heap[B] }, h.kept fun k hk _ => ?_, by simp [Hid], ⟨hg.os, hg.tape, hg.output, by simpa using hg.size, fun k hk => ?_⟩⟩
  · show (w.heap.setIfInBounds B w2.heap[B])[k]? = w.heap[k]?
    rw [Array.getElem?_setIfInBounds, if_neg (by omega)]
  · show w2.heap[k]? = (w.heap.setIfInBounds B w2.heap[B])[k]?
    rw [Array.getElem?_setIfInBounds]
    by_cases e : B = k
    · subst e
      rw [if_pos rfl, if_pos hBs]
      exact Array.getElem?_eq_getElem hB2
    · rw [if_neg e]
      exact hg.block k hk (fun h => e (show B = k from (show k = B by simpa using h).symm))
def DrWcP (w : World) (e : Ending) (w' : World) : Prop := ∃ (v : Value) (xss : List (List Int)) (p : Int), e = .returned (.tuple #[v, .int .i64 p]) ∧ Ofr w' w.heap.size (ssD xss) v ∧ Below w.heap.size w w'
def StopAt (p : Prop) : Prop := p
theorem StopAt.go {p : Prop} (h : StopAt p) : p := h
def slL : Value → Nat | .slice _ n _ => n | _ => 0
/-- The state of the draw. -/
def Gst (w W : World) (c : Value) (v : Value) (k K : Nat) (wr : World) : Prop := ∃ xss : List (List Int), Grw wr (w.heap.size + 1) 24 1 v k (xss.map inD) ∧ CS W w.heap.size c K wr
theorem Gst.pick {w W w2 wr : World} {c v : Value} {k K K' : Nat} (h : Gst w W c v k K wr) (hc : CS wr w.heap.size c K' w2) : Gst w W c v k K' w2 := by
  obtain ⟨xss, h1, h2⟩ := h
  exact ⟨xss, h1.kept fun k hk hlt => hc.2.2.block k hlt (fun e => by have e2 : k = w.heap.size := (by simpa using e); omega), h2.call hc⟩
theorem Gst.size {w W wr : World} {c v : Value} {k K : Nat} (h : Gst w W c v k K wr) (hW : W.heap.size = w.heap.size + 1) : w.heap.size + 1 ≤ wr.heap.size := by
  obtain ⟨xss, h1, h2⟩ := h
  have := h2.size; omega
theorem Gst.st {w W wr : World} {c v : Value} {k K : Nat} (h : Gst w W c v k K wr) : Cs wr w.heap.size c K := by obtain ⟨xss, h1, h2⟩ := h; exact h2.st
theorem Gst.add {w W w2 wr : World} {c v u : Value} {k K K' : Nat} {xs : List Int} (h : Gst w W c v k K wr) (hW : W.heap.size = w.heap.size + 1) (hc : CS wr w.heap.size c K' w2) (o : Own w2 wr.heap.size u xs) :
    ∃ (xss : List (List Int)) (wv : World), Hid (Grw wv (w.heap.size + 1) 24 1 v k (xss.map inD)) ∧ Hid (w.heap.size + 1 ≤ wv.heap.size) ∧ Hid (Below wv.heap.size wv w2) ∧ Hid (Newd w2 wv.heap.size [u] [inD xs]) ∧ Hid (CS W w.heap.size c K' w2) ∧ Hid (∀ g, v.ownBlock = some g → W.heap.size ≤ g) := by
  have hs := h.size hW
  obtain ⟨xss, h1, h2⟩ := h
  obtain ⟨wv, g1, g2, g3⟩ := h1.cs (Nat.lt_succ_self _) hc
  have e : wv.heap.size = wr.heap.size := g2
  refine ⟨xss, wv, g1, by rw [Hid, e]; exact hs, by rw [Hid, e]; exact g3, by rw [Hid, e]; exact Newd.one o.ofr, h2.call hc, fun g hg => by rw [hW]; exact (h1.own g hg).1⟩
theorem Gst.done {w W w2 w3 : World} {c v v' : Value} {k K : Nat} {xss : List (List Int)} {xs : List Int} (hG : Grw w3 (w.heap.size + 1) 24 1 v' (k + 1) (xss.map inD ++ [inD xs])) (hC : CS W w.heap.size c K w2) (hg : w2.grownBy w3 v.ownBlock) (hv : ∀ g, v.ownBlock = some g → W.heap.size ≤ g) : Gst w W c v' (k + 1) K w3 :=
  ⟨xss ++ [xs], by rw [List.map_append]; exact hG, hC.grown hg hv⟩
theorem Gst.alloc {w W wr : World} {c v : Value} {k K : Nat} (h : Gst w W c v k K wr) (o : Obj) : Gst w W c v k K (wr.alloc o) := by
  obtain ⟨xss, h1, h2⟩ := h
  exact ⟨xss, h1.below ((Below.refl _ _).alloc (Nat.le_refl _) o), h2.alloc o⟩
theorem Gst.fin {w W wr : World} {c v : Value} {k K : Nat} {p : Int} (h : Gst w W c v k K wr) (hb : Below w.heap.size w W) : DrWcP w (.returned (.tuple #[v, .int .i64 p])) wr := by
  obtain ⟨xss, h1, h2⟩ := h
  exact ⟨v, xss, p, rfl, h1.ofr.mono (by omega), h2.belowAll hb (Nat.le_refl _)⟩
theorem Gst.mono {w W wr : World} {c v : Value} {k K K' : Nat} (h : Gst w W c v k K wr) (hk : K ≤ K') : Gst w W c v k K' wr := by
  obtain ⟨xss, h1, h2⟩ := h; exact ⟨xss, h1, h2.mono hk⟩
set_option maxHeartbeats 6400000 in
theorem drawWc_any (v : Value) (w : World) (h : RdB w v) :
    Calls Try.prog 52 #[v] w (DrWcP w) := by
  obtain ⟨a, len, cap, rfl, hrd⟩ := h
  have H1 := (curN (w := w) (v := .slice a len cap) ⟨a, len, cap, rfl, hrd⟩).here
  have hB0 := Lib.hid ((Below.refl w.heap.size w).alloc (Nat.le_refl _) (.cells #[.slice a len cap, .int .i64 0, .int .u64 0] 76))
  have HW := Lib.hid (show (w.alloc (.cells #[.slice a len cap, .int .i64 0, .int .u64 0] 76)).heap.size = w.heap.size + 1 by simp)
  have hg0 := Grw.start (w := w.alloc (.cells #[.slice a len cap, .int .i64 0, .int .u64 0] 76)) (base := w.heap.size + 1) (size := 1) 24 (by simp)
  rw [HW.out] at hg0
  have HG0 := Lib.hid (show Gst w (w.alloc (.cells #[.slice a len cap, .int .i64 0, .int .u64 0] 76)) (.slice a len cap) (.slice (some ⟨w.heap.size + 1, 0, none⟩) 0 0) 0 0 ((w.alloc (.cells #[.slice a len cap, .int .i64 0, .int .u64 0] 76)).alloc (.cells #[] 24)) from ⟨[], hg0, H1.alloc _⟩)
  clear hrd H1 hg0
  go_enter Try.func52, Try.ntmps52
  go_wp2_with fail
  generalize w.alloc (.cells #[.slice a len cap, .int .i64 0, .int .u64 0] 76) = W at *
  refine (pickC w.heap.size _ 0 5 _ HG0.out.st (by omega) (by omega) (by omega)).mono ?_
  rintro e w2 ⟨x, x0, x1, rfl, c2, -⟩
  have HG2 := Lib.hid (HG0.out.pick c2)
  obtain ⟨m, rfl⟩ := Int.eq_ofNat_of_zero_le x0
  have hm : m ≤ 4 := by omega
  clear c2 HG0 x0 x1
  go_wp2
  go_loopw [5, 6] (fun os iv wr => ∃ (k j : Nat) (ae : Option Addr) (ce : Nat), os = .slice ae k ce ∧ iv = .int .i64 (j : Int) ∧ k + j ≤ 4 ∧ Hid (Gst w W (.slice a len cap) (.slice ae k ce) k (2 + 60 * k) wr)) (fun _ iv _ => (intOf iv).toNat)
  case atStart => exact ⟨0, m, _, _, rfl, rfl, by omega, HG2.out⟩
  case round =>
    clear HG2
    obtain ⟨k, j, ae, ce, rfl, rfl, hkj, HG⟩ := hrel
    by_cases hj : 0 < j
    · have hjI : (0 : Int) < (j : Int) := by omega
      have hjb : decide ((0 : Int) < (j : Int)) = true := decide_eq_true hjI
      go_wp2_with fail
      refine (containerC w.heap.size _ _ _ HG.out.st (by omega)).mono ?_
      rintro e w2 ⟨u, xs, rfl, -, -, o2, c2⟩
      obtain ⟨xss, wv, G1, G2, G3, G4, G5, G6⟩ := HG.out.add HW.out c2 o2
      obtain ⟨au, cu, nu, -, rfl, -⟩ := o2.rd.opn
      clear o2 c2 HG
      go_wp2_with (at_builtin; go_loud (refine wpList_grow rfl (.tmp 17) (.tmp 20) 39 24 rfl Try.underlying39 (.slice none 0 0) 1 24 Try.infoSl rfl (by decide) (by decide) (w.heap.size + 1) k (.slice ae k ce) _ _ rfl G1.out G2.out G3.out [.slice au nu cu] G4.out rfl (by simp [Value.oneCell']) rfl (by omega) ?_; intro v3 w3 hG3 hgr3 hlie; have HG3 := Lib.hid (Gst.done hG3 G5.out hgr3 G6.out); obtain ⟨-, a3, c3, rfl⟩ := hG3.form; clear hG3 hgr3 hlie))
      go_roundw
      case rel => exact ⟨k + 1, j - 1, _, _, rfl, by go_num, by omega, HG3.out.mono (by omega)⟩
      case measure => simp only [intOf]; omega
    · obtain rfl : j = 0 := by omega
      have hk4 : k ≤ 4 := by omega
      clear hkj
      go_wp2_with fail
      refine (pickC w.heap.size _ _ 30 _ HG.out.st (by omega) (by omega) (by omega)).mono ?_
      rintro e w2 ⟨x, x0, x1, rfl, c2, -⟩
      have HG2 := Lib.hid ((HG.out.pick c2).mono (show _ ≤ 300 by omega))
      clear c2 HG
      by_cases e0 : x = 0
      · subst e0
        go_wp2_with fail
        refine (containerC w.heap.size _ _ _ HG2.out.st (by omega)).mono ?_
        rintro e w3 ⟨u, xs, rfl, hl, -, o2, c2⟩
        obtain ⟨g, f0, cp, rfl, hg1, hg2, hc1, hc2⟩ := o2.openN hl (by omega)
        obtain ⟨xss, wv, G1, G2, G3, G4, G5, G6⟩ := HG2.out.add HW.out c2 (o2.part 1 11 (by omega))
        have hcp : ¬ cp = 1 := by omega
        have hc1I : (12 : Int) ≤ (cp : Int) := by omega
        unfold maxLen at hc2
        clear o2 c2 HG2 hl hg1 hg2
        go_wp2_with (at_builtin; go_loud (refine wpList_grow rfl (.tmp 26) (.tmp 30) 39 24 rfl Try.underlying39 (.slice none 0 0) 1 24 Try.infoSl rfl (by decide) (by decide) (w.heap.size + 1) k (.slice ae k ce) _ _ rfl G1.out G2.out G3.out [.slice (some ⟨g, f0 + 1, none⟩) 11 (cp - 1)] G4.out rfl (by simp [Value.oneCell']) rfl (by omega) ?_; intro v3 w3 hG3 hgr3 hlie; have HG3 := Lib.hid (Gst.done hG3 G5.out hgr3 G6.out); obtain ⟨-, a3, c3, rfl⟩ := hG3.form; clear hG3 hgr3 hlie G1 G2 G3 G4 G5 G6; refine StopAt.go ?_))
        unfold StopAt
        have HGT := Lib.hid (HG3.out.mono (show _ ≤ 3000 by omega))
        have hzt := HGT.out.size HW.out
        clear HG3
        go_wp2_with fail
        refine (pickC w.heap.size _ _ 12 _ HGT.out.st (by omega) (by omega) (by omega)).mono ?_
        rintro e w4 ⟨y, y0, y1, rfl, c4, -⟩
        have HG4 := Lib.hid (HGT.out.pick c4)
        have hz4 := HG4.out.size HW.out
        have HG5 := Lib.hid (HG4.out.alloc (.cells (ints [0, 0, 1, 5, 11, y, 12, -1]).toArray 3))
        have hr : ∀ x ∈ [0, 0, 1, 5, 11, y, 12, -1], (-1 : Int) ≤ x ∧ x ≤ 12 := by
          intro x hx; simp only [List.mem_cons, List.not_mem_nil, or_false] at hx; omega
        have HLI := Lib.hid (fun (j : Nat) (hj : j < 8) => lit_row (w := w4) (xs := [0, 0, 1, 5, 11, y, 12, -1]) (lo := -1) (hi := 12) (T := 3) hr rfl (n := 8) (by simp) j hj)
        clear c4 HGT HG4 hr y0 y1
        go_wp2_with fail
        refine (pickC w.heap.size _ _ 24 _ HG5.out.st (by omega) (by omega) (by omega)).mono ?_
        rintro e w5 ⟨z, z0, z1, rfl, c5, -⟩
        have HL5 := Lib.hid (fun (j : Nat) (hj : j < 8) => (HLI.out j hj).elim fun x hx => show ∃ x : Int, -1 ≤ x ∧ x ≤ 12 ∧ w5.cell? ⟨w4.heap.size, j, none⟩ = some (.int .i64 x) from ⟨x, hx.1, hx.2.1, c5.cell hx.2.2 (by omega)⟩)
        have HG6 := Lib.hid (HG5.out.pick c5)
        clear c5 HG5 HLI
        obtain ⟨q, hq2, hq⟩ : ∃ q : Nat, q ≤ 1 ∧ z / 12 = (q : Int) := ⟨(z / 12).toNat, by omega, by omega⟩
        have hq6 : (6 : Int) + z / 12 = ((6 + q : Nat) : Int) := by omega
        have hq7 : wrap64 ((6 : Int) + z / 12) = ((6 + q : Nat) : Int) := by rw [hq6]; exact IntWalk.wrap64_in _ (by omega)
        go_wp2_with fail
        refine (amongC w.heap.size _ _ w4.heap.size (6 + q) 8 (-1) 12 _ HG6.out.st (by omega) (by omega) (by omega) (by omega) (fun j hj => HL5.out j (by omega))).mono ?_
        rintro e w6 ⟨p, p0, p1, rfl, c6, -⟩
        have HG7 := Lib.hid (HG6.out.pick c6)
        clear c6 HG6 HL5 hq hq6 hq7 z0 z1
        go_wp2
        refine bodyPost_ret (results_tmp2 rfl _ _ _) rfl ?_
        exact HG7.out.fin hB0.out
      by_cases e1 : x = 1
      · subst e1
        go_wp2
        go_loopw [5] (fun os wr => ∃ (k : Nat) (ae : Option Addr) (ce : Nat), os = .slice ae k ce ∧ k ≤ 12 ∧ Hid (Gst w W (.slice a len cap) (.slice ae k ce) k (300 + 70 * k) wr)) (fun os _ => 100 - slL os)
        case atStart => exact ⟨k, ae, ce, rfl, by omega, HG2.out.mono (by omega)⟩
        case round =>
          clear HG2 hk4
          obtain ⟨k, ae, ce, rfl, hk12, HG⟩ := hrel
          go_wp2_with fail
          refine (pickC w.heap.size _ _ 2 _ HG.out.st (by omega) (by omega) (by omega)).mono ?_
          rintro e w2 ⟨y, y0, y1, rfl, c2, -⟩
          have HG2 := Lib.hid (HG.out.pick c2)
          clear c2 HG
          by_cases hlt : (k : Int) < 11 + y
          · have hltb : decide ((k : Int) < 11 + y) = true := decide_eq_true hlt
            go_wp2_with fail
            refine (containerC w.heap.size _ _ _ HG2.out.st (by omega)).mono ?_
            rintro e w2 ⟨u, xs, rfl, -, -, o2, c2⟩
            obtain ⟨xss, wv, G1, G2, G3, G4, G5, G6⟩ := HG2.out.add HW.out c2 o2
            obtain ⟨au, cu, nu, -, rfl, -⟩ := o2.rd.opn
            clear o2 c2 HG2
            go_wp2_with (at_builtin; go_loud (refine wpList_grow rfl (.tmp 40) (.tmp 43) 39 24 rfl Try.underlying39 (.slice none 0 0) 1 24 Try.infoSl rfl (by decide) (by decide) (w.heap.size + 1) k (.slice ae k ce) _ _ rfl G1.out G2.out G3.out [.slice au nu cu] G4.out rfl (by simp [Value.oneCell']) rfl (by omega) ?_; intro v3 w3 hG3 hgr3 hlie; have HG3 := Lib.hid (Gst.done hG3 G5.out hgr3 G6.out); obtain ⟨-, a3, c3, rfl⟩ := hG3.form; clear hG3 hgr3 hlie))
            go_roundw
            case rel => exact ⟨k + 1, _, _, rfl, by omega, HG3.out.mono (by omega)⟩
            case measure => simp only [slL]; omega
          · have hltb : decide ((k : Int) < 11 + y) = false := decide_eq_false hlt
            have HG3 := HG2
            have HGT := Lib.hid (HG3.out.mono (show _ ≤ 3000 by omega))
            have hzt := HGT.out.size HW.out
            clear HG3
            go_wp2_with fail
            refine (pickC w.heap.size _ _ 12 _ HGT.out.st (by omega) (by omega) (by omega)).mono ?_
            rintro e w4 ⟨y, y0, y1, rfl, c4, -⟩
            have HG4 := Lib.hid (HGT.out.pick c4)
            have hz4 := HG4.out.size HW.out
            have HG5 := Lib.hid (HG4.out.alloc (.cells (ints [0, 0, 1, 5, 11, y, 12, -1]).toArray 3))
            have hr : ∀ x ∈ [0, 0, 1, 5, 11, y, 12, -1], (-1 : Int) ≤ x ∧ x ≤ 12 := by
              intro x hx; simp only [List.mem_cons, List.not_mem_nil, or_false] at hx; omega
            have HLI := Lib.hid (fun (j : Nat) (hj : j < 8) => lit_row (w := w4) (xs := [0, 0, 1, 5, 11, y, 12, -1]) (lo := -1) (hi := 12) (T := 3) hr rfl (n := 8) (by simp) j hj)
            clear c4 HGT HG4 hr y0 y1
            go_wp2_with fail
            refine (pickC w.heap.size _ _ 24 _ HG5.out.st (by omega) (by omega) (by omega)).mono ?_
            rintro e w5 ⟨z, z0, z1, rfl, c5, -⟩
            have HL5 := Lib.hid (fun (j : Nat) (hj : j < 8) => (HLI.out j hj).elim fun x hx => show ∃ x : Int, -1 ≤ x ∧ x ≤ 12 ∧ w5.cell? ⟨w4.heap.size, j, none⟩ = some (.int .i64 x) from ⟨x, hx.1, hx.2.1, c5.cell hx.2.2 (by omega)⟩)
            have HG6 := Lib.hid (HG5.out.pick c5)
            clear c5 HG5 HLI
            obtain ⟨q, hq2, hq⟩ : ∃ q : Nat, q ≤ 1 ∧ z / 12 = (q : Int) := ⟨(z / 12).toNat, by omega, by omega⟩
            have hq6 : (6 : Int) + z / 12 = ((6 + q : Nat) : Int) := by omega
            have hq7 : wrap64 ((6 : Int) + z / 12) = ((6 + q : Nat) : Int) := by rw [hq6]; exact IntWalk.wrap64_in _ (by omega)
            go_wp2_with fail
            refine (amongC w.heap.size _ _ w4.heap.size (6 + q) 8 (-1) 12 _ HG6.out.st (by omega) (by omega) (by omega) (by omega) (fun j hj => HL5.out j (by omega))).mono ?_
            rintro e w6 ⟨p, p0, p1, rfl, c6, -⟩
            have HG7 := Lib.hid (HG6.out.pick c6)
            clear c6 HG6 HL5 hq hq6 hq7 z0 z1
            go_wp2
            refine bodyPost_ret (results_tmp2 rfl _ _ _) rfl ?_
            exact HG7.out.fin hB0.out
      by_cases e2 : x = 2
      · subst e2
        go_wp2_with fail
        refine (containerC w.heap.size _ _ _ HG2.out.st (by omega)).mono ?_
        rintro e w3 ⟨u, xs, rfl, hl, -, o2, c2⟩
        obtain ⟨g, f0, cp, rfl, hg1, hg2, hc1, hc2⟩ := o2.openN hl (by omega)
        have HO := Lib.hid (o2.part 1 11 (by omega))
        have CC := Lib.hid c2
        have hs3 := c2.size
        have hcp : ¬ cp = 1 := by omega
        have hc1I : (12 : Int) ≤ (cp : Int) := by omega
        unfold maxLen at hc2
        clear o2 c2 hl hg2
        go_wp2_with (first
          | (at_builtin; go_loud (refine wpList_pushOwn rfl (.tmp 50) (.tmp 51) 24 rfl Try.underlying24 Try.infoInt w2.heap.size g (f0 + 1) 11 (cp - 1) _ rfl HO.out rfl (by omega) hs3 ?_; intro v4 w4 ho4 hg4; have c4 := CC.out.grown hg4 (fun q hq => (by cases hq; exact hg1)); obtain ⟨xss, wv, G1, G2, G3, G4, G5, G6⟩ := HG2.out.add HW.out c4 ho4; obtain ⟨au, cu, nu, -, rfl, -⟩ := ho4.rd.opn; clear ho4 hg4 c4 HO CC))
          | (at_builtin; go_loud (refine wpList_grow rfl (.tmp 47) (.tmp 53) 39 24 rfl Try.underlying39 (.slice none 0 0) 1 24 Try.infoSl rfl (by decide) (by decide) (w.heap.size + 1) k (.slice ae k ce) _ _ rfl G1.out G2.out G3.out [.slice au nu cu] G4.out rfl (by simp [Value.oneCell']) rfl (by omega) ?_; intro v3 w3 hG3 hgr3 hlie; have HG3 := Lib.hid (Gst.done hG3 G5.out hgr3 G6.out); obtain ⟨-, a3, c3, rfl⟩ := hG3.form; clear hG3 hgr3 hlie G1 G2 G3 G4 G5 G6; refine StopAt.go ?_)))
        unfold StopAt
        have HGT := Lib.hid (HG3.out.mono (show _ ≤ 3000 by omega))
        have hzt := HGT.out.size HW.out
        clear HG3
        go_wp2_with fail
        refine (pickC w.heap.size _ _ 12 _ HGT.out.st (by omega) (by omega) (by omega)).mono ?_
        rintro e w4 ⟨y, y0, y1, rfl, c4, -⟩
        have HG4 := Lib.hid (HGT.out.pick c4)
        have hz4 := HG4.out.size HW.out
        have HG5 := Lib.hid (HG4.out.alloc (.cells (ints [0, 0, 1, 5, 11, y, 12, -1]).toArray 3))
        have hr : ∀ x ∈ [0, 0, 1, 5, 11, y, 12, -1], (-1 : Int) ≤ x ∧ x ≤ 12 := by
          intro x hx; simp only [List.mem_cons, List.not_mem_nil, or_false] at hx; omega
        have HLI := Lib.hid (fun (j : Nat) (hj : j < 8) => lit_row (w := w4) (xs := [0, 0, 1, 5, 11, y, 12, -1]) (lo := -1) (hi := 12) (T := 3) hr rfl (n := 8) (by simp) j hj)
        clear c4 HGT HG4 hr y0 y1
        go_wp2_with fail
        refine (pickC w.heap.size _ _ 24 _ HG5.out.st (by omega) (by omega) (by omega)).mono ?_
        rintro e w5 ⟨z, z0, z1, rfl, c5, -⟩
        have HL5 := Lib.hid (fun (j : Nat) (hj : j < 8) => (HLI.out j hj).elim fun x hx => show ∃ x : Int, -1 ≤ x ∧ x ≤ 12 ∧ w5.cell? ⟨w4.heap.size, j, none⟩ = some (.int .i64 x) from ⟨x, hx.1, hx.2.1, c5.cell hx.2.2 (by omega)⟩)
        have HG6 := Lib.hid (HG5.out.pick c5)
        clear c5 HG5 HLI
        obtain ⟨q, hq2, hq⟩ : ∃ q : Nat, q ≤ 1 ∧ z / 12 = (q : Int) := ⟨(z / 12).toNat, by omega, by omega⟩
        have hq6 : (6 : Int) + z / 12 = ((6 + q : Nat) : Int) := by omega
        have hq7 : wrap64 ((6 : Int) + z / 12) = ((6 + q : Nat) : Int) := by rw [hq6]; exact IntWalk.wrap64_in _ (by omega)
        go_wp2_with fail
        refine (amongC w.heap.size _ _ w4.heap.size (6 + q) 8 (-1) 12 _ HG6.out.st (by omega) (by omega) (by omega) (by omega) (fun j hj => HL5.out j (by omega))).mono ?_
        rintro e w6 ⟨p, p0, p1, rfl, c6, -⟩
        have HG7 := Lib.hid (HG6.out.pick c6)
        clear c6 HG6 HL5 hq hq6 hq7 z0 z1
        go_wp2
        refine bodyPost_ret (results_tmp2 rfl _ _ _) rfl ?_
        exact HG7.out.fin hB0.out
      · have HG3 := HG2
        have HGT := Lib.hid (HG3.out.mono (show _ ≤ 3000 by omega))
        have hzt := HGT.out.size HW.out
        clear HG3
        go_wp2_with fail
        refine (pickC w.heap.size _ _ 12 _ HGT.out.st (by omega) (by omega) (by omega)).mono ?_
        rintro e w4 ⟨y, y0, y1, rfl, c4, -⟩
        have HG4 := Lib.hid (HGT.out.pick c4)
        have hz4 := HG4.out.size HW.out
        have HG5 := Lib.hid (HG4.out.alloc (.cells (ints [0, 0, 1, 5, 11, y, 12, -1]).toArray 3))
        have hr : ∀ x ∈ [0, 0, 1, 5, 11, y, 12, -1], (-1 : Int) ≤ x ∧ x ≤ 12 := by
          intro x hx; simp only [List.mem_cons, List.not_mem_nil, or_false] at hx; omega
        have HLI := Lib.hid (fun (j : Nat) (hj : j < 8) => lit_row (w := w4) (xs := [0, 0, 1, 5, 11, y, 12, -1]) (lo := -1) (hi := 12) (T := 3) hr rfl (n := 8) (by simp) j hj)
        clear c4 HGT HG4 hr y0 y1
        go_wp2_with fail
        refine (pickC w.heap.size _ _ 24 _ HG5.out.st (by omega) (by omega) (by omega)).mono ?_
        rintro e w5 ⟨z, z0, z1, rfl, c5, -⟩
        have HL5 := Lib.hid (fun (j : Nat) (hj : j < 8) => (HLI.out j hj).elim fun x hx => show ∃ x : Int, -1 ≤ x ∧ x ≤ 12 ∧ w5.cell? ⟨w4.heap.size, j, none⟩ = some (.int .i64 x) from ⟨x, hx.1, hx.2.1, c5.cell hx.2.2 (by omega)⟩)
        have HG6 := Lib.hid (HG5.out.pick c5)
        clear c5 HG5 HLI
        obtain ⟨q, hq2, hq⟩ : ∃ q : Nat, q ≤ 1 ∧ z / 12 = (q : Int) := ⟨(z / 12).toNat, by omega, by omega⟩
        have hq6 : (6 : Int) + z / 12 = ((6 + q : Nat) : Int) := by omega
        have hq7 : wrap64 ((6 : Int) + z / 12) = ((6 + q : Nat) : Int) := by rw [hq6]; exact IntWalk.wrap64_in _ (by omega)
        go_wp2_with fail
        refine (amongC w.heap.size _ _ w4.heap.size (6 + q) 8 (-1) 12 _ HG6.out.st (by omega) (by omega) (by omega) (by omega) (fun j hj => HL5.out j (by omega))).mono ?_
        rintro e w6 ⟨p, p0, p1, rfl, c6, -⟩
        have HG7 := Lib.hid (HG6.out.pick c6)
        clear c6 HG6 HL5 hq hq6 hq7 z0 z1
        go_wp2
        refine bodyPost_ret (results_tmp2 rfl _ _ _) rfl ?_
        exact HG7.out.fin hB0.out
end Go.Proofs.Ytlemielobmbadaa
