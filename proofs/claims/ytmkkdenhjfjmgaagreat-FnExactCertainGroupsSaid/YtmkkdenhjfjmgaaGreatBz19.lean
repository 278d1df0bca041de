/- Joined: XNed XDel XMnw XMno. -/
import Derived.Test.YtmkkdenhjfjmgaaGreatBz17
import Derived.Test.YtmkkdenhjfjmgaaGreatBz08
import Derived.Test.YtmkkdenhjfjmgaaGreatBz06
import Derived.Test.YtmkkdenhjfjmgaaGreatBz01
import Derived.Test.YtmkkdenhjfjmgaaGreatBz18
import Derived.Test.YtmkkdenhjfjmgaaGreatBz09
import Derived.Deep.RegionHeld3
import Derived.Test.YtmkkdenhjfjmgaaGreatBz07
namespace Go.Proofs.YtmkkdenhjfjmgaaGreat
open Go.RowKit Go.Sort
set_option maxRecDepth 100000

theorem Rd.takeK {w : World} {b off n cap k : Nat} {xs : List Int} (h : Rd w (.slice (some ⟨b, off, none⟩) n cap) xs) (hk : k ≤ xs.length) : Rd w (.slice (some ⟨b, off, none⟩) k cap) (xs.take k) := by
  rcases h with ⟨e, _⟩ | ⟨b', off', cap', e, h1, h2, h3, h4⟩
  · simp at e
  · simp only [Value.slice.injEq, Option.some.injEq, Addr.mk.injEq] at e
    obtain ⟨⟨rfl, rfl, -⟩, -, rfl⟩ := e
    have hl : (xs.take k).length = k := by rw [List.length_take]; omega
    exact .inr ⟨b, off, cap, by rw [hl], by rw [hl]; omega, h2, h3, fun j hj => by rw [List.getElem?_take, if_pos (by omega)]; exact h4 j (by omega)⟩
theorem needU_no {p : Pln} {d xs : List Int} {k : Nat} (hk : k < xs.length) (h : uq (hmks p) (dmk p d) (xs.eraseIdx k) = true) : needU p d xs = false := by
  unfold needU
  rw [show (List.range xs.length).any (fun k => uniB p d (xs.eraseIdx k)) = true from List.any_eq_true.2 ⟨k, List.mem_range.2 hk, h⟩]; rfl
theorem needU_yes {p : Pln} {d xs : List Int} (h : ∀ k, k < xs.length → uq (hmks p) (dmk p d) (xs.eraseIdx k) = false) : needU p d xs = true := by
  unfold needU
  rw [show (List.range xs.length).any (fun k => uniB p d (xs.eraseIdx k)) = false from by rw [List.any_eq_false]; intro k hk; have := h k (List.mem_range.1 hk); unfold uq at this; unfold uniB; rw [this]; simp]; rfl
set_option maxHeartbeats 3200000 in
theorem l25Needed_any (vh vx : Value) (p : Pln) (d xs : List Int) (w : World) (hh : Rd w vh (nats (hmks p))) (hx : Rd w vx xs) (hp : plnOk p = true) (hb : ∀ i : Nat, i < xs.length → 0 ≤ xs[i]?.getD 0 ∧ xs[i]?.getD 0 < (hmks p).length) (hl : xs.length ≤ 23) :
    Calls Tryz.prog 142 #[vh, vx, .int .i64 (dmk p d)] w fun e w' => e = .returned (.bool (needU p d xs)) ∧ Below w.heap.size w w' := by
  have HUN := Lib.hid (fun k w' (hb' : Below w.heap.size w w') v' (hv : Rd w' v' (xs.eraseIdx k)) => l25Union_any vh v' (hmks p) (xs.eraseIdx k) w' (hh.belowAll hb') hv (fun m hm => Nat.lt_of_lt_of_le (hmks_mem p m hm) (Nat.pow_le_pow_right (by omega) (plnOk_sz hp).2.1)) (fun i hi => by
    have hm := List.mem_of_mem_eraseIdx (List.getElem_mem hi)
    obtain ⟨j, hj, e⟩ := List.mem_iff_getElem.1 hm
    have := hb j hj
    rw [List.getElem?_eq_getElem hj, e] at this
    rw [List.getElem?_eq_getElem hi]; exact this))
  have HRX := Lib.hid (fun w' (hb : Below w.heap.size w w') => hx.belowAll hb)
  have HNO := Lib.hid (fun k h1 h2 => @needU_no p d xs k h1 h2)
  have HYE := Lib.hid (fun h => @needU_yes p d xs h)
  obtain ⟨ah, ch, nh, -, rfl, -, -, -⟩ := hh.opn
  obtain ⟨ax, cx, n, HN, rfl, hncx, hnx, hcx⟩ := hx.opn
  have HC := Lib.hid hcx
  rw [HN.out] at HNO HYE
  have hn23 : n ≤ 23 := by rw [← HN.out]; exact hl
  generalize needU p d xs = R at *
  have HUQ := Lib.hid (fun k => show uq (hmks p) (dmk p d) (xs.eraseIdx k) = decide (uni (hmks p) (xs.eraseIdx k) = dmk p d) from rfl)
  generalize dmk p d = M at *
  clear hh hx hcx hb hl hp
  go_enter Tryz.func142, Tryz.ntmps142
  go_wp2
  go_loopw [7, 8] (fun i _ wr => ∃ k : Nat, k ≤ n ∧ i = .int .i64 k ∧ Hid (∀ j, j < k → uq (hmks p) M (xs.eraseIdx j) = false) ∧ Hid (Below w.heap.size w wr)) (fun i _ _ => n - (intOf i).toNat)
  case atStart => exact ⟨0, Nat.zero_le _, rfl, fun j hj => absurd hj (Nat.not_lt_zero j), Below.refl _ _⟩
  case round =>
    obtain ⟨k, hk, rfl, HK, HB⟩ := hrel
    by_cases hlt : k < n
    · have hltI : (k : Int) < (n : Int) := by omega
      obtain ⟨b, off, rfl, hbs, hcs⟩ := HC.out (by omega)
      obtain ⟨k1, hk1⟩ : ∃ k1, k1 = k + 1 := ⟨_, rfl⟩
      have hwk : IntKind.i64.wrap ((k : Int) + 1) = (k1 : Int) := by rw [IntWalk.i64_in _ (by omega)]; omega
      have HRT := Lib.hid (fun w' (hb : Below wr.heap.size wr w') => ((HRX.out wr HB.out).belowAll hb).takeK (k := k) (by rw [HN.out]; omega))
      have HER := Lib.hid (show xs.eraseIdx k = xs.take k ++ xs.drop k1 from by rw [List.eraseIdx_eq_take_drop_succ, hk1])
      have HTL := Lib.hid (show (xs.take k).length = k by rw [List.length_take, HN.out]; omega)
      have HDL := Lib.hid (show (xs.drop k1).length = n - k1 by rw [List.length_drop, HN.out])
      have hbsw : b < wr.heap.size := Nat.lt_of_lt_of_le hbs HB.out.size
      have HDK := Lib.hid (fun (W : World) (hW : Below wr.heap.size wr W) j (hj : j < n - k1) => show W.cell? ⟨b, off + k1 + j, none⟩ = some (.int .i64 ((xs.drop k1)[j]?.getD 0)) by
        rw [List.getElem?_drop, Nat.add_assoc]; exact (hW.cell hbsw).trans ((HB.out.cell (p := ⟨b, off + (k1 + j), none⟩) hbs).trans (hcs (k1 + j) (by omega))))
      have HUK := Lib.hid (fun w' (hb : Below wr.heap.size wr w') v' hv => HUN.out k w' (HB.out.trans (hb.mono HB.out.size)) v' hv)
      have HNK := Lib.hid (HNO.out k hlt)
      have HST := Lib.hid (fun h => upto_not (P := fun j => uq (hmks p) M (xs.eraseIdx j) = false) HK.out (k := k) h)
      have HQK := Lib.hid (HUQ.out k)
      have HOW := Lib.hid (fun w' (hb : Below wr.heap.size wr w') => show Calls Tryz.prog 163 #[.slice (some ⟨b, off, none⟩) k cx] w' (fun e w5 => ∃ v5, e = .returned v5 ∧ w5.ownsRow wr.heap.size 3 1 v5 k (ints (xs.take k)) ∧ Below wr.heap.size wr w5) from (l1OwnE_any _ (xs.take k) w' (HRT.out w' hb) (by rw [HTL.out]; omega)).mono (by
        rintro e w5 ⟨v5, rfl, r5, b5⟩
        rw [HTL.out] at r5
        exact ⟨v5, rfl, row_mono r5 hb.size, hb.trans (b5.mono hb.size)⟩))
      have bel0 : Below wr.heap.size wr wr.drew := (Below.refl wr.heap.size wr).drew
      have hkx : k < xs.length := by rw [HN.out]; exact hlt
      generalize hqe : uq (hmks p) M (xs.eraseIdx k) = q at *
      clear hcs hbs hkx hlt hqe
      generalize xs.eraseIdx k = er at *
      generalize xs.take k = ts at *
      generalize xs.drop k1 = ds at *
      have i1 : (0 : Int) ≤ (k : Int) := by omega
      have i2 : (k : Int) ≤ (cx : Int) := by omega
      have i3 : k ≤ cx := by omega
      have j1 : (0 : Int) ≤ (k1 : Int) := by omega
      have j2 : (k1 : Int) ≤ (n : Int) := by omega
      have j3 : k1 ≤ n := by omega
      have j4 : (n : Int) ≤ (cx : Int) := by omega
      have j5 : (k1 : Int) ≤ (cx : Int) := by omega
      clear hk1
      by_cases hcm : cx = k1
      · have hnk : n = k1 := by omega
        have HDN := Lib.hid (show ds = [] from List.eq_nil_of_length_eq_zero (by rw [HDL.out]; omega))
        subst hcm
        subst hnk
        rw [HDN.out] at HER
        go_wp2
        go_region_law (first
          | ((refine step_of_list rfl ?_); (with_reducible show wpList _ _ _ (⟨some 23, _, _, _, _, _⟩ :: _) _ _); (go_loud (refine wpList_catA rfl (.tmp 18) (.tmp 22) 29 rfl Tryz.underlying29 Tryz.infoInt wr.heap.size v5 k ts (by rfl) r5 (some ⟨b, off, none⟩) 0 0 [] (by rfl) rfl (fun e => by cases e) (fun h => absurd h (Nat.lt_irrefl 0)) (by omega) B5.size ?_)); (intro v6 w6 r6 g6); (have B6 := Below.grown B5 g6 B5.size (fun q hq => (r5.lt q hq).1)); (have o6 := own_of_row r6); (obtain ⟨a6, c6, n6, -, rfl, -⟩ := o6.rd.opn); (unfold wpList); (refine ⟨rfl, ?_⟩))
          | (go_simp; go_at_call 163; (with_reducible refine (HOW.out _ bel0).mono ?_); rintro e w5 ⟨v5, rfl, r5, B5⟩))
        all_goals
          have HO6 := Lib.hid (show Rd w6 (.slice a6 n6 c6) er from by rw [HER.out]; exact o6.rd)
          have HB6 := Lib.hid (HB.out.trans (B6.mono HB.out.size))
          have HU6 := Lib.hid (HUK.out w6 B6 _ HO6.out)
          clear r5 B5 r6 g6 o6 B6 bel0 hwk
          generalize uni (hmks p) er = U at *
          by_cases hq : U = M
          · have hqi : ((U : Int) == (M : Int)) = true := by rw [beq_iff_eq]; omega
            have HR := Lib.hid (HNK.out (by rw [HQK.out]; exact decide_eq_true hq))
            clear hq
            go_wp2_with fail
            refine HU6.out.mono ?_
            rintro e w7 ⟨rfl, rfl⟩
            go_wp2
            go_ret
            exact ⟨by rw [HR.out]; rfl, HB6.out⟩
          · have hqi : ((U : Int) == (M : Int)) = false := by rw [beq_eq_false_iff_ne]; omega
            have HS2 := Lib.hid (HST.out (show q = false from by rw [HQK.out]; exact decide_eq_false hq))
            clear hq
            go_wp2_with fail
            refine HU6.out.mono ?_
            rintro e w7 ⟨rfl, rfl⟩
            go_wp2
            go_roundw
            case rel => exact ⟨k + 1, by omega, by go_num, HS2.out, HB6.out⟩
            case measure => simp [intOf]; omega
      · have hck : ¬ cx - k1 = 0 := by omega
        go_wp2
        go_region_law (first
          | ((refine step_of_list rfl ?_); (with_reducible show wpList _ _ _ (⟨some 23, _, _, _, _, _⟩ :: _) _ _); (go_loud (refine wpList_catA rfl (.tmp 18) (.tmp 22) 29 rfl Tryz.underlying29 Tryz.infoInt wr.heap.size v5 k ts (by rfl) r5 _ (n - k1) _ ds (by rfl) HDL.out (fun e => by cases e) (fun _ => ⟨b, off + k1, rfl, HDK.out _ B5⟩) (by omega) B5.size ?_)); (intro v6 w6 r6 g6); (have B6 := Below.grown B5 g6 B5.size (fun q hq => (r5.lt q hq).1)); (have o6 := own_of_row r6); (obtain ⟨a6, c6, n6, -, rfl, -⟩ := o6.rd.opn); (unfold wpList); (refine ⟨rfl, ?_⟩))
          | (go_simp; go_at_call 163; (with_reducible refine (HOW.out _ bel0).mono ?_); rintro e w5 ⟨v5, rfl, r5, B5⟩))
        all_goals
          have HO6 := Lib.hid (show Rd w6 (.slice a6 n6 c6) er from by rw [HER.out]; exact o6.rd)
          have HB6 := Lib.hid (HB.out.trans (B6.mono HB.out.size))
          have HU6 := Lib.hid (HUK.out w6 B6 _ HO6.out)
          clear r5 B5 r6 g6 o6 B6 bel0 hwk
          generalize uni (hmks p) er = U at *
          by_cases hq : U = M
          · have hqi : ((U : Int) == (M : Int)) = true := by rw [beq_iff_eq]; omega
            have HR := Lib.hid (HNK.out (by rw [HQK.out]; exact decide_eq_true hq))
            clear hq
            go_wp2_with fail
            refine HU6.out.mono ?_
            rintro e w7 ⟨rfl, rfl⟩
            go_wp2
            go_ret
            exact ⟨by rw [HR.out]; rfl, HB6.out⟩
          · have hqi : ((U : Int) == (M : Int)) = false := by rw [beq_eq_false_iff_ne]; omega
            have HS2 := Lib.hid (HST.out (show q = false from by rw [HQK.out]; exact decide_eq_false hq))
            clear hq
            go_wp2_with fail
            refine HU6.out.mono ?_
            rintro e w7 ⟨rfl, rfl⟩
            go_wp2
            go_roundw
            case rel => exact ⟨k + 1, by omega, by go_num, HS2.out, HB6.out⟩
            case measure => simp [intOf]; omega
    · obtain rfl : n = k := by omega
      have HE := Lib.hid (HYE.out HK.out)
      go_wp2
      go_ret
      exact ⟨by rw [HE.out]; rfl, HB.out⟩
end Go.Proofs.YtmkkdenhjfjmgaaGreat
namespace Go.Proofs.YtmkkdenhjfjmgaaGreat
open Go.RowKit Go.Sort Go.Lib

theorem deleteI_own (v : Value) (xs : List Int) (base : Nat) (w : World) (k : Nat) (h : Own w base v xs) (hk : k < xs.length) :
    Calls Tryz.prog 94 #[v, .int .i64 k, .int .i64 ((k : Int) + 1)] w fun e w' => ∃ v', e = .returned v' ∧ v'.ownBlock = v.ownBlock ∧ Own w' base v' (xs.eraseIdx k) ∧ w.grownBy w' v.ownBlock := by
  have h0 := h
  rcases h with ⟨rfl, rfl⟩ | ⟨g, off, cap, cur, rfl, hb, ⟨T, hg⟩, h1, h2, h3, h4⟩
  · simp at hk
  · have hc := Tryz.slices_Delete_int g off cap k (k + 1) xs w h0.holds h1 (by unfold maxLen at h2; omega) (by omega) (by omega)
    rw [show ((k + 1 : Nat) : Int) = (k : Int) + 1 from by omega] at hc
    refine hc.mono ?_
    rintro e w' ⟨rfl, q, rfl⟩
    have hT : (xs.take k ++ xs.drop (k + 1) ++ List.replicate (k + 1 - k) 0).length = xs.length := by simp; omega
    have := h0.putRow (q := q) (os := #[]) (ts := xs.take k ++ xs.drop (k + 1) ++ List.replicate (k + 1 - k) 0) (m := xs.length - (k + 1 - k)) hT (by omega)
    rw [List.take_left' (by simp; omega), grow_empty] at this
    have g2 := grownBy_putRow (w := w) (g := g) (off := off) (n := q) (os := #[]) (xs.take k ++ xs.drop (k + 1) ++ List.replicate (k + 1 - k) 0).toArray
    rw [grow_empty] at g2
    exact ⟨_, rfl, rfl, by rw [List.eraseIdx_eq_take_drop_succ]; exact this, g2⟩
theorem cloneI_own (v : Value) (xs : List Int) (w : World) (h : Rd w v xs) (h0 : 0 < xs.length) (hl : xs.length ≤ 1000000) :
    Calls Tryz.prog 95 #[v] w fun e w' => ∃ v', e = .returned v' ∧ Own w' w.heap.size v' xs ∧ Below w.heap.size w w' := by
  rcases h with ⟨_, h⟩ | ⟨b, off, cap, rfl, h1, h2, h3, h4⟩
  · rw [h] at h0; simp at h0
  · refine (Tryz.slices_Clone_int b off xs.length cap xs w (Nat.le_refl _) (by omega) (fun j hj => by rw [h4 j hj]; simp [hj])).mono ?_
    rintro e w' ⟨v', rfl, r, -, hb⟩
    rw [List.take_length] at r
    exact ⟨_, rfl, own_of_row r, hb⟩
end Go.Proofs.YtmkkdenhjfjmgaaGreat
namespace Go.Proofs.YtmkkdenhjfjmgaaGreat
open Go.RowKit Go.Sort
set_option maxRecDepth 100000

theorem needB_no {p : Pln} {d ys : List Int} {k : Nat} (hk : k < ys.length) (h : expB p d (ys.eraseIdx k) = true) : needB p d ys = false := by
  unfold needB
  rw [show (List.range ys.length).any (fun k => expB p d (ys.eraseIdx k)) = true from List.any_eq_true.2 ⟨k, List.mem_range.2 hk, h⟩]; rfl
theorem needB_yes {p : Pln} {d ys : List Int} (h : ∀ k, k < ys.length → expB p d (ys.eraseIdx k) = false) : needB p d ys = true := by
  unfold needB
  rw [show (List.range ys.length).any (fun k => expB p d (ys.eraseIdx k)) = false from by rw [List.any_eq_false]; intro k hk; rw [h k (List.mem_range.1 hk)]; simp]; rfl
theorem stM_no {p : Pln} {d ys : List Int} {s : List (List Int)} (h : needB p d ys = false) : stM p d s ys = (s, false) := by unfold stM; rw [h]; rfl
theorem stM_yes {p : Pln} {d ys : List Int} {s : List (List Int)} (h : needB p d ys = true) : stM p d s ys = (s ++ [ys], decide (40 < s.length + 1)) := by unfold stM; rw [if_pos h]
/-- The visitor's variables. -/
structure JMs (base bo bp bd : Nat) (a1 a2 a3 vd : Value) (s : List (List Int)) (T : Nat → Prop) (w : World) (g m cap : Nat) (us : List Value) (fs : List (List Nat)) : Prop where
  t : ∀ q, T q ↔ q = bo ∨ q = g
  ho : w.heap[bo]? = some (.cells #[.slice (some ⟨g, 0, none⟩) m cap] 63 (0, 0))
  hg : GrX w base (bo + 1) 29 1 (.slice (some ⟨g, 0, none⟩) m cap) m (s.map inD) us fs
  ne : g ≠ bo
  ml : s.length = m
  hp : w.heap[bp]? = some (.cells #[a1, a2, a3] 38 (0, 0))
  hd : w.heap[bd]? = some (.cells #[vd] 29 (0, 0))
  np : ¬ T bp
  nd : ¬ T bd
def JM (base bo bp bd : Nat) (a1 a2 a3 vd : Value) (s : List (List Int)) (T : Nat → Prop) (w : World) : Prop := ∃ g m cap us fs, JMs base bo bp bd a1 a2 a3 vd s T w g m cap us fs
theorem JMs.below {base bo bp bd : Nat} {a1 a2 a3 vd : Value} {s : List (List Int)} {T : Nat → Prop} {w w' : World} {g m cap : Nat} {us : List Value} {fs : List (List Nat)} (h : JMs base bo bp bd a1 a2 a3 vd s T w g m cap us fs) (hb : Below w.heap.size w w') : JMs base bo bp bd a1 a2 a3 vd s T w' g m cap us fs :=
  ⟨h.t, kept_o' h.ho hb, h.hg.below hb, h.ne, h.ml, kept_o' h.hp hb, kept_o' h.hd hb, h.np, h.nd⟩
theorem JMs.lt {base bo bp bd : Nat} {a1 a2 a3 vd : Value} {s : List (List Int)} {T : Nat → Prop} {w : World} {g m cap : Nat} {us : List Value} {fs : List (List Nat)} (h : JMs base bo bp bd a1 a2 a3 vd s T w g m cap us fs) {q : Nat} (hq : T q) : q < w.heap.size := by
  rcases (h.t q).1 hq with rfl | rfl
  · exact (Array.getElem?_eq_some_iff.1 h.ho).1
  · exact h.hg.lt q (.inl rfl)
theorem Mv.grown {T : Nat → Prop} {w w' : World} {v : Value} {g g' bo : Nat} (h : w.grownBy w' v.ownBlock) (hv : v.ownBlock = some g) (ht : ∀ q, T q ↔ q = bo ∨ q = g) (hat : v.ownBlock = some g' ∨ g' = w.heap.size) : Mv T (fun q => q = bo ∨ q = g') w w' :=
  ⟨h.os, h.tape, h.output, h.size, fun q hq hn => h.block q hq (fun e => hn ((ht q).2 (.inr (by rw [hv] at e; exact Option.some.inj e)))), fun q hq => by
    rcases hq with hq | hq
    · exact .inl ((ht q).2 (.inl hq))
    · rcases hat with e | e
      · exact .inl ((ht q).2 (.inr (by rw [hv] at e; rw [hq]; exact (Option.some.inj e).symm)))
      · exact .inr (by rw [hq, e]; exact Nat.le_refl _)⟩
theorem not_mem_of_lt {fs : List (List Nat)} {lo q : Nat} (h : ∀ k ∈ fs.flatten, lo ≤ k) (hq : q < lo) : q ∉ fs.flatten := fun e => by have := h q e; omega
set_option maxHeartbeats 6400000 in
theorem minExp1_any {base bo bp bd : Nat} {a1 a2 a3 vd : Value} {u : World} {p : Pln} {d : List Int} (hp : PlnR u (.agg #[a1, a2, a3]) p) (hd : Rd u vd d) (hok : dwOk p d = true) (hfb : ∀ i : Nat, (lgA p i).fb.length ≤ 1100000)
    (s : List (List Int)) (T : Nat → Prop) (w0 w : World) (vl : Value) (ys : List Int) (hs : s.length ≤ 40) (h : JM base bo bp bd a1 a2 a3 vd s T w0) (hb0 : Below w0.heap.size w0 w) (hu : Below u.heap.size u w) (hub : base ≤ w.heap.size) (ho : Own w w0.heap.size vl ys) (hy : ∀ y ∈ ys, y ∈ sps p d) (hyl : ys.length ≤ 23) :
    Calls Tryz.prog 93 #[vl, ptr bp, ptr bd, ptr bo] w fun e w' => e = .returned (.bool (stM p d s ys).2) ∧ MvQ (JM base bo bp bd a1 a2 a3 vd) (stM p d s ys).1 T w w' := by
  obtain ⟨g, m, cap, us, fs, h0⟩ := h
  have hj := h0.below hb0
  have hlt0 : ∀ q, (q = bo ∨ q = g) → q < w0.heap.size := fun q hq => h0.lt ((h0.t q).2 hq)
  have HEXP := Lib.hid (fun k w' (hb : Below u.heap.size u w') v' (hv : Rd w' v' (ys.eraseIdx k)) => explains_any (.agg #[a1, a2, a3]) vd v' p d (ys.eraseIdx k) w' (hp.behind hb) (hd.belowAll hb) hv (dwOk_parts hok).1 hfb (sps_bd fun y hy' => hy y (List.mem_of_mem_eraseIdx hy')) (by have := List.length_eraseIdx_le ys k; omega))
  have HCLN := Lib.hid (fun w' (hb : Below w.heap.size w w') h1 => cloneI_own vl ys w' (ho.rd.belowAll hb) h1 (by omega))
  have HDEL := Lib.hid (fun v base' w' k h1 h2 => deleteI_own v ys base' w' k h1 h2)
  have HSN := Lib.hid (fun k h1 h2 => @stM_no p d ys s (@needB_no p d ys k h1 h2))
  have HSY := Lib.hid (fun h1 => @stM_yes p d ys s (@needB_yes p d ys h1))
  have HJ := Lib.hid hj
  have HU := Lib.hid hu
  have HUB := Lib.hid hub
  have HO := Lib.hid ho
  have hfs0 : ∀ q ∈ fs.flatten, q < w0.heap.size := fun q hq => h0.hg.lt q (.inr hq)
  have hbo : bo < w0.heap.size := hlt0 bo (.inl rfl)
  have hgl : g < w0.heap.size := hlt0 g (.inr rfl)
  obtain ⟨fp, hels, hfp⟩ := ho.els (show bo + 1 ≤ w0.heap.size from hbo)
  have HELS := Lib.hid hels
  have HFP := Lib.hid (show ∀ k ∈ [fp].flatten, k ∉ fs.flatten ∧ (Value.slice (some ⟨g, 0, none⟩) m cap).ownBlock ≠ some k from fun k hk => by
    have h1 := (hfp k (by simpa using hk)).1
    exact ⟨fun e => by have := hfs0 k e; omega, fun e => by
      have h2 : g = k := by simpa [Value.ownBlock] using e
      omega⟩)
  have hml := hj.ml
  have hm40 : m ≤ 40 := by omega
  obtain ⟨b1, m1, c1, b2, m2, c2, b3, m3, c3, rfl, rfl, rfl⟩ := PlB.slices hp
  obtain ⟨ad, cd, nd, -, rfl, -, -, -⟩ := hd.opn
  obtain ⟨al, cl, nl, HNL, rfl, -, hnl, -⟩ := ho.rd.opn
  have e0 := blkc hj.hp (j := 0) rfl
  have e1 := blkc hj.hp (j := 1) rfl
  have e2 := blkc hj.hp (j := 2) rfl
  have e3 := blkc hj.hd (j := 0) rfl
  have e4 := blkc hj.ho (j := 0) rfl
  have lp := World.block_lt_of_cell? _ _ e0
  have ld := World.block_lt_of_cell? _ _ e3
  have lo := World.block_lt_of_cell? _ _ e4
  rw [HNL.out] at HSN HSY HCLN HDEL
  have hn23 : nl ≤ 23 := by have := HNL.out; omega
  generalize stM p d s ys = r at *
  clear h0 hj hlt0 hp hd hu ho hy hyl hels hfp hub hfb hok hml
  go_enter Tryz.func93, Tryz.ntmps93
  go_wp2
  go_loopw [6, 9] (fun _ i wr => ∃ k : Nat, k ≤ nl ∧ i = .int .i64 k ∧ Hid (∀ j, j < k → expB p d (ys.eraseIdx j) = false) ∧ Hid (Below w.heap.size w wr)) (fun _ i _ => nl - (intOf i).toNat)
  case atStart => exact ⟨0, Nat.zero_le _, rfl, fun j hj => absurd hj (Nat.not_lt_zero j), Below.refl _ _⟩
  case round =>
    obtain ⟨k, hk, rfl, HK, HB⟩ := hrel
    by_cases hlt : k < nl
    · have hltI : (k : Int) < (nl : Int) := by omega
      have hwk : IntKind.i64.wrap ((k : Int) + 1) = (k : Int) + 1 := IntWalk.i64_in _ (by omega)
      have g0 := (HB.out.cell (p := ⟨bp, 0, none⟩) lp).trans e0
      have g1 := (HB.out.cell (p := ⟨bp, 1, none⟩) lp).trans e1
      have g2 := (HB.out.cell (p := ⟨bp, 2, none⟩) lp).trans e2
      have g3 := (HB.out.cell (p := ⟨bd, 0, none⟩) ld).trans e3
      have lp' := Nat.lt_of_lt_of_le lp HB.out.size
      have ld' := Nat.lt_of_lt_of_le ld HB.out.size
      have HBU := Lib.hid (HU.out.trans (HB.out.mono HU.out.size))
      have HS := Lib.hid (fun (w' : World) (hb : Below wr.heap.size wr w') => show Below wr.heap.size wr w' ∧ w'.cell? ⟨bp, 0, none⟩ = some (.slice b1 m1 c1) ∧ w'.cell? ⟨bp, 1, none⟩ = some (.slice b2 m2 c2) ∧ w'.cell? ⟨bp, 2, none⟩ = some (.slice b3 m3 c3) ∧ w'.cell? ⟨bd, 0, none⟩ = some (.slice ad nd cd) from
        ⟨hb, (hb.cell lp').trans g0, (hb.cell lp').trans g1, (hb.cell lp').trans g2, (hb.cell ld').trans g3⟩)
      have HC1 := Lib.hid (fun (w' : World) (hb : Below wr.heap.size wr w') => (HCLN.out w' (HB.out.trans (hb.mono HB.out.size)) (by omega)).mono (show ∀ (e : Ending) (w5 : World), (∃ v', e = .returned v' ∧ Own w5 w'.heap.size v' ys ∧ Below w'.heap.size w' w5) → (∃ v', e = .returned v' ∧ Own w5 wr.heap.size v' ys ∧ Below wr.heap.size wr w5) from fun e w5 ⟨v', h1, h2, h3⟩ => ⟨v', h1, h2.mono hb.size, hb.trans (h3.mono hb.size)⟩))
      have HX1 := Lib.hid (fun (w' : World) (hb : Below wr.heap.size wr w') v' (hv : Rd w' v' (ys.eraseIdx k)) => (HEXP.out k w' (HBU.out.trans (hb.mono HBU.out.size)) v' hv).mono (show ∀ (e : Ending) (w5 : World), (e = .returned (.bool (expB p d (ys.eraseIdx k))) ∧ Below w'.heap.size w' w5) → (e = .returned (.bool (expB p d (ys.eraseIdx k))) ∧ Below wr.heap.size wr w5) from fun e w5 ⟨h1, h2⟩ => ⟨h1, hb.trans (h2.mono hb.size)⟩))
      have HD1 := Lib.hid (fun v w' h1 => HDEL.out v wr.heap.size w' k h1 hlt)
      have HSK := Lib.hid (HSN.out k hlt)
      have HST := Lib.hid (fun h => upto_not (P := fun j => expB p d (ys.eraseIdx j) = false) HK.out (k := k) h)
      have s0 : Below wr.heap.size wr wr.drew := (Below.refl wr.heap.size wr).drew
      clear g0 g1 g2 g3 hlt
      cases hx : expB p d (ys.eraseIdx k)
      · have HS2 := Lib.hid (HST.out hx)
        rw [hx] at HX1
        clear hx HST
        go_wp2
        go_region_held3 (fun w' => Below wr.heap.size wr w' ∧ w'.cell? ⟨bp, 0, none⟩ = some (.slice b1 m1 c1) ∧ w'.cell? ⟨bp, 1, none⟩ = some (.slice b2 m2 c2) ∧ w'.cell? ⟨bp, 2, none⟩ = some (.slice b3 m3 c3) ∧ w'.cell? ⟨bd, 0, none⟩ = some (.slice ad nd cd))
          (first | exact HS.out _ (by assumption))
          (first
            | (go_at_call 95; (with_reducible refine (HC1.out _ (And.left (by assumption))).mono ?_); rintro e w7 ⟨v7, rfl, o7, s7⟩; obtain ⟨a7, c7, n7, -, rfl, -⟩ := o7.rd.opn)
            | (go_at_call 94; (with_reducible refine (HD1.out _ _ o7).mono ?_); rintro e w8 ⟨v8, rfl, q8, o8, g8⟩; have s8 := s7.grown g8 s7.size (fun q hq => (o7.lt q hq).1); obtain ⟨a8, c8, n8, -, rfl, -⟩ := o8.rd.opn)
            | (go_at_call 70; (with_reducible refine (HX1.out _ s8 _ o8.rd).mono ?_); rintro e w9 ⟨rfl, s9⟩))
        have HB9 := Lib.hid (HB.out.trans (s9.mono HB.out.size))
        clear o7 o8 g8 s7 s8 q8 s9 s0 hwk
        go_wp2
        go_roundw
        case rel => exact ⟨k + 1, by omega, by go_num, HS2.out, HB9.out⟩
        case measure => simp [intOf]; omega
      · have HR := Lib.hid (HSK.out hx)
        rw [hx] at HX1
        clear hx HST
        go_wp2
        go_region_held3 (fun w' => Below wr.heap.size wr w' ∧ w'.cell? ⟨bp, 0, none⟩ = some (.slice b1 m1 c1) ∧ w'.cell? ⟨bp, 1, none⟩ = some (.slice b2 m2 c2) ∧ w'.cell? ⟨bp, 2, none⟩ = some (.slice b3 m3 c3) ∧ w'.cell? ⟨bd, 0, none⟩ = some (.slice ad nd cd))
          (first | exact HS.out _ (by assumption))
          (first
            | (go_at_call 95; (with_reducible refine (HC1.out _ (And.left (by assumption))).mono ?_); rintro e w7 ⟨v7, rfl, o7, s7⟩; obtain ⟨a7, c7, n7, -, rfl, -⟩ := o7.rd.opn)
            | (go_at_call 94; (with_reducible refine (HD1.out _ _ o7).mono ?_); rintro e w8 ⟨v8, rfl, q8, o8, g8⟩; have s8 := s7.grown g8 s7.size (fun q hq => (o7.lt q hq).1); obtain ⟨a8, c8, n8, -, rfl, -⟩ := o8.rd.opn)
            | (go_at_call 70; (with_reducible refine (HX1.out _ s8 _ o8.rd).mono ?_); rintro e w9 ⟨rfl, s9⟩))
        have HB9 := Lib.hid (HB.out.trans (s9.mono HB.out.size))
        clear o7 o8 g8 s7 s8 q8 s9 s0 hwk
        go_wp2
        go_ret
        exact ⟨by rw [HR.out]; rfl, T, by rw [HR.out]; exact ⟨g, m, cap, us, fs, HJ.out.below HB9.out⟩, Mv.of_below HB9.out⟩
    · obtain rfl : nl = k := by omega
      have HR := Lib.hid (HSY.out HK.out)
      have hjr := HJ.out.below HB.out
      have b5 := (Below.refl wr.heap.size wr).alloc (Nat.le_refl _) (.cells #[.slice al nl cl] 29)
      have HJ5 := Lib.hid (hjr.below b5)
      have HE5 := Lib.hid ((HELS.out.below HB.out).below b5)
      have HCL := Lib.hid (cell_one_new wr (.slice al nl cl) 29)
      have f0 := blkc hjr.ho (j := 0) rfl
      have HMB := Lib.hid ((Mv.of_below (T := T) HB.out).trans (Mv.of_below b5))
      have hsz : bo < (wr.alloc (.cells #[.slice al nl cl] 29)).heap.size := Nat.lt_of_lt_of_le lo (Nat.le_trans HB.out.size b5.size)
      have hbs : base ≤ (wr.alloc (.cells #[.slice al nl cl] 29)).heap.size := Nat.le_trans HUB.out (Nat.le_trans HB.out.size b5.size)
      have HSZ := Lib.hid hsz
      have HBS := Lib.hid hbs
      clear b5 hjr hsz hbs e0 e1 e2 e3 e4
      go_wp2_with (at_builtin; go_loud (refine wpList_grx rfl (.tmp 22) (.tmp 24) 63 29 rfl Tryz.underlying63 (.slice none 0 0) 1 24 Tryz.infoRows rfl (by decide) base (bo + 1) m (.slice (some ⟨g, 0, none⟩) m cap) (s.map inD) [inD ys] us [.slice al nl cl] fs [fp] rfl (by simp) HJ5.out.hg HBS.out ⟨wr.heap.size, 0, none⟩ 1 1 rfl rfl HCL.out (by simp [Value.oneCell']) HE5.out HFP.out (by unfold maxLen; omega) (by omega) ?_); intro g8 cap8 w8 G8 gr8 at8; have hb8 := (gr8.block bo HSZ.out (by simp [Value.ownBlock]; exact fun e => HJ.out.ne e.symm)).trans HJ5.out.ho; have c8 := blkc hb8 (j := 0) rfl; have r8 := frozen_of_row _ bo 0 _ _ hb8; have x8 := fun x => World.cell?_setCell_same w8 ⟨bo, 0, none⟩ x c8)
      have HG8 := Lib.hid G8
      have HGR := Lib.hid gr8
      have HAT := Lib.hid at8
      have HB8 := Lib.hid hb8
      clear G8 gr8 at8 hb8 c8 r8 x8
      go_ret
      have hml := HJ.out.ml
      have hjt := HJ5.out.t
      have hg8 : g8 = g ∨ g8 = (wr.alloc (.cells #[.slice al nl cl] 29)).heap.size := HAT.out.imp (fun e => by simpa [Value.ownBlock] using e.symm) id
      have hne : g8 ≠ bo := fun e => by
        have h1 := HSZ.out
        have h2 := HJ.out.ne
        rcases hg8 with h | h
        · exact h2 (h.symm.trans e)
        · omega
      have hbp : bp ≠ bo ∧ bp ≠ g := ⟨fun e => HJ.out.np ((HJ.out.t bp).2 (.inl e)), fun e => HJ.out.np ((HJ.out.t bp).2 (.inr e))⟩
      have hbd : bd ≠ bo ∧ bd ≠ g := ⟨fun e => HJ.out.nd ((HJ.out.t bd).2 (.inl e)), fun e => HJ.out.nd ((HJ.out.t bd).2 (.inr e))⟩
      have lp5 := (Array.getElem?_eq_some_iff.1 HJ5.out.hp).1
      have ld5 := (Array.getElem?_eq_some_iff.1 HJ5.out.hd).1
      have kept : ∀ q X, q < (wr.alloc (.cells #[.slice al nl cl] 29)).heap.size → q ≠ bo → q ≠ g → (wr.alloc (.cells #[.slice al nl cl] 29)).heap[q]? = X → (w8.setCell ⟨bo, 0, none⟩ (.slice (some ⟨g8, 0, none⟩) (m + 1) cap8)).heap[q]? = X := fun q X h1 h2 h3 h4 =>
        (heap_setCell_other w8 ⟨bo, 0, none⟩ q _ h2).trans ((HGR.out.block q h1 (by simp [Value.ownBlock]; exact h3)).trans h4)
      have HJM8 : JMs base bo bp bd (.slice b1 m1 c1) (.slice b2 m2 c2) (.slice b3 m3 c3) (.slice ad nd cd) (s ++ [ys]) (fun q => q = bo ∨ q = g8) (w8.setCell ⟨bo, 0, none⟩ (.slice (some ⟨g8, 0, none⟩) (m + 1) cap8)) g8 (m + 1) cap8 (us ++ [.slice al nl cl]) (fs ++ [fp]) := by
        refine ⟨fun q => Iff.rfl, heap_setCell_same w8 bo 0 _ _ _ HB8.out, ?_, hne, by simp [hml], kept bp _ lp5 hbp.1 hbp.2 HJ5.out.hp, kept bd _ ld5 hbd.1 hbd.2 HJ5.out.hd, fun e => ?_, fun e => ?_⟩
        · rw [List.map_append]
          exact HG8.out.kept fun q hq => heap_setCell_other w8 ⟨bo, 0, none⟩ q _ (fun e => by
            have e : q = bo := e
            subst e
            rcases hq with hq | hq
            · exact hne (by simpa [Value.ownBlock] using hq)
            · have := HG8.out.e.lo q hq; omega)
        · rcases e with e | e
          · exact hbp.1 e
          · rcases hg8 with h | h
            · exact hbp.2 (e.trans h)
            · omega
        · rcases e with e | e
          · exact hbd.1 e
          · rcases hg8 with h | h
            · exact hbd.2 (e.trans h)
            · omega
      exact ⟨by rw [HR.out]; show _ = Ending.returned (.bool (decide (40 < s.length + 1))); rw [show decide (40 < s.length + 1) = decide (40 < (m : Int) + 1) from by rw [decide_eq_decide]; omega]; rfl, fun q => q = bo ∨ q = g8, by rw [HR.out]; exact ⟨_, _, _, _, _, HJM8⟩, HMB.out.trans ((Mv.grown HGR.out rfl HJ5.out.t HAT.out).trans (Mv.set (.inl (.inl rfl)) _))⟩
end Go.Proofs.YtmkkdenhjfjmgaaGreat
namespace Go.Proofs.YtmkkdenhjfjmgaaGreat
open Go.RowKit Go.Sort
set_option maxRecDepth 100000

theorem visM {base bo bp bd : Nat} {a1 a2 a3 vd : Value} {u : World} {p : Pln} {d : List Int} (hbu : base = u.heap.size) (hp : PlnR u (.agg #[a1, a2, a3]) p) (hd : Rd u vd d) (hok : dwOk p d = true) (hfb : ∀ i : Nat, (lgA p i).fb.length ≤ 1100000) :
    VisU (fun s => s.length ≤ 40) (JM base bo bp bd a1 a2 a3 vd) (stM p d) 93 #[ptr bp, ptr bd, ptr bo] u p d where
  lt := fun s T w g h hg => by obtain ⟨_, _, _, _, _, h⟩ := h; exact h.lt hg
  beh := fun s T w w' h hb => by obtain ⟨_, _, _, _, _, h⟩ := h; exact ⟨_, _, _, _, _, h.below hb⟩
  live := fun s ys hs he => by
    unfold stM at he ⊢
    split at he
    · rename_i e
      rw [if_pos e]
      have he : ¬ 40 < s.length + 1 := by simpa using he
      simp; omega
    · rename_i e
      rw [if_neg e]; exact hs
  call := fun s T w0 w vl ys hs hJ hb hu0 _ ho hy hyl _ =>
    minExp1_any hp hd hok hfb s T w0 w vl ys hs hJ hb (hu0.trans (hb.mono hu0.size)) (by rw [hbu]; exact Nat.le_trans hu0.size hb.size) ho hy hyl
def MnP (p : Pln) (d : List Int) (w : World) (e : Ending) (w' : World) : Prop := ∃ v, e = .returned (.tuple #[v, .bool (minOk p d)]) ∧ Ofr w' w.heap.size (ssD (minR p d)) v ∧ Below w.heap.size w w'
theorem minOk_dw {p : Pln} {d : List Int} (h : dwOk p d = false) : minOk p d = false := by unfold minOk; rw [h]; rfl
theorem minR_no {p : Pln} {d : List Int} (h : minOk p d = false) : minR p d = [] := by unfold minR; rw [h]; rfl
set_option maxHeartbeats 3200000 in
theorem implMin_any (v vd : Value) (p : Pln) (d : List Int) (w : World) (hp : PlnR w v p) (hd : Rd w vd d) (hfb : ∀ i : Nat, (lgA p i).fb.length ≤ 1100000) :
    Calls Tryz.prog 44 #[v, vd] w (MnP p d w) := by
  obtain ⟨a1, m1, c1, a2, m2, c2, a3, m3, c3, hv⟩ : ∃ a1 m1 c1 a2 m2 c2 a3 m3 c3, v = .agg #[.slice a1 m1 c1, .slice a2 m2 c2, .slice a3 m3 c3] := by
    obtain ⟨u1, u2, u3, e, r⟩ := id hp
    obtain ⟨a1, m1, c1, a2, m2, c2, a3, m3, c3, e1, e2, e3⟩ := PlB.slices (show PlnR w (.agg #[u1, u2, u3]) p from by rw [← e]; exact hp)
    exact ⟨a1, m1, c1, a2, m2, c2, a3, m3, c3, by rw [e, e1, e2, e3]⟩
  subst hv
  obtain ⟨ad, cd, nd, -, rfl, -, -, -⟩ := hd.opn
  have HGS := Lib.hid (fun w' (hb : Below w.heap.size w w') => isDown_any _ _ p d w' (hp.behind hb) (hd.belowAll hb) hfb)
  have HFN := Lib.hid (show IsFn 93 from isFn_of rfl rfl rfl)
  have HEX := Lib.hid (fun (hok : dwOk p d = true) bo bp bd (T : Nat → Prop) w' hJ (hb : Below w.heap.size w w') htb => explanations_any (visM (base := w.heap.size) (bo := bo) (bp := bp) (bd := bd) rfl hp hd hok hfb) HFN.out hok hfb hp hd [] T w' (by simp) hJ hb htb)
  have HRO := Lib.hid (fun h => @minOk_run p d h)
  have HRR := Lib.hid (fun h => @minR_run p d h)
  have HRN := Lib.hid (@minR_no p d)
  have HDN := Lib.hid (@minOk_dw p d)
  have b1 := (Below.refl w.heap.size w).alloc (Nat.le_refl _) (.cells #[.slice a1 m1 c1, .slice a2 m2 c2, .slice a3 m3 c3] 38)
  have b2 := b1.alloc b1.size (.cells #[.slice ad nd cd] 29)
  have k1 := heap_alloc_new w (.cells #[.slice a1 m1 c1, .slice a2 m2 c2, .slice a3 m3 c3] 38)
  have z1 : (w.alloc (.cells #[.slice a1 m1 c1, .slice a2 m2 c2, .slice a3 m3 c3] 38)).heap.size = w.heap.size + 1 := by simp
  have k2 := heap_alloc_new (w.alloc (.cells #[.slice a1 m1 c1, .slice a2 m2 c2, .slice a3 m3 c3] 38)) (.cells #[.slice ad nd cd] 29)
  rw [z1] at k2
  have k1' := (heap_alloc_old _ (.cells #[.slice ad nd cd] 29) (Array.getElem?_eq_some_iff.1 k1).1).trans k1
  have HK1 := Lib.hid k1'
  have HK2 := Lib.hid k2
  have HB2 := Lib.hid b2
  have e0 := blkc k1' (j := 0) rfl
  have e1 := blkc k1' (j := 1) rfl
  have e2 := blkc k1' (j := 2) rfl
  have e3 := blkc k2 (j := 0) rfl
  unfold MnP
  generalize minR p d = R at *
  generalize minOk p d = ok at *
  clear b1 b2 k1 k2 z1 k1' hp hd hfb
  go_enter Tryz.func44, Tryz.ntmps44
  go_wp2_with fail
  generalize (w.alloc (.cells #[.slice a1 m1 c1, .slice a2 m2 c2, .slice a3 m3 c3] 38)).alloc (.cells #[.slice ad nd cd] 29) = w2 at *
  have HV1 := Lib.hid (HGS.out w2 HB2.out)
  cases hok : dwOk p d
  · have HE := Lib.hid (HDN.out hok)
    have HE2 := Lib.hid (HRN.out HE.out)
    rw [hok] at HV1
    clear HGS HEX HRO HRR hok
    refine HV1.out.mono ?_
    rintro e w3 ⟨rfl, b3⟩
    have HB3 := Lib.hid (HB2.out.trans (b3.mono HB2.out.size))
    clear b3
    go_wp2
    go_ret2
    exact ⟨_, by rw [HE.out]; rfl, by rw [HE2.out]; exact Ofr.nil _ _ _, HB3.out⟩
  have HX := Lib.hid (HEX.out hok)
  have HRO1 := Lib.hid (HRO.out hok)
  rw [hok] at HV1
  clear HGS HEX HRO hok
  refine HV1.out.mono ?_
  rintro e w3 ⟨rfl, b3⟩
  have p1 := kept_o' HK1.out b3
  have p2 := kept_o' HK2.out b3
  have f0 := blkc p1 (j := 0) rfl
  have f1 := blkc p1 (j := 1) rfl
  have f2 := blkc p1 (j := 2) rfl
  have f3 := blkc p2 (j := 0) rfl
  have HB3 := Lib.hid (HB2.out.trans (b3.mono HB2.out.size))
  have hl1 := (Array.getElem?_eq_some_iff.1 p1).1
  have hl2 := (Array.getElem?_eq_some_iff.1 p2).1
  have b4 := (Below.refl w3.heap.size w3).alloc (Nat.le_refl _) (.cells #[] 29)
  have z4 : (w3.alloc (.cells #[] 29)).heap.size = w3.heap.size + 1 := by simp
  have b5 := (Below.refl _ (w3.alloc (.cells #[] 29))).alloc (Nat.le_refl _) (.cells #[.slice (some ⟨w3.heap.size, 0, none⟩) 0 0] 63)
  have k5 := heap_alloc_new (w3.alloc (.cells #[] 29)) (.cells #[.slice (some ⟨w3.heap.size, 0, none⟩) 0 0] 63)
  rw [z4] at k5
  have HJ := Lib.hid (show JM w.heap.size (w3.heap.size + 1) w.heap.size (w.heap.size + 1) (.slice a1 m1 c1) (.slice a2 m2 c2) (.slice a3 m3 c3) (.slice ad nd cd) [] (fun q => q = w3.heap.size + 1 ∨ q = w3.heap.size) ((w3.alloc (.cells #[] 29)).alloc (.cells #[.slice (some ⟨w3.heap.size, 0, none⟩) 0 0] 63)) from
    ⟨w3.heap.size, 0, 0, [], [], fun q => Iff.rfl, k5, (GrX.start 29 HB3.out.size).below b5, by omega, rfl, kept_o' (kept_o' p1 b4) b5, kept_o' (kept_o' p2 b4) b5, (fun h => by omega), (fun h => by omega)⟩)
  have HB5 := Lib.hid (HB3.out.trans ((b4.trans (b5.mono b4.size)).mono HB3.out.size))
  have HSZ := Lib.hid HB3.out.size
  clear b3 b4 b5 k5 z4 p1 p2 e0 e1 e2 e3
  go_wp2_with fail
  generalize (w3.alloc (.cells #[] 29)).alloc (.cells #[.slice (some ⟨w3.heap.size, 0, none⟩) 0 0] 63) = w5 at *
  refine (HX.out (w3.heap.size + 1) w.heap.size (w.heap.size + 1) _ w5 HJ.out HB5.out (fun g hg => by
    have hg : g = w3.heap.size + 1 ∨ g = w3.heap.size := hg
    have := HSZ.out
    omega)).mono ?_
  rintro e w6 ⟨rfl, T6, h1, h2⟩
  generalize hs : (runV (stM p d) (exA p d) []).1 = s6 at *
  obtain ⟨g, m, cap, us, fs, h1⟩ := h1
  have HB6 := Lib.hid (h2.below HB5.out HB5.out.size (fun g hg => by
    have hg : g = w3.heap.size + 1 ∨ g = w3.heap.size := hg
    have := HSZ.out
    omega))
  have y0 := blkc h1.ho (j := 0) rfl
  have hml := h1.ml
  have HG := Lib.hid (h1.hg.grw (by have := HSZ.out; omega))
  clear h1 h2 f0 f1 f2 f3
  have hm41 : m ≤ 41 := by
    rw [← hml, ← hs]
    exact runM_len (by simp)
  by_cases h40 : 40 < m
  · have hI : (40 : Int) < (m : Int) := by omega
    have HE := Lib.hid (show ok = false by rw [HRO1.out]; exact decide_eq_false (by omega))
    have HE2 := Lib.hid (HRN.out HE.out)
    clear h40 hs hml
    go_wp2
    go_ret2
    exact ⟨_, by rw [HE.out]; rfl, by rw [HE2.out]; exact Ofr.nil _ _ _, HB6.out⟩
  · have hI : ¬ (40 : Int) < (m : Int) := by omega
    have hIb : decide ((40 : Int) < (m : Int)) = false := decide_eq_false hI
    have HE := Lib.hid (show ok = true by rw [HRO1.out]; exact decide_eq_true (by omega))
    have HE2 := Lib.hid (show R = s6 from (HRR.out HE.out).symm)
    clear h40 hs hml
    go_wp2
    go_ret2
    exact ⟨_, by rw [HE.out]; rfl, by rw [HE2.out]; exact HG.out.ofr, HB6.out⟩
end Go.Proofs.YtmkkdenhjfjmgaaGreat
