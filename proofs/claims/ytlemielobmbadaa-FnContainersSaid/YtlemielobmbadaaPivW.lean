/- Walk: l24Pivot. -/
import Derived.Test.YtlemielobmbadaaPivP
namespace Go.Proofs.Ytlemielobmbadaa
open Go.RowKit

theorem Try.infoSl : (Try.prog.info? 24).map (fun i => (i.zero, i.size, i.bytes)) = some (some (.slice none 0 0), 1, 24) := by kernel_rfl
def rowTo (M : Mat) (k : Nat) (s : Int) (c : Nat) : List Int := (List.range c).map fun i => mulI (M k i) s
def clrRow (M : Mat) (k j : Nat) (c : Nat) : List Int := (List.range c).map fun i => xr (M j i) (mulI (M j k) (M k i))
/-- The matrix when the rows below j are cleared. -/
def clrRows (M : Mat) (k j : Nat) : Mat := fun j' c => if j' < j ∧ j' ≠ k then xr (M j' c) (mulI (M j' k) (M k c)) else M j' c

/-- What stands behind the copy of the headers, and behind the exchange of two of them. -/
theorem pivot_facts {B0 : Nat} {w w1 : World} {N k q g cap2 : Nat} {M : Mat} {G : Nat} {gs cps : Nat → Nat} (h : MatS B0 w N M G gs cps) (hB0 : B0 ≤ w.heap.size) (hk : k < 4) (hq : q < 4)
    (hown : w1.ownsRow w.heap.size 24 1 (.slice (some ⟨g, 0, none⟩) (0 + 4) cap2) (0 + 4) ([] ++ [hd gs cps N 0, hd gs cps N 1, hd gs cps N 2, hd gs cps N 3]))
    (hg : (w.alloc (.cells #[] 24)).grownBy w1 (Value.slice (some ⟨w.heap.size, 0, none⟩) 0 0).ownBlock) :
    w.heap.size ≤ g ∧ Below w.heap.size w w1 ∧ 4 ≤ cap2 ∧ w1.cell? ⟨G, q, none⟩ = some (.slice (some ⟨gs q, 0, none⟩) N (cps q)) ∧ w1.cell? ⟨g, k, none⟩ = some (.slice (some ⟨gs k, 0, none⟩) N (cps k)) ∧ w1.frozen? ⟨g, k, none⟩ = false ∧
    (w1.setCell ⟨g, k, none⟩ (.slice (some ⟨gs q, 0, none⟩) N (cps q))).cell? ⟨G, k, none⟩ = some (.slice (some ⟨gs k, 0, none⟩) N (cps k)) ∧
    (∃ u, (w1.setCell ⟨g, k, none⟩ (.slice (some ⟨gs q, 0, none⟩) N (cps q))).cell? ⟨g, q, none⟩ = some u) ∧
    (w1.setCell ⟨g, k, none⟩ (.slice (some ⟨gs q, 0, none⟩) N (cps q))).frozen? ⟨g, q, none⟩ = false ∧
    ∃ gs' cps', MatS B0 ((w1.setCell ⟨g, k, none⟩ (.slice (some ⟨gs q, 0, none⟩) N (cps q))).setCell ⟨g, q, none⟩ (.slice (some ⟨gs k, 0, none⟩) N (cps k))) N (swp M k q) g gs' cps' ∧
      Below w.heap.size w ((w1.setCell ⟨g, k, none⟩ (.slice (some ⟨gs q, 0, none⟩) N (cps q))).setCell ⟨g, q, none⟩ (.slice (some ⟨gs k, 0, none⟩) N (cps k))) ∧
      Hid (((w1.setCell ⟨g, k, none⟩ (.slice (some ⟨gs q, 0, none⟩) N (cps q))).setCell ⟨g, q, none⟩ (.slice (some ⟨gs k, 0, none⟩) N (cps k))).heap.size = w1.heap.size) := by
  have hb : Below w.heap.size w w1 := ((Below.refl _ _).alloc (Nat.le_refl _) _).grown hg (by simp) (fun k hk => by simp [Value.ownBlock] at hk; omega)
  have hB := h.below hb
  have hgl := hown.lt g rfl
  have hcap : 4 ≤ cap2 := by
    rcases hown.2 with ⟨e, _⟩ | ⟨g', cap', cur, e, _, _, h1, _⟩
    · simp at e
    · simp only [Value.slice.injEq] at e; omega
  have hO : MatS B0 w1 N M g gs cps := by
    refine ⟨by have := hgl.1; omega, hB.lo, hgl.2, fun j hj => ?_, fun j => hown.frozenAt j, hB.glt, fun j hj e => ?_, hB.cap, hB.ent⟩
    · rw [hown.cellAt j (by omega)]
      rcases j with _ | _ | _ | _ | j <;> first | rfl | omega
    · have := h.glt j hj; omega
  have hGg : G ≠ g := fun e => by have := h.lt; omega
  have r1 := hO.row (j := k) (b := gs q) (cp := cps q) (x := M q) hk (hO.lo q hq) (hO.glt q hq) (hO.gne q hq) (hO.cap q hq) (fun c hc => hO.ent q hq c hc)
  have hne2 : gs k ≠ g := hO.gne k hk
  have hlt2 : gs k < (w1.setCell ⟨g, k, none⟩ (.slice (some ⟨gs q, 0, none⟩) N (cps q))).heap.size := by simpa using hO.glt k hk
  have r2 := r1.row (j := q) (b := gs k) (cp := cps k) (x := M k) hq (hO.lo k hk) hlt2 hne2 (hO.cap k hk) (fun c hc => by rw [World.cell?_setCell_other _ _ _ _ (by simp <;> exact fun e => absurd e.symm hne2)]; exact hO.ent k hk c hc)
  refine ⟨hgl.1, hb, hcap, hB.hdr q hq, hO.hdr k hk, hO.fz k, ?_, ⟨_, r1.hdr q hq⟩, r1.fz q, _, _, r2.congr (fun j _ c _ => ?_), (hb.setCell hgl.1 _).setCell hgl.1 _, by simp [Hid]⟩
  · rw [World.cell?_setCell_other _ _ _ _ (by simp <;> exact fun e => absurd e.symm hGg)]; exact hB.hdr k hk
  · unfold swp
    by_cases e1 : j = q
    · by_cases e2 : j = k
      · subst e1; subst e2; simp
      · simp [e1]; intro e3; exact absurd (e1.trans e3) e2
    · by_cases e2 : j = k
      · simp [e1, e2]; intro e3; exact absurd (e2.trans e3) e1
      · simp [e1, e2]

def PivSt (B0 : Nat) (w wr : World) (N k j g tb tc : Nat) (M2 : Mat) : Prop := ∃ gs cps, MatS B0 wr N (clrRows M2 k j) g gs cps ∧ gs k = tb ∧ cps k = tc ∧ Below w.heap.size w wr
theorem clrRows_at (M : Mat) (k j c : Nat) : clrRows M k j j c = M j c := by unfold clrRows; rw [if_neg (by omega)]
theorem clrRows_k (M : Mat) (k j c : Nat) : clrRows M k j k c = M k c := by unfold clrRows; rw [if_neg (by omega)]
theorem clrRows_skip (M : Mat) (k : Nat) : clrRows M k (k + 1) = clrRows M k k := by
  funext j' c
  unfold clrRows
  by_cases h : j' < k ∧ j' ≠ k
  · rw [if_pos h, if_pos (by omega)]
  · rw [if_neg h, if_neg (by omega)]
theorem clrRow_get (M : Mat) (k j N c : Nat) (hc : c < N) : (clrRow M k j N)[c]?.getD 0 = xr (M j c) (mulI (M j k) (M k c)) := by simp [clrRow, hc]
theorem rowTo_get (M : Mat) (k : Nat) (s : Int) (N c : Nat) (hc : c < N) : (rowTo M k s N)[c]?.getD 0 = mulI (M k c) s := by simp [rowTo, hc]
theorem clrRows_next {M : Mat} {k j : Nat} (hjk : j ≠ k) (j' c : Nat) : (if j' = j then xr (M j c) (mulI (M j k) (M k c)) else clrRows M k j j' c) = clrRows M k (j + 1) j' c := by
  unfold clrRows
  by_cases e : j' = j
  · subst e; rw [if_pos rfl, if_pos (by omega)]
  · rw [if_neg e]
    by_cases h : j' < j ∧ j' ≠ k
    · rw [if_pos h, if_pos (by omega)]
    · rw [if_neg h, if_neg (by omega)]
theorem clrRows_all {M : Mat} {n k : Nat} (j : Nat) (hj : j < 4) (c : Nat) (hc : c < n + 1) : clrRows M k 4 j c = clr M n k j c := by
  unfold clrRows clr
  by_cases h : j ≠ k
  · rw [if_pos ⟨hj, h⟩, if_pos ⟨h, by omega⟩]
  · rw [if_neg (by omega), if_neg (by omega)]

/-- A fresh matrix is handed back. -/
def PivPost (B0 : Nat) (w : World) (N : Nat) (M2 : Mat) (e : Ending) (w' : World) : Prop :=
  ∃ G' cap' gs' cps', e = .returned (.slice (some ⟨G', 0, none⟩) 4 cap') ∧ 4 ≤ cap' ∧ MatS B0 w' N M2 G' gs' cps' ∧ Below w.heap.size w w'

set_option maxHeartbeats 6400000 in
set_option maxRecDepth 100000 in
theorem pivot_any (B0 cap N n k p : Nat) (M : Mat) (G : Nat) (gs cps : Nat → Nat) (w : World) (h : MatS B0 w N M G gs cps) (hB0 : B0 ≤ w.heap.size) (hcap : 4 ≤ cap) (hN : N = n + 1) (hn : n ≤ 4) (hk : k < n) (hsym : SymM M) (hp : k ≤ p ∧ p < 4 ∧ M p k ≠ 0 ∧ ∀ q, k ≤ q → q < p → M q k = 0) :
    Calls Try.prog 115 #[.slice (some ⟨G, 0, none⟩) 4 cap, .int .i64 k] w (PivPost B0 w N (clr (scl (swp M k p) n k) n k)) := by
  obtain ⟨p1, p2, p3, p4⟩ := hp
  have HZ := Lib.hid p4
  have HNE := Lib.hid p3
  have HSY := Lib.hid hsym
  have HNN := Lib.hid hN
  have hkN : k < N := by omega
  have hN5 : N ≤ 5 := by omega
  have hkNI : (k : Int) < (N : Int) := by omega
  have hk4 : k < 4 := by omega
  have hk4I : (k : Int) < 4 := by omega
  clear p3 p4 hsym hN
  obtain ⟨i0, hi, hz0, hz1, hz2⟩ := info_parts Try.infoSl
  have HM := Lib.hid h
  go_enter Try.func115, Try.ntmps115
  go_wp2
  go_loop [5] (fun i => ∃ q : Nat, k ≤ q ∧ q ≤ p ∧ i = .int .i64 q) (fun i => 4 - (intOf i).toNat)
  case atStart => exact ⟨k, by omega, by omega, rfl⟩
  case round =>
    obtain ⟨q, hq1, hq2, rfl⟩ := hrel
    by_cases hlq : q < p
    · have hq4 : (q : Int) < 4 := by omega
      have hhd := HM.out.hdr q (by omega)
      have hcell := HM.out.ent q (by omega) k hkN
      rw [HZ.out q hq1 hlq] at hcell
      clear h
      go_wp2
      go_round
      case rel => exact ⟨q + 1, by omega, by omega, by go_num⟩
      case measure => simp [intOf]; omega
    · obtain rfl : q = p := by omega
      have hq4 : (q : Int) < 4 := by omega
      have hhd := HM.out.hdr q (by omega)
      have hhk := HM.out.hdr k hk4
      have hcell := HM.out.ent q (by omega) k hkN
      have hne : (M q k == 0) = false := by rw [beq_eq_false_iff_ne]; exact HNE.out
      have hown0 : (w.alloc (.cells #[] 24)).ownsRow w.heap.size 24 1 (.slice (some ⟨w.heap.size, 0, none⟩) 0 0) 0 [] := World.ownsRow_lit (base := w.heap.size) (e := 24) (size := 1) w #[] 0 (Nat.le_refl _) (by simp) rfl
      have hnews : ∀ j u, [hd gs cps N 0, hd gs cps N 1, hd gs cps N 2, hd gs cps N 3][j]? = some u → (w.alloc (.cells #[] 24)).cell? ((⟨G, 0, none⟩ : Addr).add j) = some u := fun j u hu => by
        have hj : j < 4 := by have := (List.getElem?_eq_some_iff.1 hu).1; simpa using this
        have e : (⟨G, 0, none⟩ : Addr).add j = ⟨G, j, none⟩ := by unfold Addr.add; split <;> simp_all
        rw [e, World.cell?_alloc_past _ _ _ h.lt, h.hdr j hj, ← hu]
        rcases j with _ | _ | _ | _ | j <;> first | rfl | omega
      have HNW := Lib.hid hnews
      have hsy1 : SymM (swp M k q) := fun j c => by unfold swp; split; exact HSY.out _ _; split <;> exact HSY.out _ _
      have hne1 : swp M k q k k ≠ 0 := by unfold swp; rw [if_pos rfl]; exact HNE.out
      have HS1 := Lib.hid hsy1
      have HN1 := Lib.hid hne1
      obtain ⟨u0, u1⟩ := hsy1 k k
      have u2 : 1 ≤ swp M k q k k := by omega
      clear hnews h hsy1 hne1 u0
      go_wp2_with (first | (at_builtin; refine wpList_append_lies _ rfl (.tmp 24) (.tmp 25) 39 rfl w.heap.size 24 i0 (.slice none 0 0) 1 24 Try.underlying39 hi hz0 hz1 hz2 rfl (by decide) _ 0 [] rfl hown0 ⟨G, 0, none⟩ 4 cap [hd gs cps N 0, hd gs cps N 1, hd gs cps N 2, hd gs cps N 3] rfl rfl HNW.out (by intro u hu; simp [hd] at hu; rcases hu with rfl | rfl | rfl | rfl <;> rfl) (by decide) (by unfold maxLen; omega) (by omega) (by simp) _ rfl ?_; intro g cap2 w1 hown1 hgrow1 _ _; obtain ⟨hgw, hb1, hcap2, c1, d1, f1, c2, ⟨ud, d2⟩, f2, gs2, cps2, hE, hbE, hs3⟩ := pivot_facts HM.out hB0 hk4 (by omega) hown1 hgrow1; have e1 := hE.hdr k hk4; have e2 := hE.ent k hk4 k hkN; clear hown1 hgrow1) | (go_at_call 128; refine (sinverse_any _ _ u2 u1).mono ?_; rintro e w' ⟨rfl, rfl⟩))
      clear c1 d1 f1 c2 d2 f2 e1 e2 hhd hhk hcell hown0 hb1
      generalize World.setCell (World.setCell w1 _ _) _ _ = w3 at *
      have hinv := invI_bd u2 u1
      have hS2 : SymM (scl (swp M k q) n k) := fun j c => by
        unfold scl; split
        · exact (HS1.out _ _).mul ((HS1.out _ _).inv HN1.out)
        · exact HS1.out _ _
      have HS2 := Lib.hid hS2
      clear hS2
      have hscl : ∀ j c, c < N → (if j = k then mulI (swp M k q k c) (invI (swp M k q k k)) else swp M k q j c) = scl (swp M k q) n k j c := fun j c hc => by
        unfold scl
        by_cases e : j = k
        · rw [if_pos e, if_pos ⟨e, by rw [HNN.out] at hc; omega⟩]
        · rw [if_neg e, if_neg (by omega)]
      have HSC := Lib.hid hscl
      clear hscl
      generalize invI (swp M k q k k) = s at *
      generalize hM1 : swp M k q = M1 at *
      have HM1 := Lib.hid hM1
      clear hM1
      have HE := Lib.hid hE
      have HbE := Lib.hid hbE
      have hgG := hE.lt
      clear hE hbE
      go_wp2
      have h0 : (w3.alloc (.cells #[] 3)).ownsRow w3.heap.size 3 1 (.slice (some ⟨w1.heap.size, 0, none⟩) 0 0) 0 (ints (rowTo M1 k s 0)) := by
        rw [← hs3.out]
        exact World.ownsRow_lit (base := w3.heap.size) (e := 3) (size := 1) w3 #[] 0 (Nat.le_refl _) (by simp) rfl
      have hb0 : Below w3.heap.size w3 (w3.alloc (.cells #[] 3)) := (Below.refl _ _).alloc (Nat.le_refl _) _
      go_loopw [8, 9] (fun o i wr => ∃ c : Nat, c ≤ N ∧ i = .int .i64 c ∧ wr.ownsRow w3.heap.size 3 1 o c (ints (rowTo M1 k s c)) ∧ Below w3.heap.size w3 wr) (fun _ i _ => N - (intOf i).toNat)
      case atStart => exact ⟨0, by omega, rfl, h0, hb0⟩
      case round =>
        obtain ⟨c, hc, rfl, hown, hbel⟩ := hrel
        have hhd := (HE.out.below hbel).hdr k hk4
        by_cases hlc : c < N
        · have hcI : (c : Int) < (N : Int) := by omega
          have hcell := (HE.out.below hbel).ent k hk4 c hlc
          obtain ⟨x0, x1⟩ := HS1.out k c
          have hsz := hbel.size
          have HR := Lib.hid (show rowTo M1 k s (c + 1) = rowTo M1 k s c ++ [mulI (M1 k c) s] from by simp [rowTo, List.range_succ])
          go_wp2_with (first | (go_at_call 127; refine (times_any _ _ _ x0 x1 (by omega) hinv.2).mono ?_; rintro e w' ⟨rfl, rfl⟩) | (at_builtin; refine wpList_push rfl (.tmp 59) (.tmp 69) 24 rfl Try.underlying24 Try.infoInt w3.heap.size _ c (rowTo M1 k s c) rfl hown rfl (by omega) hsz ?_; intro v' w5 hown1 hgrow1; have hb1 := below_push hbel hown hgrow1 (Nat.le_refl _) hsz; rw [← HR.out] at hown1; clear hown hgrow1 hbel hhd hcell))
          go_roundw
          case rel => exact ⟨c + 1, by omega, by go_num, hown1, hb1⟩
          case measure => simp [intOf]; omega
        · obtain rfl : N = c := by omega
          obtain ⟨tb, tc, rfl, ht1, ht2, ht3, ht4⟩ := row_at hown (by omega)
          have hfr := (HE.out.below hbel).fz k
          have hE2 := (HE.out.below hbel).row (j := k) (b := tb) (cp := tc) (x := fun c => (rowTo M1 k s N)[c]?.getD 0) hk4 (by have := HbE.out.size; omega) ht2 (by omega) ht3 ht4
          have hP : PivSt B0 w (wr.setCell ⟨g, k, none⟩ (.slice (some ⟨tb, 0, none⟩) N tc)) N k 0 g tb tc (scl M1 n k) := by
            refine ⟨_, _, hE2.congr (fun j hj c hc => ?_), if_pos rfl, if_pos rfl, (HbE.out.trans (hbel.mono HbE.out.size)).setCell hgw _⟩
            show (if j = k then (rowTo M1 k s N)[c]?.getD 0 else M1 j c) = _
            rw [rowTo_get _ _ _ _ _ hc]
            have e : clrRows (scl M1 n k) k 0 j c = scl M1 n k j c := by unfold clrRows; rw [if_neg (by omega)]
            rw [e]; exact HSC.out j c hc
          have HP := Lib.hid hP
          clear hE2 hP hown hbel HSC HS1 HN1 u1 u2 hinv ht4 HE HbE h0 hb0 hs3
          generalize hM2 : scl M1 n k = M2 at *
          have HM2 := Lib.hid hM2
          clear hM2
          go_wp2
          go_loopw [10] (fun i wr => ∃ j : Nat, j ≤ 4 ∧ i = .int .i64 j ∧ PivSt B0 w wr N k j g tb tc M2) (fun i _ => 4 - (intOf i).toNat)
          case atStart => exact ⟨0, by omega, rfl, HP.out⟩
          case round =>
            obtain ⟨j, hj, rfl, hst⟩ := hrel
            by_cases hlj : j < 4
            · have hjd : decide ((j : Int) < 4) = true := by simp; omega
              have hjI : (j : Int) < 4 := by omega
              by_cases hjk : j = k
              · subst hjk
                have hjj : ((j : Int) == (j : Int)) = true := by simp
                have HST := Lib.hid hst
                clear hst
                go_wp2
                go_roundw
                case rel => exact ⟨j + 1, by omega, by go_num, by have := HST.out; unfold PivSt at *; rw [clrRows_skip]; exact this⟩
                case measure => simp [intOf]; omega
              · have hjj : ((j : Int) == (k : Int)) = false := by rw [beq_eq_false_iff_ne]; omega
                obtain ⟨gs3, cps3, hM3, hk1, hk2, hb3⟩ := hst
                obtain ⟨wa, rfl⟩ : ∃ wa, wa = wr := ⟨_, rfl⟩
                have h0 : (wa.alloc (.cells #[] 3)).ownsRow wa.heap.size 3 1 (.slice (some ⟨wa.heap.size, 0, none⟩) 0 0) 0 (ints (clrRow M2 k j 0)) :=
                  World.ownsRow_lit (base := wa.heap.size) (e := 3) (size := 1) wa #[] 0 (Nat.le_refl _) (by simp) rfl
                have hb0 : Below wa.heap.size wa (wa.alloc (.cells #[] 3)) := (Below.refl _ _).alloc (Nat.le_refl _) _
                have HM3 := Lib.hid hM3
                have HK1 := Lib.hid hk1
                have HK2 := Lib.hid hk2
                have HB3 := Lib.hid hb3
                clear hM3 hk1 hk2 hb3
                go_wp2
                go_loopw [11, 12] (fun o i wr => ∃ c : Nat, c ≤ N ∧ i = .int .i64 c ∧ wr.ownsRow wa.heap.size 3 1 o c (ints (clrRow M2 k j c)) ∧ Below wa.heap.size wa wr) (fun _ i _ => N - (intOf i).toNat)
                case atStart => exact ⟨0, by omega, rfl, h0, hb0⟩
                case round =>
                  obtain ⟨c, hc, rfl, hown, hbel⟩ := hrel
                  have hMw := HM3.out.below hbel
                  by_cases hlc : c < N
                  · have hcI : (c : Int) < (N : Int) := by omega
                    have hc0 : (0 : Int) ≤ (c : Int) := by omega
                    have hk0 : (0 : Int) ≤ (k : Int) := by omega
                    have hj0 : (0 : Int) ≤ (j : Int) := by omega
                    have hhd := hMw.hdr j hlj
                    have hx1 := hMw.ent j hlj c hlc
                    have hx2 := hMw.ent j hlj k hkN
                    have hx3 := hMw.ent k hk4 c hlc
                    rw [clrRows_at] at hx1 hx2
                    rw [clrRows_k, HK1.out] at hx3
                    have lg := hMw.lt
                    have ljs := hMw.glt j hlj
                    have lts := hMw.glt k hk4
                    rw [HK1.out] at lts
                    have l1 := HM3.out.lt
                    have l2 := HM3.out.glt j hlj
                    have l3 := HM3.out.glt k hk4
                    rw [HK1.out] at l3
                    obtain ⟨x0, x1⟩ := HS2.out j k
                    obtain ⟨y0, y1⟩ := HS2.out k c
                    have hsz := hbel.size
                    have HR := Lib.hid (show clrRow M2 k j (c + 1) = clrRow M2 k j c ++ [xr (M2 j c) (mulI (M2 j k) (M2 k c))] from by simp [clrRow, List.range_succ])
                    have hne : ∀ b, b < wa.heap.size → some b ≠ u11.ownBlock := fun b hb e => by have := (hown.lt b e.symm).1; omega
                    clear hMw
                    go_wp2
                    go_region_held3 (fun w' => w'.cell? ⟨g, j, none⟩ = some (.slice (some ⟨gs3 j, 0, none⟩) N (cps3 j)) ∧ w'.cell? ⟨gs3 j, c, none⟩ = some (.int .i64 (M2 j c)) ∧ w'.cell? ⟨gs3 j, k, none⟩ = some (.int .i64 (M2 j k)) ∧ w'.cell? ⟨tb, c, none⟩ = some (.int .i64 (M2 k c)))
                      (first
                        | go_keep
                        | (go_split_ands
                           refine ⟨?_, ?_, ?_, ?_⟩
                           · (rw [hgrow1.cell_far _ (by simp; omega) (hne _ l1)]; assumption)
                           · (rw [hgrow1.cell_far _ (by simp; omega) (hne _ l2)]; assumption)
                           · (rw [hgrow1.cell_far _ (by simp; omega) (hne _ l2)]; assumption)
                           · (rw [hgrow1.cell_far _ (by simp; omega) (hne _ l3)]; assumption)))
                      (first
                        | (refine step_push rfl (.tmp 91) (.tmp 112) 24 rfl Try.underlying24 Try.infoInt wa.heap.size _ c (clrRow M2 k j c) rfl hown rfl rfl rfl rfl rfl (by omega) hsz ?_; intro v' w5 hown1 hgrow1)
                        | (go_at_call 127; refine (times_any _ _ _ x0 x1 y0 y1).mono ?_; rintro e w' ⟨rfl, rfl⟩))
                    have hb1 := below_push hbel hown hgrow1 (Nat.le_refl _) hsz
                    have HR2 := HR.out
                    unfold xr at HR2
                    rw [← HR2] at hown1
                    clear HR2 hown hgrow1 hbel hhd hx1 hx2 hx3 hne
                    go_wp2
                    go_roundw
                    case rel => exact ⟨c + 1, by omega, by go_num, hown1, hb1⟩
                    case measure => simp [intOf]; omega
                  · obtain rfl : N = c := by omega
                    obtain ⟨rb, rc, rfl, hr1, hr2, hr3, hr4⟩ := row_at hown (by omega)
                    have hhd := hMw.hdr j hlj
                    have hfr := hMw.fz j
                    have lg := HM3.out.lt
                    have hE2 := hMw.row (j := j) (b := rb) (cp := rc) (x := fun c => (clrRow M2 k j N)[c]?.getD 0) hlj (by have := HB3.out.size; omega) hr2 (by omega) hr3 hr4
                    have hP : PivSt B0 w (wr.setCell ⟨g, j, none⟩ (.slice (some ⟨rb, 0, none⟩) N rc)) N k (j + 1) g tb tc M2 := by
                      refine ⟨_, _, hE2.congr (fun j' _ c hc => ?_), ?_, ?_, (HB3.out.trans (hbel.mono HB3.out.size)).setCell hgw _⟩
                      · show (if j' = j then (clrRow M2 k j N)[c]?.getD 0 else clrRows M2 k j j' c) = _
                        rw [clrRow_get _ _ _ _ _ hc]; exact clrRows_next hjk j' c
                      · show (if k = j then rb else gs3 k) = tb
                        rw [if_neg (fun e => hjk e.symm)]; exact HK1.out
                      · show (if k = j then rc else cps3 k) = tc
                        rw [if_neg (fun e => hjk e.symm)]; exact HK2.out
                    have HP2 := Lib.hid hP
                    clear hE2 hP hown hbel hMw hr4
                    go_wp2
                    go_roundw
                    case rel => exact ⟨j + 1, by omega, by go_num, HP2.out⟩
                    case measure => simp [intOf]; omega
            · have hj4 : j = 4 := by omega
              have hjge : ¬ ((j : Int) < 4) := by omega
              obtain ⟨gs3, cps3, hM3, hk1, hk2, hb3⟩ := hst
              rw [hj4] at hM3
              have HM3 := Lib.hid (hM3.congr (M' := clr M2 n k) (fun j hj c hc => clrRows_all j hj c (by rw [← HNN.out]; exact hc)))
              have HB3 := Lib.hid hb3
              clear hM3 hj4 hk1 hk2 hb3
              go_wp2
              go_ret
              exact ⟨g, cap2, gs3, cps3, rfl, hcap2, by first | exact HM3.out | (rw [HM2.out]; exact HM3.out) | (rw [HM1.out, HM2.out]; exact HM3.out), HB3.out⟩
end Go.Proofs.Ytlemielobmbadaa
