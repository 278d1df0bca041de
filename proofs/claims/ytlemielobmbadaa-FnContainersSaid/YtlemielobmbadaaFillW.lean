/- Walk: l24Fill. -/
import Derived.Test.YtlemielobmbadaaFillP
namespace Go.Proofs.Ytlemielobmbadaa
open Go.RowKit

/-- So many entries of row j. -/
def vrow (ps : List Int) (j c : Nat) : List Int := (List.range c).map fun i => V ps i j
theorem vrow_step (ps : List Int) (j c : Nat) : vrow ps j (c + 1) = vrow ps j c ++ [V ps c j] := by simp [vrow, List.range_succ]
/-- The rows laid so far: headers in a row of the call's own, each row in a block of its own. -/
structure RowsG (w wr : World) (N j : Nat) (o : Value) (M : Mat) (gs cps : Nat → Nat) : Prop where
  own : wr.ownsRow w.heap.size 24 1 o j ((List.range j).map (hd gs cps N))
  rows : ∀ i, i < j → w.heap.size ≤ gs i ∧ gs i < wr.heap.size ∧ o.ownBlock ≠ some (gs i) ∧ N ≤ cps i ∧ ∀ c, c < N → wr.cell? ⟨gs i, c, none⟩ = some (.int .i64 (M i c))
def RowsTo (w wr : World) (N j : Nat) (o : Value) (M : Mat) : Prop := ∃ gs cps, RowsG w wr N j o M gs cps
theorem ownsRow_below {w w' : World} {B base : Nat} {e : TypeId} {size : Nat} {v : Value} {n : Nat} {xs : List Value} (h : w.ownsRow base e size v n xs) (hb : Below B w w') (hB : ∀ k, v.ownBlock = some k → k < B) : w'.ownsRow base e size v n xs := by
  refine ⟨h.1, ?_⟩
  rcases h.2 with h | ⟨g, cap, cur, rfl, h1, h2, h3⟩
  · exact .inl h
  · exact .inr ⟨g, cap, cur, rfl, h1, by rw [hb.block g (hB g rfl)]; exact h2, h3⟩
theorem rows_next {w2 wa w5 w6 : World} {N j g cap rb rc : Nat} {o : Value} {M : Mat} {gs cps : Nat → Nat} (h : RowsG w2 wa N j o M gs cps) (hwa : w2.heap.size ≤ wa.heap.size) (hb5 : Below wa.heap.size wa w5) (r1 : wa.heap.size ≤ rb) (r2 : rb < w5.heap.size) (r3 : N ≤ rc)
    (r4 : ∀ c, c < N → w5.cell? ⟨rb, c, none⟩ = some (.int .i64 (M j c)))
    (hown : w6.ownsRow w2.heap.size 24 1 (.slice (some ⟨g, 0, none⟩) (j + 1) cap) (j + 1) ((List.range j).map (hd gs cps N) ++ [.slice (some ⟨rb, 0, none⟩) N rc]))
    (hg : (w5.alloc (.cells #[.slice (some ⟨rb, 0, none⟩) N rc] 24)).grownBy w6 o.ownBlock) (hl : o.ownBlock = some g ∨ g = w5.heap.size + 1) :
    RowsTo w2 w6 N (j + 1) (.slice (some ⟨g, 0, none⟩) (j + 1) cap) M := by
  have hs6 := hg.size
  simp at hs6
  have hog : ∀ k, o.ownBlock = some k → k < wa.heap.size := fun k hk => (h.own.lt k hk).2
  have hs5 := hb5.size
  refine ⟨fun i => if i = j then rb else gs i, fun i => if i = j then rc else cps i, ?_, fun i hi => ?_⟩
  · rw [List.range_succ, List.map_append, List.map_singleton]
    have e1 : (List.range j).map (hd (fun i => if i = j then rb else gs i) (fun i => if i = j then rc else cps i) N) = (List.range j).map (hd gs cps N) := by
      apply List.map_congr_left
      intro i hi
      have := List.mem_range.1 hi
      simp [hd, show i ≠ j by omega]
    rw [e1]
    simpa [hd] using hown
  · by_cases e : i = j
    · subst e
      have hne : some rb ≠ o.ownBlock := fun e => by have := hog rb e.symm; omega
      simp only [if_true]
      refine ⟨by omega, by omega, ?_, r3, fun c hc => ?_⟩
      · simp only [Value.ownBlock, ne_eq, Option.some.injEq]
        rcases hl with hl | hl
        · have := hog g hl; omega
        · omega
      · rw [hg.cell_far ⟨rb, c, none⟩ (by simp; omega) hne, World.cell?_alloc_past _ _ _ r2]; exact r4 c hc
    · obtain ⟨q1, q2, q3, q4, q5⟩ := h.rows i (by omega)
      have hne : some (gs i) ≠ o.ownBlock := fun e => q3 e.symm
      simp only [e, if_false]
      refine ⟨q1, by omega, ?_, q4, fun c hc => ?_⟩
      · simp only [Value.ownBlock, ne_eq, Option.some.injEq]
        rcases hl with hl | hl
        · intro e2; exact q3 (by rw [hl, e2])
        · omega
      · rw [hg.cell_far ⟨gs i, c, none⟩ (by simp; omega) hne, World.cell?_alloc_past _ _ _ (by show gs i < w5.heap.size; omega), hb5.cell (p := ⟨gs i, c, none⟩) q2]; exact q5 c hc
/-- Four rows: a matrix. -/
theorem rows_mat {w wr : World} {N : Nat} {o : Value} {M : Mat} (h : RowsTo w wr N 4 o M) : ∃ G cap gs cps, o = .slice (some ⟨G, 0, none⟩) 4 cap ∧ 4 ≤ cap ∧ w.heap.size ≤ G ∧ MatS w.heap.size wr N M G gs cps := by
  obtain ⟨gs, cps, ho, hr⟩ := h
  rcases ho.2 with ⟨_, h0⟩ | ⟨G, cap, cur, rfl, hb, hg, h1, h2, h3⟩
  · omega
  · refine ⟨G, cap, gs, cps, rfl, h1, hb, hb, fun j hj => (hr j hj).1, (Array.getElem?_eq_some_iff.1 hg).1, fun j hj => ?_, fun j => ho.frozenAt j, fun j hj => (hr j hj).2.1, fun j hj e => (hr j hj).2.2.1 (by simp [Value.ownBlock, e]), fun j hj => (hr j hj).2.2.2.1, fun j hj c hc => (hr j hj).2.2.2.2 c hc⟩
    rw [ho.cellAt j (by omega)]
    simp [hd, hj]
/-- The matrix between two pivots. -/
def PivIn (w3 wr : World) (N : Nat) (o : Value) (M : Mat) : Prop := ∃ G cap gs cps, o = .slice (some ⟨G, 0, none⟩) 4 cap ∧ 4 ≤ cap ∧ MatS w3.heap.size wr N M G gs cps ∧ Below w3.heap.size w3 wr
theorem MatS.other {B0 : Nat} {w : World} {N : Nat} {M : Mat} {G : Nat} {gs cps : Nat → Nat} (h : MatS B0 w N M G gs cps) {b o : Nat} {u : Value} (hb : b < B0) : MatS B0 (w.setCell ⟨b, o, none⟩ u) N M G gs cps where
  glo := h.glo
  lo := h.lo
  lt := by simpa using h.lt
  hdr j hj := by rw [World.cell?_setCell_other _ _ _ _ (by have := h.glo; simp <;> omega)]; exact h.hdr j hj
  fz j := by rw [World.frozen?_setCell]; exact h.fz j
  glt j hj := by simpa using h.glt j hj
  gne := h.gne
  cap := h.cap
  ent j hj c hc := by rw [World.cell?_setCell_other _ _ _ _ (by have := h.lo j hj; simp <;> omega)]; exact h.ent j hj c hc
def FillPost (w : World) (xs ps : List Int) (e : Ending) (w' : World) : Prop :=
  ∃ v', e = .returned (.tuple #[v', .bool (fillOk xs ps)]) ∧ Own w' w.heap.size v' (fillR xs ps) ∧ Below w.heap.size w w'

set_option maxHeartbeats 6400000 in
set_option maxRecDepth 100000 in
theorem l24Fill_any (v vp : Value) (xs ps : List Int) (w : World) (h : Rd w v xs) (hp : Rd w vp ps) (hs : symL xs = true) (hl : xs.length = 15) (hP : Pl ps) :
    Calls Try.prog 74 #[v, vp] w (FillPost w xs ps) := by
  obtain ⟨ap, capp, n, HX, rfl, _, _, hap⟩ := hp.opn
  have hn4 : n ≤ 4 := by rw [← HX.out]; exact hP.len
  have HPL := Lib.hid hP
  have HSX := Lib.hid hs
  have HLX := Lib.hid hl
  have hpl : ∀ k, k < n → ∃ p : Nat, p < 15 ∧ ps[k]?.getD 0 = (p : Int) := fun k hk => place_nat hP (by rw [HX.out]; exact hk)
  have HPN := Lib.hid hpl
  clear hP hs hpl
  go_enter Try.func74, Try.ntmps74
  go_wp2_with fail
  refine (l1Own_any v xs _ h (by omega) (by omega)).mono ?_
  rintro e w1 ⟨v1, rfl, o1, b1⟩
  clear hl
  obtain ⟨b, off, cap1, hv1, hb1a, hb1b⟩ : ∃ b off cap, v1 = .slice (some ⟨b, off, none⟩) 15 cap ∧ w.heap.size ≤ b ∧ b < w1.heap.size := by
    have e := HLX.out
    rcases o1 with ⟨_, e0⟩ | ⟨g, off, cap, cur, hv, hb, ⟨T, hg⟩, _⟩
    · rw [e0] at e; simp at e
    · exact ⟨g, off, cap, by rw [hv, e], hb, (Array.getElem?_eq_some_iff.1 hg).1⟩
  subst hv1
  go_wp2
  go_loopw [7] (fun i wr => ∃ k : Nat, k ≤ n ∧ i = .int .i64 k ∧ Own wr w.heap.size (.slice (some ⟨b, off, none⟩) 15 cap1) (zto xs ps k) ∧ Below w.heap.size w wr) (fun i _ => n - (intOf i).toNat)
  case atStart => exact ⟨0, by omega, rfl, o1, b1⟩
  case round =>
    obtain ⟨k, hk, rfl, hown, hbel⟩ := hrel
    by_cases hlt : k < n
    · obtain ⟨bp, offp, rfl, hbs, hc⟩ := hap (by omega)
      have hcell0 := hc _ hlt
      rw [← hbel.cell (p := ⟨bp, offp + k, none⟩) hbs] at hcell0
      obtain ⟨p, hp15, hpe⟩ := HPN.out k hlt
      rw [hpe] at hcell0
      have hpI : (p : Int) < 15 := by omega
      have hlen : (zto xs ps k).length = 15 := by rw [zto_len]; exact HLX.out
      have hcell := (hown.cellAt rfl).2 p (by omega)
      have hfr := hown.frozenAt rfl (off + p)
      have hst := hown.stored rfl p (by omega) 0
      have e : (zto xs ps k).set p 0 = zto xs ps (k + 1) := by show _ = (zto xs ps k).set (pl ps k) 0; unfold pl; rw [hpe]; rfl
      rw [e] at hst
      have HS := Lib.hid hst
      have HB := Lib.hid hbel
      have hbb := hb1a
      clear hst hown hlen hbel hc e hpe
      go_wp2
      go_roundw
      case rel => exact ⟨k + 1, by omega, by go_num, HS.out.1, HB.out.grown HS.out.2 HB.out.size (fun k hk => by simp at hk; omega)⟩
      case measure => simp [intOf]; omega
    · obtain rfl : n = k := by omega
      have hlen : (zto xs ps n).length = 15 := by rw [zto_len]; exact HLX.out
      have hsy := zto_sym HSX.out (ps := ps) n
      have hlb := (hown.lt b rfl).2
      have HOW := Lib.hid hown
      have HB := Lib.hid hbel
      have hrd := hown.rd
      clear hown hbel
      go_wp2_with fail
      refine (sSyn_any _ (zto xs ps n) _ hrd hsy (by omega)).mono ?_
      rintro e w2 ⟨v2, rfl, o2, b2⟩
      obtain ⟨rb, roff, rcap, hv2, hrb⟩ : ∃ b off cap, v2 = .slice (some ⟨b, off, none⟩) 4 cap ∧ b < w2.heap.size := by
        rcases o2 with ⟨_, e0⟩ | ⟨g, off, cap, cur, hv, hb, ⟨T, hg⟩, _⟩
        · have := syn_len (zto xs ps n); rw [e0] at this; simp at this
        · exact ⟨g, off, cap, by rw [hv, syn_len], (Array.getElem?_eq_some_iff.1 hg).1⟩
      subst hv2
      have hrc := (o2.cellAt rfl).2
      have hright : ∀ j, j < 4 → w2.cell? ⟨rb, roff + j, none⟩ = some (.int .i64 (synV (zto xs ps n) j)) := fun j hj => by
        have := hrc j (by rw [syn_len]; exact hj)
        rwa [syn_get _ hj] at this
      have HRI := Lib.hid hright
      have BW := HB.out.trans (b2.mono HB.out.size)
      have HO2 := Lib.hid (HOW.out.belowAll b2)
      have hb2s : b < w2.heap.size := by have := b2.size; omega
      clear hrc hright o2 hrd HB HOW b2 h hsy
      obtain ⟨want, hwant⟩ : ∃ W : Vec, W = synV (zto xs ps n) := ⟨_, rfl⟩
      have HWA := Lib.hid hwant
      rw [← hwant] at HRI
      clear hwant
      obtain ⟨N, hN⟩ : ∃ N, N = n + 1 := ⟨_, rfl⟩
      have hNI : (N : Int) = (n : Int) + 1 := by omega
      have HNN := Lib.hid hN
      have HNI := Lib.hid hNI
      clear hN hNI
      have hsz2 : w.heap.size ≤ w2.heap.size := BW.size
      go_wp2
      have hr0 : RowsTo w2 (w2.alloc (.cells #[] 24)) N 0 (.slice (some ⟨w2.heap.size, 0, none⟩) 0 0) (vand ps want) :=
        ⟨fun _ => 0, fun _ => 0, World.ownsRow_lit (base := w2.heap.size) (e := 24) (size := 1) w2 #[] 0 (Nat.le_refl _) (by simp) rfl, fun i hi => absurd hi (by omega)⟩
      have hb0 : Below w2.heap.size w2 (w2.alloc (.cells #[] 24)) := (Below.refl _ _).alloc (Nat.le_refl _) _
      obtain ⟨i0, hi, hz0, hz1, hz2⟩ := info_parts Try.infoSl
      go_loopw [9, 10] (fun o i wr => ∃ j : Nat, j ≤ 4 ∧ i = .int .i64 j ∧ RowsTo w2 wr N j o (vand ps want) ∧ Below w2.heap.size w2 wr) (fun _ i _ => 4 - (intOf i).toNat)
      case atStart => exact ⟨0, by omega, rfl, hr0, hb0⟩
      case round =>
        obtain ⟨j, hj, rfl, hrows, hbel⟩ := hrel
        by_cases hlj : j < 4
        · have hjd : decide ((j : Int) < 4) = true := by simp; omega
          have hjI : (j : Int) < 4 := by omega
          obtain ⟨gs, cps, hG⟩ := hrows
          obtain ⟨wa, rfl⟩ : ∃ wa, wa = wr := ⟨_, rfl⟩
          have HG := Lib.hid hG
          have HBa := Lib.hid hbel
          have hsza := hbel.size
          clear hG hbel
          have h0 : (wa.alloc (.cells #[] 3)).ownsRow wa.heap.size 3 1 (.slice (some ⟨wa.heap.size, 0, none⟩) 0 0) 0 (ints (vrow ps j 0)) :=
            World.ownsRow_lit (base := wa.heap.size) (e := 3) (size := 1) wa #[] 0 (Nat.le_refl _) (by simp) rfl
          have hba : Below wa.heap.size wa (wa.alloc (.cells #[] 3)) := (Below.refl _ _).alloc (Nat.le_refl _) _
          go_wp2
          go_loopw [11, 12] (fun o i wr => ∃ c : Nat, c ≤ n ∧ i = .int .i64 c ∧ wr.ownsRow wa.heap.size 3 1 o c (ints (vrow ps j c)) ∧ Below wa.heap.size wa wr) (fun _ i _ => n - (intOf i).toNat)
          case atStart => exact ⟨0, by omega, rfl, h0, hba⟩
          case round =>
            obtain ⟨c, hc, rfl, hown, hbel⟩ := hrel
            have hsz := hbel.size
            have HB4 := Lib.hid (BW.trans ((HBa.out.trans (hbel.mono HBa.out.size)).mono hsz2))
            by_cases hlc : c < n
            · have hcI : (c : Int) < (n : Int) := by omega
              obtain ⟨bp, offp, rfl, hbs, hcc⟩ := hap (by omega)
              have hcell0 := hcc _ hlc
              rw [← HB4.out.cell (p := ⟨bp, offp + c, none⟩) hbs] at hcell0
              obtain ⟨p, hp15, hpe⟩ := HPN.out c hlc
              rw [hpe] at hcell0
              have m1 : ((j : Int) + 1) * (p : Int) ≤ 4 * 15 := Int.mul_le_mul (by omega) (by omega) (by omega) (by omega)
              have m2 : 0 ≤ ((j : Int) + 1) * (p : Int) := Int.mul_nonneg (by omega) (by omega)
              have HR := Lib.hid (show vrow ps j (c + 1) = vrow ps j c ++ [powI (((j : Int) + 1) * (p : Int))] from by rw [vrow_step]; unfold V; rw [hpe])
              clear hcc hpe
              go_wp2_with (first | (go_at_call 114; refine (spower_any _ _ m2).mono ?_; rintro e w' ⟨rfl, rfl⟩) | (at_builtin; refine wpList_push rfl (.tmp 44) (.tmp 53) 24 rfl Try.underlying24 Try.infoInt wa.heap.size _ c (vrow ps j c) rfl hown rfl (by omega) hsz ?_; intro v' w5 hown1 hgrow1; have hb1 := below_push hbel hown hgrow1 (Nat.le_refl _) hsz; rw [← HR.out] at hown1; clear hown hgrow1 hbel hcell0))
              go_roundw
              case rel => exact ⟨c + 1, by omega, by go_num, hown1, hb1⟩
              case measure => simp [intOf]; omega
            · obtain rfl : n = c := by omega
              have hrj := HRI.out j hlj
              rw [← (HBa.out.trans (hbel.mono HBa.out.size)).cell (p := ⟨rb, roff + j, none⟩) hrb] at hrj
              have HR := Lib.hid (show ∀ c, c < N → (vrow ps j n ++ [want j])[c]?.getD 0 = vand ps want j c from fun c hc => by
                have hc' : c < n + 1 := by rw [← HNN.out]; exact hc
                unfold vand
                rw [HX.out]
                by_cases h1 : c < n
                · rw [if_pos h1, List.getElem?_append_left (by simp [vrow]; exact h1)]; simp [vrow, h1]
                · rw [if_neg h1, if_pos (by omega), List.getElem?_append_right (by simp [vrow]; omega)]
                  have : c - (vrow ps j n).length = 0 := by simp [vrow]; omega
                  rw [this]; rfl)
              go_wp2_with (first
                | (at_builtin; refine wpList_push rfl (.tmp 56) (.tmp 61) 24 rfl Try.underlying24 Try.infoInt wa.heap.size _ n (vrow ps j n) rfl hown rfl (by omega) hsz ?_; intro v' w5 hown1 hgrow1; have hb5 := below_push hbel hown hgrow1 (Nat.le_refl _) hsz; obtain ⟨qb, qc, rfl, q1, q2, q3, q4⟩ := row_at hown1 (by omega); have hownr := (ownsRow_below HG.out.own hb5 (fun k hk => (HG.out.own.lt k hk).2)).alloc (.cells #[.slice (some ⟨qb, 0, none⟩) (n + 1) qc] 24); have hsz5 := hb5.size; clear hown hown1 hgrow1 hbel hrj)
                | (at_builtin; refine wpList_append_lies _ rfl (.tmp 55) (.tmp 63) 39 rfl w2.heap.size 24 i0 (.slice none 0 0) 1 24 Try.underlying39 hi hz0 hz1 hz2 rfl (by decide) u9 j _ rfl hownr ⟨w5.heap.size, 0, none⟩ 1 1 [.slice (some ⟨qb, 0, none⟩) (n + 1) qc] rfl rfl (World.news_of_block (cs := #[.slice (some ⟨qb, 0, none⟩) (n + 1) qc]) (t := 24) (fr := (0, 0)) (heap_alloc_new w5 _)) (by intro u hu; simp at hu; subst hu; rfl) (by decide) (by unfold maxLen; omega) (by omega) (by simp; omega) (w5.heap.size + 1) (by simp) ?_; intro g cap2 w6 hown6 hgrow6 hlies hlt6))
              have hbw : Below w2.heap.size w2 w6 := ((HBa.out.trans (hb5.mono HBa.out.size)).alloc (by omega) _).grown hgrow6 (by simp; omega) (fun k hk => (HG.out.own.lt k hk).1)
              rw [← HNN.out] at hown6 hgrow6
              have hnx := rows_next HG.out hsza hb5 q1 q2 (by rw [HNN.out]; exact q3) (fun c hc => by rw [q4 c (by rw [← HNN.out]; exact hc), HR.out c hc]) hown6 hgrow6 hlies
              have HNX := Lib.hid hnx
              clear hnx hown6 hgrow6 q3 q4 hownr
              go_roundw
              case rel => exact ⟨j + 1, by omega, by go_num, HNX.out, hbw⟩
              case measure => simp [intOf]; omega
        · have hj4 : j = 4 := by omega
          have hjge : ¬ ((j : Int) < 4) := by omega
          rw [hj4] at hrows
          obtain ⟨G, cap2, gs, cps, rfl, hcap2, hG2, hM⟩ := rows_mat hrows
          clear hrows hj4 hr0 hb0 i0 hi hz0 hz1 hz2
          have HO3 := Lib.hid (HO2.out.below hbel (fun k hk => by simp [Value.ownBlock] at hk; omega))
          have BW3 := BW.trans (hbel.mono hsz2)
          have hbel0 := hbel
          have HBW0 := Lib.hid BW
          clear hbel BW
          have hP0 : PivIn w2 wr N (.slice (some ⟨G, 0, none⟩) 4 cap2) (elims n (vand ps want) 0) := ⟨G, cap2, gs, cps, rfl, hcap2, hM, hbel0⟩
          have HP0 := Lib.hid hP0
          have hwsym : SymV want := by rw [HWA.out]; exact synV_sym (zto_sym HSX.out n)
          have HWS := Lib.hid hwsym
          clear hP0 hM hwsym
          go_wp2
          go_loopw [9, 13] (fun o i wr => ∃ k : Nat, k ≤ n ∧ i = .int .i64 k ∧ PivIn w2 wr N o (elims n (vand ps want) k)) (fun _ i _ => n - (intOf i).toNat)
          case atStart => exact ⟨0, by omega, rfl, HP0.out⟩
          case round =>
            obtain ⟨k, hk, rfl, hst⟩ := hrel
            obtain ⟨G1, cap3, gs1, cps1, rfl, hcap3, hM1, hb1⟩ := hst
            by_cases hlk : k < n
            · obtain ⟨hsym, hpv⟩ := elims_pivot HPL.out HWS.out (k := k) (by rw [HX.out]; exact hlk)
              rw [HX.out] at hsym hpv
              have hE : elims n (vand ps want) (k + 1) = clr (scl (swp (elims n (vand ps want) k) k (piv (elims n (vand ps want) k) k)) n k) n k := rfl
              have HE := Lib.hid hE
              have HPV := Lib.hid hpv
              have HSY := Lib.hid hsym
              have HM1 := Lib.hid hM1
              clear hE hpv hsym hM1
              go_wp2_with (go_at_call 115; refine (pivot_any w2.heap.size cap3 N n k _ _ G1 gs1 cps1 _ HM1.out hb1.size hcap3 HNN.out hn4 hlk HSY.out HPV.out).mono ?_; rintro e w5 ⟨G5, cap5, gs5, cps5, rfl, hcap5, hM5, hb5⟩; have hP5 : PivIn w2 w5 N (.slice (some ⟨G5, 0, none⟩) 4 cap5) (elims n (vand ps want) (k + 1)) := ⟨G5, cap5, gs5, cps5, rfl, hcap5, by rw [HE.out]; exact hM5, hb1.trans (hb5.mono hb1.size)⟩; have HP5 := Lib.hid hP5; clear hP5 hM5 hb5)
              go_roundw
              case rel => exact ⟨k + 1, by omega, by go_num, HP5.out⟩
              case measure => simp [intOf]; omega
            · obtain rfl : n = k := by omega
              have HF := Lib.hid (show ∀ j, elims n (vand ps want) n j n = fin ps want j from fun j => by unfold fin; rw [HX.out])
              have HM1 := Lib.hid hM1
              have HOK := Lib.hid (show (∀ j, j < 4 → n ≤ j → fin ps want j = 0) → fillOk xs ps = true ∧ fillR xs ps = fto (zto xs ps n) ps (fin ps want) n from fun hh => by
                have e : fillOk xs ps = true := by
                  unfold fillOk; rw [HX.out, ← HWA.out]; exact solOk_iff.2 fun j hj hl => hh j hj (by rw [← HX.out]; exact hl)
                refine ⟨e, ?_⟩
                unfold fillR; rw [if_pos e, HX.out, ← HWA.out])
              have HNO := Lib.hid (show ∀ j, j < 4 → n ≤ j → fin ps want j ≠ 0 → fillOk xs ps = false ∧ fillR xs ps = zto xs ps n from fun j hj hl hne => by
                have e : fillOk xs ps = false := by
                  cases e : fillOk xs ps
                  · rfl
                  · unfold fillOk at e; rw [HX.out, ← HWA.out] at e
                    exact absurd (solOk_iff.1 e j hj (by rw [HX.out]; exact hl)) hne
                refine ⟨e, ?_⟩
                unfold fillR; rw [e, HX.out]; rfl)
              have hnN : (n : Int) < (N : Int) := by rw [HNN.out]; omega
              have hnN2 : n < N := by rw [HNN.out]; omega
              have HB1 := Lib.hid hb1
              have hsz1 := hb1.size
              have HOW := Lib.hid (HO2.out.below hb1 (fun k hk => by have e : b = k := (by simpa [Value.ownBlock] using hk); omega))
              clear hb1
              have HBWr := Lib.hid ((show Below w.heap.size w w2 from HBW0.out).trans (HB1.out.mono hsz2))
              go_wp2
              go_loop [14] (fun i => ∃ q : Nat, n ≤ q ∧ q ≤ 4 ∧ i = .int .i64 q ∧ Hid (∀ r, n ≤ r → r < q → fin ps want r = 0)) (fun i => 4 - (intOf i).toNat)
              case atStart => exact ⟨n, by omega, by omega, rfl, fun r h1 h2 => absurd h2 (by omega)⟩
              case round =>
                obtain ⟨q, hq1, hq2, rfl, HQ⟩ := hrel
                by_cases hlq : q < 4
                · have hqI : (q : Int) < 4 := by omega
                  have hhd := HM1.out.hdr q hlq
                  have hcell := HM1.out.ent q hlq n hnN2
                  rw [HF.out] at hcell
                  by_cases hz : fin ps want q = 0
                  · rw [hz] at hcell
                    have HZ := Lib.hid hz
                    clear hz
                    go_wp2
                    go_round
                    case rel => exact ⟨q + 1, by omega, by omega, by go_num, fun r h1 h2 => by
                      rcases Nat.lt_or_ge r q with h | h
                      · exact HQ.out r h1 h
                      · rw [show r = q from by omega]; exact HZ.out⟩
                    case measure => simp [intOf]; omega
                  · have hne : (fin ps want q != 0) = true := by rw [bne_iff_ne]; exact hz
                    have hres := HNO.out q hlq hq1 hz
                    have HR := Lib.hid hres
                    clear hres hz
                    go_wp2
                    go_ret2
                    exact ⟨_, by rw [HR.out.1]; rfl, by rw [HR.out.2]; exact HOW.out, HBWr.out⟩
                · have hq4 : q = 4 := by omega
                  have hqge : ¬ ((q : Int) < 4) := by omega
                  have hres := HOK.out fun r hr hl => HQ.out r hl (by omega)
                  have HR := Lib.hid hres
                  clear hres hq4
                  have hfs : SymV (fin ps want) := fin_sym HPL.out HWS.out
                  have HFS := Lib.hid hfs
                  clear hfs
                  go_wp2
                  go_loopw [15] (fun i wr' => ∃ k : Nat, k ≤ n ∧ i = .int .i64 k ∧ Own wr' w.heap.size (.slice (some ⟨b, off, none⟩) 15 cap1) (fto (zto xs ps n) ps (fin ps want) k) ∧ MatS w2.heap.size wr' N (elims n (vand ps want) n) G1 gs1 cps1 ∧ Below w.heap.size w wr') (fun i _ => n - (intOf i).toNat)
                  case atStart => exact ⟨0, by omega, rfl, HOW.out, HM1.out, HBWr.out⟩
                  case round =>
                    obtain ⟨k, hk, rfl, hown, hM, hbel⟩ := hrel
                    by_cases hlk : k < n
                    · have hk4 : k < 4 := by omega
                      have hk4I : (k : Int) < 4 := by omega
                      obtain ⟨bp, offp, rfl, hbs, hcc⟩ := hap (by omega)
                      have hcell0 := hcc _ hlk
                      rw [← hbel.cell (p := ⟨bp, offp + k, none⟩) hbs] at hcell0
                      obtain ⟨p, hp15, hpe⟩ := HPN.out k hlk
                      rw [hpe] at hcell0
                      have hpI : (p : Int) < 15 := by omega
                      have hhd := hM.hdr k hk4
                      have hcell := hM.ent k hk4 n hnN2
                      rw [HF.out] at hcell
                      have hlen : (fto (zto xs ps n) ps (fin ps want) k).length = 15 := by rw [fto_len, zto_len]; exact HLX.out
                      have hcello := (hown.cellAt rfl).2 p (by omega)
                      have hfr := hown.frozenAt rfl (off + p)
                      have hst := hown.stored rfl p (by omega) (fin ps want k)
                      have e : (fto (zto xs ps n) ps (fin ps want) k).set p (fin ps want k) = fto (zto xs ps n) ps (fin ps want) (k + 1) := by
                        show _ = (fto (zto xs ps n) ps (fin ps want) k).set (pl ps k) _; unfold pl; rw [hpe]; rfl
                      rw [e] at hst
                      have HS := Lib.hid hst.1.drew
                      have HMs := Lib.hid ((hM.other (b := b) (o := off + p) (u := .int .i64 (fin ps want k)) hb2s).dr (Dr.drew (Dr.refl _)))
                      have HBs := Lib.hid ((hbel.grown hst.2 hbel.size (fun k hk => by simp at hk; omega)).drew)
                      clear hst hown hlen hbel hM e hpe hcc
                      go_wp2
                      go_still_tail 14, (by kernel_rfl)
                      go_wp2
                      go_roundw
                      case rel => exact ⟨k + 1, by omega, by go_num, HS.out, HMs.out, HBs.out⟩
                      case measure => simp [intOf]; omega
                    · obtain rfl : n = k := by omega
                      go_wp2
                      go_ret2
                      exact ⟨_, by rw [HR.out.1]; rfl, by rw [HR.out.2]; exact hown, hbel⟩
end Go.Proofs.Ytlemielobmbadaa
