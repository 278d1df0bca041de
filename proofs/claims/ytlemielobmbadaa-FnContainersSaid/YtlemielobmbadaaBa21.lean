/- Joined: XErsW XStrP. -/
import Derived.Test.YtlemielobmbadaaBa20
namespace Go.Proofs.Ytlemielobmbadaa
open Go.RowKit

theorem Own.open15 {w : World} {base : Nat} {v : Value} {xs : List Int} (h : Own w base v xs) (hl : xs.length = 15) : ∃ b off cap, v = .slice (some ⟨b, off, none⟩) 15 cap ∧ base ≤ b ∧ b < w.heap.size ∧ 15 ≤ cap ∧ cap ≤ maxLen := by
  rcases h with ⟨_, e0⟩ | ⟨g, off, cap, cur, hv, hb, ⟨T, hg⟩, h1, h2, _⟩
  · rw [e0] at hl; simp at hl
  · exact ⟨g, off, cap, by rw [hv, hl], hb, (Array.getElem?_eq_some_iff.1 hg).1, by omega, h2⟩
theorem Own.openN {w : World} {base : Nat} {v : Value} {xs : List Int} {n : Nat} (h : Own w base v xs) (hl : xs.length = n) (hn : 0 < n) : ∃ b off cap, v = .slice (some ⟨b, off, none⟩) n cap ∧ base ≤ b ∧ b < w.heap.size ∧ n ≤ cap ∧ cap ≤ maxLen := by
  rcases h with ⟨_, e0⟩ | ⟨g, off, cap, cur, hv, hb, ⟨T, hg⟩, h1, h2, _⟩
  · rw [e0] at hl; simp at hl; omega
  · exact ⟨g, off, cap, by rw [hv, hl], hb, (Array.getElem?_eq_some_iff.1 hg).1, by omega, h2⟩
theorem Own.cut4 {w : World} {base b off cap : Nat} {xs : List Int} (h : Own w base (.slice (some ⟨b, off, none⟩) 15 cap) xs) (hl : xs.length = 15) : Own w base (.slice (some ⟨b, off + 4, none⟩) 11 (cap - 4)) (xs.drop 4) := by
  rcases h with ⟨h0, _⟩ | ⟨g, off', cap', cur, hv, hb, hg, h1, h2, h3, h4⟩
  · simp at h0
  · simp only [Value.slice.injEq, Option.some.injEq, Addr.mk.injEq, and_true] at hv
    obtain ⟨⟨rfl, rfl⟩, _, rfl⟩ := hv
    refine .inr ⟨b, off + 4, cap - 4, cur, by rw [show (xs.drop 4).length = 11 by simp [hl]], hb, hg, by simp [hl]; omega, by omega, by omega, ?_⟩
    have e : ints (xs.drop 4) = (ints xs).drop 4 := by simp [ints, List.map_drop]
    rw [e, ← h4, List.drop_take, List.drop_drop, hl, show (xs.drop 4).length = 11 by simp [hl]]

set_option maxHeartbeats 3200000 in
set_option maxRecDepth 100000 in
theorem changed_any (v vp vs : Value) (xs ps gs : List Int) (G : Vec) (w : World) (h : Rd w v xs) (hp : Rd w vp ps) (hg : Rd w vs gs) (hs : symL xs = true) (hl : xs.length = 15) (hP : Pl ps)
    (hgl : gs.length = ps.length) (hgv : ∀ k, k < ps.length → gs[k]?.getD 0 = G k) :
    Calls Try.prog 79 #[v, vp, vs] w fun e w' => ∃ v', e = .returned v' ∧ Own w' w.heap.size v' (chg xs ps G ps.length) ∧ Below w.heap.size w w' := by
  obtain ⟨ap, capp, n, HX, rfl, _, _, hap⟩ := hp.opn
  obtain ⟨ag, capg, n', HXg, rfl, _, _, hag⟩ := hg.opn
  obtain rfl : n = n' := by rw [← HX.out, ← HXg.out, hgl]
  have hn4 : n ≤ 4 := by rw [← HX.out]; exact hP.len
  have hpl : ∀ k, k < n → ∃ p : Nat, p < 15 ∧ ps[k]?.getD 0 = (p : Int) := fun k hk => place_nat hP (by rw [HX.out]; exact hk)
  have HPN := Lib.hid hpl
  have HGV := Lib.hid (fun k (hk : k < n) => hgv k (by rw [HX.out]; exact hk))
  have HLX := Lib.hid hl
  clear hpl hP hs hgv
  go_enter Try.func79, Try.ntmps79
  go_wp2_with fail
  refine (clone_any v xs _ h (by omega) (by omega)).mono ?_
  rintro e w1 ⟨v1, rfl, o1, b1⟩
  obtain ⟨b, off, cap1, hv1, hb1a, hb1b, hcap1, _⟩ := o1.open15 hl
  subst hv1
  clear hl
  go_wp2
  go_loopw [14] (fun i wr => ∃ k : Nat, k ≤ n ∧ i = .int .i64 k ∧ Own wr w.heap.size (.slice (some ⟨b, off, none⟩) 15 cap1) (chg xs ps G k) ∧ Below w.heap.size w wr) (fun i _ => n - (intOf i).toNat)
  case atStart => exact ⟨0, by omega, rfl, o1, b1⟩
  case round =>
    obtain ⟨k, hk, rfl, hown, hbel⟩ := hrel
    by_cases hlt : k < n
    · have hkI : (k : Int) < (n : Int) := by omega
      obtain ⟨bp, offp, rfl, hbs, hc⟩ := hap (by omega)
      obtain ⟨bg, offg, rfl, hbsg, hcg⟩ := hag (by omega)
      have hcell0 := hc _ hlt
      rw [← hbel.cell (p := ⟨bp, offp + k, none⟩) hbs] at hcell0
      have hcellg := hcg _ hlt
      rw [← hbel.cell (p := ⟨bg, offg + k, none⟩) hbsg, HGV.out k hlt] at hcellg
      obtain ⟨p, hp15, hpe⟩ := HPN.out k hlt
      rw [hpe] at hcell0
      have hpI : (p : Int) < 15 := by omega
      have hlen : (chg xs ps G k).length = 15 := by rw [chg_len]; exact HLX.out
      have hcell := (hown.cellAt rfl).2 p (by omega)
      have hfr := hown.frozenAt rfl (off + p)
      have hst := hown.stored rfl p (by omega) (xr ((chg xs ps G k)[p]?.getD 0) (G k))
      have e : (chg xs ps G k).set p (xr ((chg xs ps G k)[p]?.getD 0) (G k)) = chg xs ps G (k + 1) := by
        show _ = (chg xs ps G k).set (pl ps k) (xr ((chg xs ps G k)[pl ps k]?.getD 0) (G k))
        rw [show pl ps k = p by unfold pl; rw [hpe]; rfl]
      rw [e] at hst
      have HS := Lib.hid hst.1.drew
      have HBs := Lib.hid ((hbel.grown hst.2 hbel.size (fun k hk => by simp at hk; omega)).drew)
      clear hst hown hlen hbel hc hcg e hpe
      go_wp2
      go_still_tail 10, (by kernel_rfl)
      go_wp2
      go_roundw
      case rel => exact ⟨k + 1, by omega, by go_num, HS.out, HBs.out⟩
      case measure => simp [intOf]; omega
    · obtain rfl : n = k := by omega
      go_wp2
      go_ret
      exact ⟨_, rfl, by rw [HX.out]; exact hown, hbel⟩

theorem solR_len {xs ps : List Int} (hP : Pl ps) (hf : fillOk xs ps = true) (hl : xs.length = 15) (hs : symL xs = true) : (solR ps (synV xs)).length = ps.length := by
  unfold solR; rw [(era hl hs hP).1, if_pos hf]; simp [sol]
theorem solR_get {xs ps : List Int} (hP : Pl ps) (hf : fillOk xs ps = true) (hl : xs.length = 15) (hs : symL xs = true) : ∀ k, k < ps.length → (solR ps (synV xs))[k]?.getD 0 = fin ps (synV xs) k := by
  intro k hk
  unfold solR; rw [(era hl hs hP).1, if_pos hf]; simp [sol, hk]
theorem solvedSyn_any (v : Value) (xs ps : List Int) (w : World) (h : Rd w v ps) (hs : symL xs = true) (hl : xs.length = 15) (hP : Pl ps) :
    Calls Try.prog 78 #[v, .agg #[.int .i64 (synTo xs 0 xs.length), .int .i64 (synTo xs 1 xs.length), .int .i64 (synTo xs 2 xs.length), .int .i64 (synTo xs 3 xs.length)]] w fun e w' =>
      ∃ v', e = .returned (.tuple #[v', .bool (fillOk xs ps)]) ∧ Own w' w.heap.size v' (solR ps (synV xs)) ∧ Below w.heap.size w w' := by
  refine (solved_any v ps _ _ _ _ w h hP (synTo_bd hs _ _) (synTo_bd hs _ _) (synTo_bd hs _ _) (synTo_bd hs _ _)).mono ?_
  rintro e w' ⟨v', rfl, o, b⟩
  obtain ⟨e1, e2⟩ := solR_syn hP hs
  exact ⟨v', by rw [e2, (era hl hs hP).1], by rw [← e1]; exact o, b⟩
theorem erOk_parts {xs ps : List Int} (h : erOk xs ps = true) : xs.length = 15 ∧ symL xs = true ∧ ps.length ≤ 4 ∧ rising ps 15 = true := by
  simp only [erOk, blkOk, Bool.and_eq_true, decide_eq_true_eq] at h
  exact ⟨h.1.1.1, h.1.1.2, h.1.2, h.2⟩

def ErsPost (w : World) (xs ps : List Int) (e : Ending) (w' : World) : Prop := ∃ v', e = .returned (.tuple #[v', .bool (erGot xs ps), .bool (erOk xs ps)]) ∧ Own w' w.heap.size v' (erR xs ps) ∧ Below w.heap.size w w'
theorem ErsPost.no {w w' : World} {xs ps : List Int} {e : Ending} {v' : Value} (h : erOk xs ps = false) (he : e = .returned (.tuple #[v', .bool false, .bool false])) (ho : Own w' w.heap.size v' []) (hb : Below w.heap.size w w') : ErsPost w xs ps e w' := by
  have h2 : erGot xs ps = false := by simp [erGot, h]
  exact ⟨v', by rw [h2, h]; exact he, by unfold erR; rw [h2]; exact ho, hb⟩
theorem ErsPost.none {w w' : World} {xs ps : List Int} {e : Ending} {v' : Value} (h : erOk xs ps = true) (hf : fillOk xs ps = false) (he : e = .returned (.tuple #[v', .bool false, .bool true])) (ho : Own w' w.heap.size v' []) (hb : Below w.heap.size w w') : ErsPost w xs ps e w' := by
  have h2 : erGot xs ps = false := by simp [erGot, hf]
  exact ⟨v', by rw [h2, h]; exact he, by unfold erR; rw [h2]; exact ho, hb⟩
theorem ErsPost.yes {w w' : World} {xs ps : List Int} {e : Ending} {v' : Value} (h : erOk xs ps = true) (hf : fillOk xs ps = true) (he : e = .returned (.tuple #[v', .bool true, .bool true])) (ho : Own w' w.heap.size v' ((fillR xs ps).drop 4)) (hb : Below w.heap.size w w') : ErsPost w xs ps e w' := by
  have h2 : erGot xs ps = true := by simp [erGot, hf, h]
  exact ⟨v', by rw [h2, h]; exact he, by unfold erR; rw [h2]; exact ho, hb⟩

set_option maxHeartbeats 3200000 in
set_option maxRecDepth 100000 in
theorem implEr_any (v : Value) (xs : List Int) (vp : Value) (ps : List Int) (w : World) (h : Rd w v xs) (hp : Rd w vp ps) :
    Calls Try.prog 25 #[v, vp] w (ErsPost w xs ps) := by
  obtain ⟨ap, capp, n, HX, rfl, _, _, _⟩ := hp.opn
  cases hb : blkOk xs
  · have hno : erOk xs ps = false := by simp [erOk, hb]
    go_enter Try.func25, Try.ntmps25
    go_wp2_with (go_at_call 75; refine (isCode_any _ xs _ h).mono ?_; rintro e w' ⟨rfl, rfl⟩)
    refine bodyPost_ret (results_tmp3 rfl _ _ _) rfl ?_
    exact ErsPost.no hno rfl own_nil (Below.refl _ _)
  by_cases hn : 4 < n
  · have hno : erOk xs ps = false := by simp [erOk, HX.out]; omega
    have hnI : (4 : Int) < (n : Int) := by omega
    go_enter Try.func25, Try.ntmps25
    go_wp2_with (go_at_call 75; refine (isCode_any _ xs _ h).mono ?_; rintro e w' ⟨rfl, rfl⟩)
    refine bodyPost_ret (results_tmp3 rfl _ _ _) rfl ?_
    exact ErsPost.no hno rfl own_nil (Below.refl _ _)
  have hnI : ¬ ((4 : Int) < (n : Int)) := by omega
  cases hr : rising ps 15
  · have hno : erOk xs ps = false := by simp [erOk, hr]
    go_enter Try.func25, Try.ntmps25
    go_wp2_with (first | (go_at_call 75; refine (isCode_any _ xs _ h).mono ?_; rintro e w' ⟨rfl, rfl⟩) | (go_at_call 77; refine (isSet_any _ ps _ hp).mono ?_; rintro e w1 ⟨rfl, hw1⟩; have hdr : Dr w w1 := hw1 ▸ Dr.refl _))
    refine bodyPost_ret (results_tmp3 rfl _ _ _) rfl ?_
    exact ErsPost.no hno rfl own_nil (by first | exact hdr.below (Below.refl _ _) | exact (hdr.below (Below.refl _ _)).alloc (by rw [hdr.size]; exact Nat.le_refl _) _)
  have hok : erOk xs ps = true := by simp [erOk, hb, hr, HX.out]; omega
  obtain ⟨hl, hs, h4, _⟩ := erOk_parts hok
  have hP := ris_pl hr h4
  have HL := Lib.hid hl
  have HS := Lib.hid hs
  clear hl hs
  go_enter Try.func25, Try.ntmps25
  go_wp2_with (first
    | (go_at_call 75; refine (isCode_any _ xs _ h).mono ?_; rintro e w' ⟨rfl, rfl⟩)
    | (go_at_call 77; refine (isSet_any _ ps _ hp).mono ?_; rintro e w1 ⟨rfl, rfl⟩)
    | (go_at_call 76; refine (iSyn_any _ xs _ h HS.out (by rw [HL.out]; omega)).mono ?_; rintro e w2 ⟨rfl, b2⟩)
    | (go_at_call 78; refine (solvedSyn_any _ xs ps _ (hp.belowAll b2) HS.out HL.out hP).mono ?_; rintro e w3 ⟨v3, rfl, o3, b3⟩; have hB := b2.trans (b3.mono b2.size); cases hf : fillOk xs ps)
    | (go_at_call 79; refine (changed_any _ _ _ xs ps _ (fin ps (synV xs)) _ (h.belowAll hB) (hp.belowAll hB) o3.rd HS.out HL.out hP (solR_len hP hf HL.out HS.out) (solR_get hP hf HL.out HS.out)).mono ?_; rintro e w4 ⟨v4, rfl, o4, b4⟩; rw [chg_fill HL.out HS.out hP hf] at o4; obtain ⟨b, off, cap, rfl, hb1, hb2, hc1, hc2⟩ := o4.open15 (by rw [fillR_len]; exact HL.out)))
  · refine bodyPost_ret (results_tmp3 rfl _ _ _) rfl ?_
    exact ErsPost.none hok hf rfl own_nil hB
  · refine bodyPost_ret (results_tmp3 rfl _ _ _) rfl ?_
    exact ErsPost.yes hok hf rfl ((o4.cut4 (by rw [fillR_len]; exact HL.out)).mono hB.size) (hB.trans (b4.mono hB.size))
end Go.Proofs.Ytlemielobmbadaa
namespace Go.Proofs.Ytlemielobmbadaa
open Go.RowKit

/-- So many numbers of a list from a place on. -/
def sub (xs : List Int) (i s : Nat) : List Int := (xs.drop i).take s
theorem sub_len {xs : List Int} {i s : Nat} (h : i + s ≤ xs.length) : (sub xs i s).length = s := by simp [sub]; omega
theorem symL_sub {xs ys : List Int} (h : symL xs = true) (hs : ∀ y ∈ ys, y ∈ xs) : symL ys = true := by
  simp only [symL, List.all_eq_true] at *
  exact fun y hy => h y (hs y hy)
theorem sub_sym {xs : List Int} (h : symL xs = true) (i s : Nat) : symL (sub xs i s) = true := symL_sub h fun _ hy => List.mem_of_mem_drop (List.mem_of_mem_take hy)
theorem sub_get (xs : List Int) (i s j : Nat) (h : j < s) : (sub xs i s)[j]?.getD 0 = xs[i + j]?.getD 0 := by
  simp [sub, List.getElem?_take, h, List.getElem?_drop]
theorem symL_append (xs ys : List Int) : symL (xs ++ ys) = (symL xs && symL ys) := by simp [symL]
theorem rd_sub {w : World} {xs : List Int} {b off n cap : Nat} (hX : xs.length = n) (hn : n ≤ cap) (hcap : cap ≤ maxLen) (hb : b < w.heap.size)
    (hc : ∀ j, j < n → w.cell? ⟨b, off + j, none⟩ = some (.int .i64 ((xs[j]?.getD 0)))) (i s : Nat) (h : i + s ≤ n) :
    Rd w (.slice (some ⟨b, off + i, none⟩) s (cap - i)) (sub xs i s) := by
  have hl : (sub xs i s).length = s := sub_len (by omega)
  refine .inr ⟨b, off + i, cap - i, by rw [hl], by omega, by omega, hb, fun j hj => ?_⟩
  rw [hl] at hj
  rw [sub_get _ _ _ _ hj, Nat.add_assoc]
  exact hc _ (by omega)

theorem Rd.opnc {w : World} {v : Value} {xs : List Int} (h : Rd w v xs) : ∃ a cap n, Hid (xs.length = n) ∧ v = .slice a n cap ∧ n ≤ cap ∧ n ≤ 9223372036854775807 ∧ Hid (cap ≤ maxLen) ∧
    (0 < n → ∃ b off, a = some ⟨b, off, none⟩ ∧ b < w.heap.size ∧ ∀ j, j < n → w.cell? ⟨b, off + j, none⟩ = some (.int .i64 ((xs[j]?.getD 0)))) := by
  obtain ⟨a, cap, hv, h1, h2, h3⟩ := h.shape
  have h4 := h2
  unfold maxLen at h2
  exact ⟨a, cap, xs.length, rfl, hv, h1, by omega, h4, h3⟩
theorem symL_of {xs : List Int} (h : ∀ i : Nat, Sym (xs[i]?.getD 0)) : symL xs = true := by
  simp only [symL, List.all_eq_true]
  intro x hx
  obtain ⟨i, hi, rfl⟩ := List.mem_iff_getElem.1 hx
  have := h i
  rw [List.getElem?_eq_getElem hi] at this
  simp only [Option.getD_some] at this
  simp [inB]; exact this
theorem sol_sym {ps : List Int} (h : Pl ps) {u : Vec} (hu : SymV u) : symL (sol ps u) = true := by
  have hf := fin_sym h hu
  unfold sol
  simp only [symL, List.all_eq_true]
  intro x hx
  obtain ⟨i, _, rfl⟩ := List.mem_map.1 hx
  have := hf i
  simp [inB]; exact this
theorem encL_sym {data : List Int} (h : symL data = true) : symL (encL data) = true := by
  rw [encL_eq, symL_append, h, Bool.and_true]
  unfold solR; rw [solOk0, if_pos rfl]
  exact sol_sym pl0 (synV_sym (blk0_sym h))

/-- The code blocks of the first k data blocks. -/
def encAll (xs : List Int) : Nat → List Int
  | 0 => []
  | k + 1 => encAll xs k ++ encL (sub xs (11 * k) 11)
theorem encAll_len {xs : List Int} {k : Nat} (h : 11 * k ≤ xs.length) : (encAll xs k).length = 15 * k := by
  induction k with
  | zero => rfl
  | succ k ih => rw [encAll, List.length_append, ih (by omega), encL_len (sub_len (by omega))]; omega
theorem encAll_sym {xs : List Int} (h : symL xs = true) (k : Nat) : symL (encAll xs k) = true := by
  induction k with
  | zero => rfl
  | succ k ih => rw [encAll, symL_append, ih, encL_sym (sub_sym h _ _)]; rfl

def strOk (m : Nat) (xs : List Int) : Bool := inB ((xs.length : Int) / m) 1 8 && decide ((xs.length : Int) % m = 0) && symL xs
theorem strOk_parts {m : Nat} {xs : List Int} (hm : 0 < m) (h : strOk m xs = true) : ∃ n, xs.length = m * n ∧ 1 ≤ n ∧ n ≤ 8 ∧ symL xs = true ∧ (xs.length : Int) / m = (n : Int) ∧ xs.length / m = n := by
  simp only [strOk, Bool.and_eq_true, decide_eq_true_eq] at h
  obtain ⟨⟨h1, h2⟩, h3⟩ := h
  have hb := inB_true h1
  have e : (xs.length : Int) / m = ((xs.length / m : Nat) : Int) := (Int.natCast_ediv _ _).symm
  refine ⟨xs.length / m, ?_, by omega, by omega, h3, e, rfl⟩
  exact (Nat.mul_div_cancel' (Nat.dvd_of_mod_eq_zero (by omega))).symm
theorem strOk_of {m : Nat} {xs : List Int} {b1 b2 b3 : Bool} (h1 : inB ((xs.length : Int) / m) 1 8 = b1) (h2 : decide ((xs.length : Int) % m = 0) = b2) (h3 : symL xs = b3) : strOk m xs = (b1 && b2 && b3) := by
  rw [← h1, ← h2, ← h3]; rfl
def streR (xs : List Int) : List Int := if strOk 11 xs then turn (encAll xs (xs.length / 11)) (xs.length / 11) 15 else []
theorem streR_len (xs : List Int) : (streR xs).length ≤ 120 := by
  unfold streR; split
  · rename_i h
    obtain ⟨n, hn, h1, h8, _, _, e⟩ := strOk_parts (by omega) h
    rw [turn_len, e]; omega
  · simp
theorem inter_enc {xs : List Int} {n : Nat} (hn : xs.length = 11 * n) (h1 : 1 ≤ n) (h8 : n ≤ 8) (hs : symL xs = true) : tblOk (encAll xs n) (n : Int) = true ∧ interL (encAll xs n) (n : Int) = turn (encAll xs n) n 15 := by
  have hl : (encAll xs n).length = 15 * n := encAll_len (by omega)
  have ht : tblOk (encAll xs n) (n : Int) = true := by
    unfold tblOk
    rw [encAll_sym hs, hl]
    have e1 : inB (n : Int) 1 8 = true := by simp [inB]; omega
    have e2 : decide (((15 * n : Nat) : Int) ≤ 120) = true := by simp; omega
    have e3 : decide (((15 * n : Nat) : Int) % n = 0) = true := by simp
    rw [e1, e2, e3]; rfl
  refine ⟨ht, ?_⟩
  unfold interL
  rw [if_pos ht, hl]
  simp only [Int.toNat_natCast]
  rw [Nat.mul_div_cancel _ (by omega)]
end Go.Proofs.Ytlemielobmbadaa
