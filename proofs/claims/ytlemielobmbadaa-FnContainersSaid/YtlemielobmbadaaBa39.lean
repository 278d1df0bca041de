/- Joined: XCdr XCodP. -/
import Derived.Test.YtlemielobmbadaaBa38
import Derived.Test.YtlemielobmbadaaDstP
namespace Go.Proofs.Ytlemielobmbadaa
open Go.RowKit
set_option maxRecDepth 100000

set_option maxHeartbeats 800000 in
theorem vInts_any (va vb : Value) (xs ys : List Int) (w : World) (ha : Rd w va xs) (hb : Rd w vb ys) :
    Calls Try.prog 14 #[va, vb] w fun e w' => e = .returned (.bool (eqL xs ys)) ∧ Dr w w' := by
  obtain ⟨a, capa, n, HX, rfl, _, hla, ha⟩ := ha.opn
  obtain ⟨b, capb, m, HY, rfl, _, hlb, hb⟩ := hb.opn
  by_cases hn : n = m
  · subst hn
    have hne : ((n : Int) != (n : Int)) = false := by simp
    have HR := Lib.hid (show xs = ys → eqL xs ys = true from eqL_of)
    have HN := Lib.hid (show xs ≠ ys → eqL xs ys = false from fun h => by simp [eqL, h])
    generalize eqL xs ys = r at *
    go_enter Try.func14, Try.ntmps14
    go_wp2
    go_loopw [5] (fun i wr => ∃ k : Nat, k ≤ n ∧ i = .int .i64 k ∧ Hid (xs.take k = ys.take k) ∧ Dr w wr) (fun i _ => n - (intOf i).toNat)
    case atStart => exact ⟨0, by omega, rfl, by simp [Hid], Dr.refl _⟩
    case round =>
      obtain ⟨k, hk, rfl, HT, m, rfl⟩ := hrel
      by_cases hlt : k < n
      · obtain ⟨b1, o1, rfl, hs1, hc1⟩ := ha (by omega)
        obtain ⟨b2, o2, rfl, hs2, hc2⟩ := hb (by omega)
        have c1 := hc1 k hlt
        have c2 := hc2 k hlt
        clear hc1 hc2
        by_cases he : (xs[k]?.getD 0) = (ys[k]?.getD 0)
        · have hne2 : ((xs[k]?.getD 0) != (ys[k]?.getD 0)) = false := by simpa using he
          have HE := Lib.hid he
          clear he
          go_wp2
          go_quiet (fail)
          go_wp2
          go_roundw
          case rel => exact ⟨k + 1, by omega, by go_num, take_eq_step (by rw [HX.out]; exact hlt) (by rw [HY.out]; exact hlt) HT.out HE.out, ⟨_, rfl⟩⟩
          case measure => simp [intOf]; omega
        · have hne2 : ((xs[k]?.getD 0) != (ys[k]?.getD 0)) = true := by simpa using he
          have HE := Lib.hid he
          clear he
          go_wp2
          go_quiet (fail)
          go_wp2
          go_ret
          exact ⟨by rw [HN.out (fun h => HE.out (by rw [h]))]; rfl, Dr.drewN ⟨_, rfl⟩ _⟩
      · obtain rfl : k = n := by omega
        go_wp2
        go_ret
        have hh := HT.out
        rw [← HX.out, List.take_length, HX.out, ← HY.out, List.take_length] at hh
        exact ⟨by rw [HR.out hh]; rfl, ⟨_, rfl⟩⟩
  · have hne : ((n : Int) != (m : Int)) = true := by rw [bne_iff_ne]; omega
    have he : eqL xs ys = false := by simp only [eqL, decide_eq_false_iff_not]; exact fun h => hn (by rw [← HX.out, ← HY.out, h])
    have HE := Lib.hid he
    clear he
    go_enter Try.func14, Try.ntmps14
    go_wp2
    go_ret
    exact ⟨by rw [HE.out]; rfl, Dr.refl _⟩

theorem vSame (va vb : Value) (xs : List Int) (w : World) (ha : Rd w va xs) (hb : Rd w vb xs) :
    Calls Try.prog 14 #[va, vb] w fun e w' => e = .returned (.bool true) ∧ Dr w w' := by
  have h := vInts_any va vb xs xs w ha hb
  rwa [eqL_refl] at h
def SymsP (w : World) (B : Nat) (c : Value) (K n : Nat) (e : Ending) (w' : World) : Prop := ∃ (v : Value) (xs : List Int), e = .returned v ∧ xs.length = n ∧ Own w' w.heap.size v xs ∧ CS w B c (K + 2 * n + 10) w'
theorem symbolsC (B : Nat) (c : Value) (K n : Nat) (w : World) (h : Cs w B c K) (hk : K ≤ 100000000) (hn : n ≤ 1000) :
    Calls Try.prog 64 #[.pointer (some ⟨B, 0, none⟩), .int .i64 n] w (SymsP w B c K n) := by
  have hl := h.lt
  obtain ⟨k, hk2, hc⟩ := h
  refine (symbols_any B c k n w hc (by omega) hn).mono ?_
  rintro e w' ⟨v, xs, k', h1, h2, h3, h4, h5, h6⟩
  exact ⟨v, xs, h1, h2, h3, hl, ⟨k', by omega, h5⟩, h6⟩
theorem lit8_row {w : World} {a b c d e f g h lo hi : Int} {T : TypeId} (h1 : ∀ x ∈ [a, b, c, d, e, f, g, h], lo ≤ x ∧ x ≤ hi) {p : Nat} (hb : p = w.heap.size) :
    ∀ j, j < 8 → ∃ x : Int, lo ≤ x ∧ x ≤ hi ∧ (w.alloc (.cells #[.int .i64 a, .int .i64 b, .int .i64 c, .int .i64 d, .int .i64 e, .int .i64 f, .int .i64 g, .int .i64 h] T)).cell? ⟨p, j, none⟩ = some (.int .i64 x) := fun j hj => by
  subst hb
  have hx := h1 ([a, b, c, d, e, f, g, h][j]'(by simpa using hj)) (List.getElem_mem _)
  refine ⟨_, hx.1, hx.2, ?_⟩
  rw [cell_of_row _ _ _ _ _ _ (heap_alloc_new w _)]
  match j, hj with
  | 0, _ => rfl
  | 1, _ => rfl
  | 2, _ => rfl
  | 3, _ => rfl
  | 4, _ => rfl
  | 5, _ => rfl
  | 6, _ => rfl
  | 7, _ => rfl

def DrP (w : World) (m : Nat) (e : Ending) (w' : World) : Prop := ∃ (v : Value) (xs : List Int), e = .returned v ∧ xs.length ≤ m ∧ Own w' w.heap.size v xs ∧ Below w.heap.size w w'
set_option maxHeartbeats 1600000 in
theorem drawEncB_any (v : Value) (w : World) (h : RdB w v) :
    Calls Try.prog 20 #[v] w (DrP w 20) := by
  obtain ⟨a, len, cap, rfl, hrd⟩ := h
  have H1 := (curN (w := w) (v := .slice a len cap) ⟨a, len, cap, rfl, hrd⟩).here
  have hB0 := Lib.hid ((Below.refl w.heap.size w).alloc (Nat.le_refl _) (.cells #[.slice a len cap, .int .i64 0, .int .u64 0] 76))
  have H2 := H1.alloc (.cells #[.int .i64 11, .int .i64 11, .int .i64 11, .int .i64 11, .int .i64 11, .int .i64 11, .int .i64 10, .int .i64 12] 3)
  clear hrd
  go_enter Try.func20, Try.ntmps20
  go_wp2_with fail
  refine (amongC w.heap.size _ 0 _ 8 8 10 12 _ H2.st (by omega) (by omega) (by omega) (by omega) (lit8_row (by simp) (by simp))).mono ?_
  rintro e w3 ⟨x, x0, x1, rfl, c3, -⟩
  have H3 := H2.call c3
  obtain ⟨n, rfl⟩ := Int.eq_ofNat_of_zero_le (show 0 ≤ x by omega)
  go_wp2_with fail
  refine (symbolsC w.heap.size _ 2 n _ H3.st (by omega) (by omega)).mono ?_
  rintro e w4 ⟨v4, xs, rfl, hl, ho, c4⟩
  have hB4 := Lib.hid ((H3.call c4).belowAll hB0.out (Nat.le_refl _))
  have hz := H3.size
  have HO := Lib.hid (ho.mono (show w.heap.size ≤ w3.heap.size by simp at hz; omega))
  clear c3 c4 H3 H2 H1 ho
  go_wp2
  go_ret
  exact ⟨v4, xs, rfl, by omega, HO.out, hB4.out⟩
end Go.Proofs.Ytlemielobmbadaa
namespace Go.Proofs.Ytlemielobmbadaa
open Go.RowKit

/-- A code block: fifteen symbols, all syndromes 0. -/
structure CW (c : List Int) : Prop where
  len : c.length = 15
  sym : symL c = true
  syn : ∀ j, j < 4 → synV c j = 0
/-- Two lists agree outside some places. -/
def agree (c d us : List Int) : Prop := c.length = d.length ∧ ∀ q : Nat, (q : Int) ∉ us → c[q]? = d[q]?
theorem not_pl {ps : List Int} (hP : Pl ps) {q : Nat} (h : (q : Int) ∉ ps) : ∀ i, i < ps.length → pl ps i ≠ q := by
  intro i hi e
  have h1 := pl_cast hP hi
  rw [e, List.getElem?_eq_getElem hi] at h1
  simp only [Option.getD_some] at h1
  exact h (h1 ▸ List.getElem_mem hi)
theorem mem_pl {ps : List Int} {q : Nat} (h : (q : Int) ∈ ps) : ∃ i, i < ps.length ∧ pl ps i = q := by
  obtain ⟨i, hi, e⟩ := List.mem_iff_getElem.1 h
  exact ⟨i, hi, by unfold pl; rw [List.getElem?_eq_getElem hi]; simp [e]⟩
theorem zto_at {xs ps : List Int} : ∀ k i, i < k → pl ps i < xs.length → (zto xs ps k)[pl ps i]? = some 0
  | 0, i, h, _ => by omega
  | k + 1, i, h, hl => by
    show ((zto xs ps k).set (pl ps k) 0)[pl ps i]? = _
    rw [List.getElem?_set]
    by_cases e : pl ps k = pl ps i
    · rw [if_pos e, zto_len, if_pos (by rw [e]; exact hl)]
    · rw [if_neg e]
      exact zto_at k i (by rcases Nat.lt_or_ge i k with h1 | h1; exact h1; exact absurd (show pl ps k = pl ps i by rw [show i = k by omega]) e) hl
theorem zto_agree {c d us : List Int} (hP : Pl us) (h : agree c d us) : zto c us us.length = zto d us us.length := by
  apply List.ext_getElem?
  intro q
  by_cases hq : (q : Int) ∈ us
  · obtain ⟨i, hi, rfl⟩ := mem_pl hq
    rcases Nat.lt_or_ge (pl us i) c.length with hl | hl
    · rw [zto_at _ _ hi hl, zto_at _ _ hi (by rw [← h.1]; exact hl)]
    · rw [List.getElem?_eq_none (by rw [zto_len]; exact hl), List.getElem?_eq_none (by rw [zto_len, ← h.1]; exact hl)]
  · rw [zto_other _ (not_pl hP hq), zto_other _ (not_pl hP hq), h.2 q hq]
theorem comb_zero (ps : List Int) (j : Nat) : ∀ m, sumv m (fun i => vmul 0 (V ps i)) j = 0
  | 0 => rfl
  | m + 1 => by
    show xr (sumv m _ j) (mulI 0 (V ps m j)) = 0
    rw [comb_zero ps j m, zero_mulI (V_sym _ _ _)]; rfl
theorem set_self (c : List Int) (i : Nat) : c.set i (c[i]?.getD 0) = c := by
  apply List.ext_getElem?
  intro q
  rw [List.getElem?_set]
  split
  · rename_i e
    subst e
    split
    · rename_i h; rw [List.getElem?_eq_getElem h]; rfl
    · rename_i h; rw [List.getElem?_eq_none (by omega)]
  · rfl
theorem fto_old (c us : List Int) (F : Vec) : ∀ k, (∀ i, i < k → F i = old c us i) → fto c us F k = c
  | 0, _ => rfl
  | k + 1, h => by
    show (fto c us F k).set (pl us k) (F k) = c
    rw [fto_old c us F k fun i hi => h i (by omega), h k (by omega)]
    exact set_self c _
theorem fill_cw {c us : List Int} (hc : CW c) (hP : Pl us) : fillOk c us = true ∧ fillR c us = c := by
  have hS := synV_sym hc.sym
  have s := sol_of hP hS (x := fun _ => 0) (fun _ => Sym.zero) fun j hj => by rw [hc.syn j hj]; exact (comb_zero us j us.length).symm
  obtain ⟨e1, e2⟩ := era hc.len hc.sym hP
  have hok : fillOk c us = true := by rw [← e1]; exact s.1
  refine ⟨hok, ?_⟩
  unfold fillR
  rw [if_pos hok, fto_zto]
  refine fto_old _ _ _ _ fun i hi => ?_
  have := e2 i hi
  rw [s.2 i hi] at this
  exact xr_eq_zero (fin_sym hP (synV_sym (zto_sym hc.sym _)) i) (old_sym hc.sym us i) this.symm
theorem cw_eq {c d us : List Int} (hc : CW c) (hd : CW d) (hP : Pl us) (h : agree c d us) : c = d := by
  rw [← (fill_cw hc hP).2, ← (fill_cw hd hP).2]
  unfold fillR fillOk
  rw [zto_agree hP h]
theorem erase_cw {x c us : List Int} (hc : CW c) (hP : Pl us) (h : agree x c us) : fillOk x us = true ∧ fillR x us = c := by
  have := fill_cw hc hP
  unfold fillR fillOk at *
  rw [zto_agree hP h]
  exact this

theorem fto_symL {xs ps : List Int} {F : Vec} (hs : symL xs = true) (hF : SymV F) : ∀ k, symL (fto xs ps F k) = true
  | 0 => hs
  | k + 1 => symL_set (fto_symL hs hF k) _ (hF k)
theorem synV_fto {Z ps : List Int} {F : Vec} (hl : Z.length = 15) (hs : symL Z = true) (hP : Pl ps) (hF : SymV F) (hz : ∀ i, i < ps.length → Z[pl ps i]?.getD 0 = 0) (j : Nat) : ∀ k, k ≤ ps.length →
    synV (fto Z ps F k) j = xr (synV Z j) (sumv k (fun i => vmul (F i) (V ps i)) j)
  | 0, _ => by show _ = xr _ 0; rw [xr_zero (synV_sym hs j)]; rfl
  | k + 1, hk => by
    have hT : Sym (sumv k (fun i => vmul (F i) (V ps i)) j) := sumv_sym (fun i _ => (V_sym ps i).smul (hF i)) j
    have hV : Sym (mulI (F k) (V ps k j)) := (hF k).mul (V_sym ps k j)
    show synV ((fto Z ps F k).set (pl ps k) (F k)) j = xr _ (xr _ (mulI (F k) (V ps k j)))
    have e1 : (fto Z ps F k)[pl ps k]?.getD 0 = 0 := by rw [fto_other k fun i hi => pl_ne hP hi (by omega)]; exact hz k (by omega)
    rw [synV_set (fto_symL hs hF k) (by rw [fto_len, hl]; exact pl_lt hP (by omega)) (hF k), e1, zero_xr (hF k), synV_fto hl hs hP hF hz j k (by omega), ← pl_cast hP (by omega), ← xr_assoc (synV_sym hs j) hT hV]
    rfl
theorem fill_isCW {xs ps : List Int} (hl : xs.length = 15) (hs : symL xs = true) (hP : Pl ps) (hok : fillOk xs ps = true) : CW (fillR xs ps) := by
  have hZl : (zto xs ps ps.length).length = 15 := by rw [zto_len]; exact hl
  have hZs := zto_sym hs (ps := ps) ps.length
  have hF := fin_sym hP (synV_sym hZs)
  have hok2 := hok
  unfold fillOk at hok
  have sp := sol_spec hP (synV_sym hZs) hok
  refine ⟨by rw [fillR_len]; exact hl, ?_, fun j hj => ?_⟩
  · unfold fillR; rw [if_pos hok2]; exact fto_symL hZs hF _
  · unfold fillR
    rw [if_pos hok2, synV_fto hZl hZs hP hF (fun i hi => by rw [zto_at _ _ hi (by rw [hl]; exact pl_lt hP hi)]; rfl) j _ (Nat.le_refl _), sp j hj]
    exact xr_self (comb_sym hF j)
theorem fill_agree {xs ps : List Int} (hP : Pl ps) : agree (fillR xs ps) xs ps := by
  refine ⟨fillR_len _ _, fun q hq => ?_⟩
  unfold fillR
  split
  · rw [fto_other _ (not_pl hP hq), zto_other _ (not_pl hP hq)]
  · rw [zto_other _ (not_pl hP hq)]
theorem agree.trans {a b c us vs ws : List Int} (h : agree a b us) (k : agree b c vs) (hu : ∀ x ∈ us, x ∈ ws) (hv : ∀ x ∈ vs, x ∈ ws) : agree a c ws :=
  ⟨h.1.trans k.1, fun q hq => (h.2 q fun e => hq (hu _ e)).trans (k.2 q fun e => hq (hv _ e))⟩
theorem pl_union {ps qs : List Int} (hp : Pl ps) (hq : Pl qs) (h : ps.length + qs.length ≤ 4) : ∃ us, Pl us ∧ (∀ x ∈ ps, x ∈ us) ∧ ∀ x ∈ qs, x ∈ us := by
  refine ⟨ps ++ qs.filter (fun x => !ps.contains x), ⟨?_, ?_, ?_⟩, fun x hx => List.mem_append_left _ hx, fun x hx => ?_⟩
  · have := List.length_filter_le (fun x => !ps.contains x) qs
    rw [List.length_append]; omega
  · intro p hm
    rcases List.mem_append.1 hm with h1 | h1
    · exact hp.rng p h1
    · exact hq.rng p (List.mem_filter.1 h1).1
  · rw [List.nodup_append]
    refine ⟨hp.nodup, hq.nodup.filter _, fun a ha b hb e => ?_⟩
    have := (List.mem_filter.1 hb).2
    rw [← e] at this
    simp [ha] at this
  · by_cases h1 : x ∈ ps
    · exact List.mem_append_left _ h1
    · exact List.mem_append_right _ (List.mem_filter.2 ⟨hx, by simp [h1]⟩)
/-- Places of at most two errors. -/
inductive Few : List Int → Prop
  | none : Few []
  | one {a : Nat} (ha : a < 15) : Few [(a : Int)]
  | two {a b : Nat} (hab : a < b) (hb : b < 15) : Few [(a : Int), (b : Int)]
theorem Few.pl {qs : List Int} (h : Few qs) : Pl qs ∧ qs.length ≤ 2 := by
  cases h with
  | none => exact ⟨pl_nil, by simp⟩
  | one ha => exact ⟨pl_one ha, by simp⟩
  | two hab hb => exact ⟨pl_two hab hb, by simp⟩
theorem dec_ne {x qs : List Int} (h : Few qs) (hok : fillOk x qs = true) : ∃ ps, dec x = some ps := by
  cases e : dec x with
  | some ps => exact ⟨ps, rfl⟩
  | none =>
    exfalso
    unfold dec at e
    split at e
    · simp at e
    · rename_i e0
      split at e
      · simp at e
      · rename_i e1
        cases h with
        | none => rw [look_zero_iff e0] at hok; simp at hok
        | one ha => rw [look_one_none e1 _ ha] at hok; simp at hok
        | two hab hb =>
          rename_i a b
          have h1 := lk_none _ _ e a (Nat.zero_le _) (by omega)
          have h2 := lk_none _ _ h1 b (by omega) (by omega)
          have h3 := look_zero_iff h2
          simp only [List.nil_append, List.singleton_append] at h3
          rw [h3] at hok; simp at hok
theorem dec_cw {x c qs : List Int} (hc : CW c) (hl : x.length = 15) (hs : symL x = true) (hQ : Few qs) (h : agree x c qs) : ∃ ps, dec x = some ps ∧ fillR x ps = c ∧ ps.length ≤ 2 := by
  obtain ⟨hP, hq2⟩ := hQ.pl
  obtain ⟨ps, hd⟩ := dec_ne hQ (erase_cw hc hP h).1
  obtain ⟨p1, p2, p3⟩ := dec_some hd
  obtain ⟨us, u1, u2, u3⟩ := pl_union p1 hP (by omega)
  exact ⟨ps, hd, cw_eq (fill_isCW hl hs p1 p2) hc u1 ((fill_agree p1).trans h u2 u3), p3⟩
theorem enc_cw {data : List Int} (hl : data.length = 11) (hs : symL data = true) : CW (encL data) :=
  fill_isCW (by simp [blk0, hl]) (blk0_sym hs) pl0 (solOk0 _)
theorem enc_drop {data : List Int} : (encL data).drop 4 = data := by
  rw [encL_eq]; unfold solR; rw [solOk0, if_pos rfl]; simp [sol, ps0]
theorem cw_syn {c : List Int} (h : CW c) : syn c = [0, 0, 0, 0] := by
  show [synV c 0, synV c 1, synV c 2, synV c 3] = _
  rw [h.syn 0 (by omega), h.syn 1 (by omega), h.syn 2 (by omega), h.syn 3 (by omega)]
end Go.Proofs.Ytlemielobmbadaa
