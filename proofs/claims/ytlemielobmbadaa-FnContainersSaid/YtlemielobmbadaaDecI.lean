/- Walks: the program's decoding: the parts. -/
import Derived.Test.YtlemielobmbadaaBa23
namespace Go.Proofs.Ytlemielobmbadaa
open Go.RowKit
set_option maxRecDepth 100000

theorem results_tmp4 {fn : Func} {t u v x : Tmp} (h : fn.results = #[.tmp t, .tmp u, .tmp v, .tmp x]) (tmps : Array Value) (P : Program) (w : World) :
    (results fn tmps).run P w = .ok (.tuple #[tmps.getD t undef, tmps.getD u undef, tmps.getD v undef, tmps.getD x undef]) w := by
  simp [results, h]

set_option maxHeartbeats 800000 in
set_option maxRecDepth 100000 in
theorem indexZero_any (v : Value) (xs : List Int) (w : World) (h : Rd w v xs) :
    Calls Try.prog 126 #[v, .int .i64 0] w fun e w' => e = .returned (.int .i64 (idxF xs fun v => v == 0)) ∧ w = w' := by
  obtain ⟨a, cap, n, HX, rfl, _, hla, ha⟩ := h.opn
  have HI := Lib.hid (fun k hk h e => idxF_some (xs := xs) (p := fun v => v == 0) (k := k) hk h e)
  have HN := Lib.hid (idxF_none (xs := xs) (p := fun v => v == 0))
  generalize idxF xs (fun v => v == 0) = r at *
  go_enter Try.func126, Try.ntmps126
  go_wp2
  go_loop [8] (fun i => ∃ k : Nat, k ≤ n ∧ i = .int .i64 k ∧ Hid ((xs.take k).any (fun v => v == 0) = false)) (fun i => n - (intOf i).toNat)
  case atStart => exact ⟨0, by omega, rfl, by simp [Hid]⟩
  case round =>
    obtain ⟨k, hk, rfl, HT⟩ := hrel
    by_cases hlt : k < n
    · obtain ⟨b, off, rfl, _, hc⟩ := ha (by omega)
      have hcell := hc k hlt
      clear hc
      by_cases he : xs[k]?.getD 0 = 0
      · have HE := Lib.hid (show (fun v : Int => v == 0) (xs[k]?.getD 0) = true by simp [he])
        rw [he] at hcell
        clear he
        go_wp2
        go_ret
        exact ⟨by rw [HI.out k (by rw [HX.out]; exact hlt) HT.out HE.out]; rfl, rfl⟩
      · have HE := Lib.hid (show (fun v : Int => v == 0) (xs[k]?.getD 0) = false by simp [he])
        have hne : ((0 : Int) == xs[k]?.getD 0) = false := by rw [beq_eq_false_iff_ne]; exact fun h => he h.symm
        clear he
        go_wp2
        go_round
        case rel => exact ⟨k + 1, by omega, by go_num, any_false_take (by rw [HX.out]; exact hlt) HT.out HE.out⟩
        case measure => simp [intOf]; omega
    · obtain rfl : k = n := by omega
      have hh := HT.out
      rw [← HX.out, List.take_length] at hh
      have HH := Lib.hid hh
      clear hh
      go_wp2
      go_ret
      exact ⟨by rw [HN.out HH.out]; rfl, rfl⟩

theorem containsZero_any (v : Value) (xs : List Int) (w : World) (h : Rd w v xs) :
    Calls Try.prog 112 #[v, .int .i64 0] w fun e w' => e = .returned (.bool (has0 xs)) ∧ w = w' := by
  have HG := Lib.hid (show decide (0 ≤ idxF xs fun v => v == 0) = has0 xs from idxF_geq xs _)
  have HC := Lib.hid (indexZero_any v xs w h)
  clear h
  generalize (idxF xs fun v => v == 0) = i at *
  generalize has0 xs = r at *
  go_enter Try.func112, Try.ntmps112
  go_wp2_with fail
  refine (HC.out).mono ?_
  rintro e w' ⟨rfl, rfl⟩
  go_wp2
  go_ret
  exact ⟨by rw [← HG.out]; rfl, rfl⟩

theorem cloneNil_any (w : World) : Calls Try.prog 88 #[.slice none 0 0] w fun e w' => e = .returned (.slice none 0 0) ∧ w = w' := by
  have hnil : ∀ w : World, (binOp .eql 24 (.slice none 0 0) (.slice none 0 0)).run Try.prog w = .ok (.bool true) w := fun _ => rfl
  go_enter Try.func88, Try.ntmps88
  go_wp2
  go_ret
  exact ⟨rfl, rfl⟩
theorem clone2_any (v : Value) (xs : List Int) (w : World) (h : Rd w v xs) (h0 : v = .slice none 0 0 ∨ 0 < xs.length) (hl : xs.length ≤ 1000) :
    Calls Try.prog 88 #[v] w fun e w' => ∃ v', e = .returned v' ∧ Own w' w.heap.size v' xs ∧ Below w.heap.size w w' := by
  rcases h0 with rfl | h0
  · refine (cloneNil_any w).mono ?_
    rintro e w' ⟨rfl, rfl⟩
    have hx : xs = [] := by
      rcases h with ⟨_, h⟩ | ⟨b, off, cap, h, _⟩
      · exact h
      · simp at h
    subst hx
    exact ⟨_, rfl, own_nil, Below.refl _ _⟩
  · exact clone_any v xs w h h0 (by omega)

/-- Where the closure's variables lie: the syndromes, the block, and the two that it fills. -/
structure Env (w : World) (xs : List Int) (v : Value) (W B D A : Nat) : Prop where
  rd : Rd w v xs
  c0 : w.cell? ⟨W, 0, none⟩ = some (.int .i64 (synTo xs 0 xs.length))
  c1 : w.cell? ⟨W, 1, none⟩ = some (.int .i64 (synTo xs 1 xs.length))
  c2 : w.cell? ⟨W, 2, none⟩ = some (.int .i64 (synTo xs 2 xs.length))
  c3 : w.cell? ⟨W, 3, none⟩ = some (.int .i64 (synTo xs 3 xs.length))
  cb : w.cell? ⟨B, 0, none⟩ = some v
  ltW : W < w.heap.size
  ltB : B < w.heap.size
  ltD : D < w.heap.size
  ltA : A < w.heap.size
  ne : D ≠ A
  cd : ∃ u T, w.heap[D]? = some (.cells #[u] T (0, 0))
  ca : ∃ u T, w.heap[A]? = some (.cells #[u] T (0, 0))
theorem Env.below {w w' : World} {xs : List Int} {v : Value} {W B D A : Nat} (h : Env w xs v W B D A) (hb : Below w.heap.size w w') : Env w' xs v W B D A where
  rd := h.rd.belowAll hb
  c0 := by rw [hb.cell (p := ⟨W, 0, none⟩) h.ltW]; exact h.c0
  c1 := by rw [hb.cell (p := ⟨W, 1, none⟩) h.ltW]; exact h.c1
  c2 := by rw [hb.cell (p := ⟨W, 2, none⟩) h.ltW]; exact h.c2
  c3 := by rw [hb.cell (p := ⟨W, 3, none⟩) h.ltW]; exact h.c3
  cb := by rw [hb.cell (p := ⟨B, 0, none⟩) h.ltB]; exact h.cb
  ltW := Nat.lt_of_lt_of_le h.ltW hb.size
  ltB := Nat.lt_of_lt_of_le h.ltB hb.size
  ltD := Nat.lt_of_lt_of_le h.ltD hb.size
  ltA := Nat.lt_of_lt_of_le h.ltA hb.size
  ne := h.ne
  cd := by obtain ⟨u, T, e⟩ := h.cd; exact ⟨u, T, by rw [hb.block D h.ltD]; exact e⟩
  ca := by obtain ⟨u, T, e⟩ := h.ca; exact ⟨u, T, by rw [hb.block A h.ltA]; exact e⟩
theorem Env.stores {w w' : World} {xs : List Int} {v : Value} {W B D A : Nat} (h : Env w xs v W B D A) (hb : Below w.heap.size w w') :
    ∃ u1 u2, w'.cell? ⟨D, 0, none⟩ = some u1 ∧ w'.frozen? ⟨D, 0, none⟩ = false ∧ (∀ x, (w'.setCell ⟨D, 0, none⟩ x).cell? ⟨A, 0, none⟩ = some u2) ∧ (∀ x, (w'.setCell ⟨D, 0, none⟩ x).frozen? ⟨A, 0, none⟩ = false) ∧ w'.cell? ⟨A, 0, none⟩ = some u2 ∧ w'.frozen? ⟨A, 0, none⟩ = false := by
  have h2 := h.below hb
  obtain ⟨u1, T1, e1⟩ := h2.cd
  obtain ⟨u2, T2, e2⟩ := h2.ca
  refine ⟨u1, u2, by rw [cell_of_row w' D 0 _ _ _ e1]; rfl, frozen_of_row w' D 0 _ _ e1, fun x => ?_, fun x => ?_, by rw [cell_of_row w' A 0 _ _ _ e2]; rfl, frozen_of_row w' A 0 _ _ e2⟩
  · rw [World.cell?_setCell_other _ _ _ _ (by simp; exact h.ne), cell_of_row w' A 0 _ _ _ e2]; rfl
  · rw [World.frozen?_setCell]; exact frozen_of_row w' A 0 _ _ e2
/-- What is found lies in the two variables. -/
def Found (w w' : World) (xs ps : List Int) (D A : Nat) : Prop :=
  ∃ v1 v2, w'.cell? ⟨D, 0, none⟩ = some v1 ∧ w'.cell? ⟨A, 0, none⟩ = some v2 ∧ Own w' w.heap.size v1 ((fillR xs ps).drop 4) ∧ Own w' w.heap.size v2 ps ∧ (∀ k, v1.ownBlock = some k → v2.ownBlock = some k → False) ∧
    ∀ B0, B0 ≤ D → B0 ≤ A → B0 ≤ w.heap.size → Below B0 w w'
theorem found_of {w w1 w2 w3 : World} {xs ps : List Int} {v : Value} {W B D A bb off cap cp3 : Nat} {a3 : Option Addr} {u1 u2 : Value} (b1 : Below w.heap.size w w1) (hE : Env w1 xs v W B D A) (b2 : Below w1.drew.heap.size w1.drew w2) (b3 : Below w2.heap.size w2 w3)
    (hl : (fillR xs ps).length = 15) (o2 : Own w2 w1.drew.heap.size (.slice (some ⟨bb, off, none⟩) 15 cap) (fillR xs ps)) (o3 : Own w3 w2.heap.size (.slice a3 ps.length cp3) ps) (hb1 : w1.drew.heap.size ≤ bb) (hb2 : bb < w2.heap.size)
    (q1 : w3.cell? ⟨D, 0, none⟩ = some u1) (q5 : w3.cell? ⟨A, 0, none⟩ = some u2) :
    Found w ((w3.setCell ⟨D, 0, none⟩ (.slice (some ⟨bb, off + 4, none⟩) 11 (cap - 4))).setCell ⟨A, 0, none⟩ (.slice a3 ps.length cp3)) xs ps D A := by
  have hs1 := b1.size
  have hs2 : w1.heap.size ≤ w2.heap.size := b2.size
  have hs3 := b3.size
  have hD := hE.ltD
  have hA := hE.ltA
  have hb1' : w1.heap.size ≤ bb := hb1
  have hDA : (⟨D, 0, none⟩ : Addr) ≠ ⟨A, 0, none⟩ := by simp; exact hE.ne
  have hk : ∀ q, w1.heap.size ≤ q → ((w3.setCell ⟨D, 0, none⟩ (.slice (some ⟨bb, off + 4, none⟩) 11 (cap - 4))).setCell ⟨A, 0, none⟩ (.slice a3 ps.length cp3)).heap[q]? = w3.heap[q]? := fun q hq => by
    rw [heap_setCell_other _ _ _ _ (show q ≠ A by omega), heap_setCell_other _ _ _ _ (show q ≠ D by omega)]
  refine ⟨.slice (some ⟨bb, off + 4, none⟩) 11 (cap - 4), .slice a3 ps.length cp3, ?_, World.cell?_setCell_same _ _ _ (u := u2) (by rw [World.cell?_setCell_other _ _ _ _ hDA]; exact q5), ?_, ?_, fun k h1 h2 => ?_, fun B0 h1 h2 h3 => ?_⟩
  · rw [World.cell?_setCell_other _ _ _ _ hDA.symm, World.cell?_setCell_same _ _ _ q1]
  · refine ((((o2.cut4 hl).belowAll b3).kept fun q hq => hk q ?_)).mono (show w.heap.size ≤ w1.drew.heap.size from hs1)
    have e : bb = q := by simpa [Value.ownBlock] using hq
    omega
  · refine (o3.kept fun q hq => hk q ?_).mono (by omega)
    have := (o3.lt q hq).1; omega
  · have e : bb = k := by simpa [Value.ownBlock] using h1
    have := (o3.lt k h2).1; omega
  · exact ((((((b1.mono h3).drew).trans (b2.mono (show B0 ≤ w1.drew.heap.size from (by show B0 ≤ w1.heap.size; omega)))).trans (b3.mono (by omega))).setCell (p := ⟨D, 0, none⟩) h1 _).setCell (p := ⟨A, 0, none⟩) h2 _)
def VisPost (w : World) (xs ps : List Int) (D A : Nat) (e : Ending) (w' : World) : Prop :=
  (hit xs ps = false ∧ e = .returned (.bool false) ∧ Below w.heap.size w w') ∨ (hit xs ps = true ∧ e = .returned (.bool true) ∧ Found w w' xs ps D A)

set_option maxHeartbeats 3200000 in
set_option maxRecDepth 100000 in
theorem visit_any (v vp : Value) (xs ps : List Int) (W B D A : Nat) (w : World) (hE : Env w xs v W B D A) (hp : Rd w vp ps) (hn : vp = .slice none 0 0 ∨ 0 < ps.length) (hs : symL xs = true) (hl : xs.length = 15) (hP : Pl ps) :
    Calls Try.prog 111 #[vp, .pointer (some ⟨W, 0, none⟩), .pointer (some ⟨B, 0, none⟩), .pointer (some ⟨D, 0, none⟩), .pointer (some ⟨A, 0, none⟩)] w (VisPost w xs ps D A) := by
  have h0 := hE.c0
  have h1 := hE.c1
  have h2 := hE.c2
  have h3 := hE.c3
  have HS := Lib.hid hs
  have HL := Lib.hid hl
  have HE := Lib.hid hE
  clear hs hl hE
  cases hf : fillOk xs ps
  · have hh : hit xs ps = false := by simp [hit, hf]
    go_enter Try.func111, Try.ntmps111
    go_wp2_with (go_at_call 78; refine (solvedSyn_any _ xs ps _ hp HS.out HL.out hP).mono ?_; rintro e w1 ⟨v1, rfl, o1, b1⟩; rw [hf])
    go_ret
    exact .inl ⟨hh, rfl, b1⟩
  cases hz : has0 (solR ps (synV xs))
  case true =>
    have hh : hit xs ps = false := by simp [hit, hf, hz]
    go_enter Try.func111, Try.ntmps111
    go_wp2_with (first | (go_at_call 78; refine (solvedSyn_any _ xs ps _ hp HS.out HL.out hP).mono ?_; rintro e w1 ⟨v1, rfl, o1, b1⟩; rw [hf]) | (go_at_call 112; refine (containsZero_any _ _ _ o1.rd).mono ?_; rintro e w2 ⟨rfl, rfl⟩; rw [hz]))
    go_ret
    exact .inl ⟨hh, rfl, b1⟩
  case false =>
    have hh : hit xs ps = true := by simp [hit, hf, hz]
    have HSL := Lib.hid (solR_len hP hf HL.out HS.out)
    have HSG := Lib.hid (solR_get hP hf HL.out HS.out)
    have HCF := Lib.hid (chg_fill HL.out HS.out hP hf)
    go_enter Try.func111, Try.ntmps111
    go_wp2_with (first | (go_at_call 78; refine (solvedSyn_any _ xs ps _ hp HS.out HL.out hP).mono ?_; rintro e w1 ⟨v1, rfl, o1, b1⟩; rw [hf]) | (go_at_call 112; refine (containsZero_any _ _ _ o1.rd).mono ?_; rintro e w2 ⟨rfl, rfl⟩; rw [hz]))
    have hE1 := HE.out.below b1
    have hcb := hE1.cb
    have HE1 := Lib.hid hE1
    have hp1 := hp.belowAll b1
    have hr1 := hE1.rd
    have hDA := hE1.ne
    have hAD := hE1.ne.symm
    clear hE1
    go_region_with (first
      | (go_at_call 79; refine (changed_any _ _ _ xs ps _ (fin ps (synV xs)) _ hr1.drew hp1.drew o1.rd.drew HS.out HL.out hP HSL.out HSG.out).mono ?_; rintro e w2 ⟨v2, rfl, o2, b2⟩; rw [HCF.out] at o2; obtain ⟨bb, off, cap, rfl, hb1, hb2, hc1, hc2⟩ := o2.open15 (by rw [fillR_len]; exact HL.out))
      | (go_at_call 88; refine (clone2_any _ _ _ (hp1.drew.belowAll b2) hn (by have := hP.len; omega)).mono ?_; rintro e w3 ⟨v3, rfl, o3, b3⟩; obtain ⟨a3, cp3, rfl, _, _, _⟩ := o3.rd.shape; obtain ⟨u1, u2, q1, q2, q3, q4, q5, q6⟩ := HE1.out.stores ((show Below w1.heap.size w1 w1.drew from (Below.refl _ _).drew).trans (b2.trans (b3.mono b2.size)))))
    have HF := Lib.hid (found_of b1 HE1.out b2 b3 (by rw [fillR_len]; exact HL.out) o2 o3 hb1 hb2 q1 q5)
    clear o2 o3 q1 q2 q3 q4 q5 q6 b2 b3
    go_wp2
    go_ret
    exact .inr ⟨hh, rfl, HF.out⟩

def ChoPost (w : World) (xs : List Int) (D A c k : Nat) (l : List Int) (e : Ending) (w' : World) : Prop :=
  (look (hit xs) c k l = none ∧ e = .returned (.bool false) ∧ Below w.heap.size w w') ∨ (∃ r, look (hit xs) c k l = some r ∧ e = .returned (.bool true) ∧ Found w w' xs r D A)
theorem Found.after {w w1 w' : World} {xs r : List Int} {D A : Nat} (hb : Below w.heap.size w w1) (h : Found w1 w' xs r D A) : Found w w' xs r D A := by
  obtain ⟨v1, v2, h1, h2, h3, h4, h5, h6⟩ := h
  exact ⟨v1, v2, h1, h2, h3.mono hb.size, h4.mono hb.size, h5, fun B0 a b c => (hb.mono c).trans (h6 B0 a b (Nat.le_trans c hb.size))⟩
theorem pl_snoc {l : List Int} {k : Nat} (h : Pl l) (hlt : ∀ x ∈ l, x < (k : Int)) (hk : k < 15) (hl : l.length < 4) : Pl (l ++ [(k : Int)]) := by
  refine ⟨by simp; omega, fun p hp => ?_, ?_⟩
  · rcases List.mem_append.1 hp with h1 | h1
    · exact h.rng p h1
    · have : p = (k : Int) := by simpa using h1
      omega
  · rw [List.nodup_append]
    refine ⟨h.nodup, by simp, fun a ha b hb => ?_⟩
    have : b = (k : Int) := by simpa using hb
    have := hlt a ha
    omega
theorem full_ok {w : World} {v : Value} {xs : List Int} (h : Rd w v xs) : ∃ a cap, v = .slice a xs.length cap ∧ xs.length ≤ cap ∧ (a = none → xs.length = 0 ∧ cap = 0) ∧ ∀ b, a = some b → ∀ j u, (ints xs)[j]? = some u → w.cell? (b.add j) = some u := by
  rcases h with ⟨rfl, rfl⟩ | ⟨b, off, cap, rfl, h1, h2, h3, h4⟩
  · exact ⟨none, 0, rfl, by simp, by simp, by simp⟩
  · refine ⟨_, cap, rfl, h1, by simp, fun b' hb j u hu => ?_⟩
    simp only [Option.some.injEq] at hb
    subst hb
    obtain ⟨hj, rfl⟩ := ints_get hu
    rw [show (⟨b, off, none⟩ : Addr).add j = ⟨b, off + j, none⟩ by simp [Addr.add]]
    exact h4 j hj

theorem full_opn {w : World} {v : Value} {xs : List Int} (h : Rd w v xs) : ∃ a cap n, Hid (xs.length = n) ∧ v = .slice a n cap ∧ n ≤ cap ∧ (a = none → n = 0 ∧ cap = 0) := by
  obtain ⟨a, cap, hv, h1, h2, _⟩ := full_ok h
  exact ⟨a, cap, xs.length, rfl, hv, h1, h2⟩
theorem Rd.cellsOf {w : World} {a : Option Addr} {n cap : Nat} {xs : List Int} (h : Rd w (.slice a n cap) xs) : ∀ b, a = some b → ∀ j u, (ints xs)[j]? = some u → w.cell? (b.add j) = some u := by
  obtain ⟨a', cap', hv, _, _, h4⟩ := full_ok h
  simp only [Value.slice.injEq] at hv
  obtain ⟨rfl, _, _⟩ := hv
  exact h4
set_option maxHeartbeats 3200000 in
set_option maxRecDepth 100000 in
theorem choices_any (v : Value) (xs : List Int) (W B D A : Nat) (hs : symL xs = true) (hl : xs.length = 15) : ∀ (c k : Nat) (vl : Value) (l : List Int) (w : World), Env w xs v W B D A → Rd w vl l → (vl = .slice none 0 0 ∨ 0 < l.length) → Pl l → (∀ x ∈ l, x < (k : Int)) → k ≤ 15 → l.length + c ≤ 4 →
    Calls Try.prog 110 #[.int .i64 k, .int .i64 15, .int .i64 c, vl, .func (.func 111) #[] #[.pointer (some ⟨W, 0, none⟩), .pointer (some ⟨B, 0, none⟩), .pointer (some ⟨D, 0, none⟩), .pointer (some ⟨A, 0, none⟩)]] w (ChoPost w xs D A c k l) := by
  intro c
  induction c with
  | zero =>
    intro k vl l w hE hrd hn hP hlt hk hlc
    go_enter Try.func110, Try.ntmps110
    go_wp2_with (go_at_call 111; refine (visit_any v vl xs l W B D A _ hE hrd hn hs hl hP).mono ?_; rintro e w1 (⟨h1, rfl, h2⟩ | ⟨h1, rfl, h2⟩))
    · go_ret
      exact .inl ⟨look_zero h1, rfl, h2⟩
    · go_ret
      exact .inr ⟨l, look_zero_some h1, rfl, h2⟩
  | succ c ih =>
    intro k0 vl l w hE hrd hn hP hlt hk0 hlc
    obtain ⟨i0, hi, hz0, hz1, hz2⟩ := info_parts Try.infoInt
    have HLK := Lib.hid (show look (hit xs) (c + 1) k0 l = lk (look (hit xs) c) l (15 - k0) k0 from rfl)
    have HL1 := Lib.hid hl
    have hl4 : l.length < 4 := by omega
    have HE := Lib.hid hE
    have HRD := Lib.hid hrd
    have HIH := Lib.hid ih
    have hcI : ((c : Int) + 1 == 0) = false := by rw [beq_eq_false_iff_ne]; omega
    have hc64 : (c : Int) ≤ 4 := by omega
    have hcc : ((c + 1 : Nat) : Int) = (c : Int) + 1 := by omega
    obtain ⟨al, capl, n, HN, rfl, hcap, hnone⟩ := full_opn hrd
    have hn4 : n < 4 := by rw [← HN.out]; exact hl4
    clear ih hl hE hrd
    rw [hcc]
    go_enter Try.func110, Try.ntmps110
    go_wp2
    go_loopw [11] (fun i wr => ∃ k : Nat, k ≤ 15 ∧ k0 ≤ k ∧ i = .int .i64 k ∧ Hid (look (hit xs) (c + 1) k0 l = lk (look (hit xs) c) l (15 - k) k) ∧ Hid (Below w.heap.size w wr)) (fun i _ => 15 - (intOf i).toNat)
    case atStart => exact ⟨k0, hk0, Nat.le_refl _, rfl, HLK.out, Below.refl _ _⟩
    case round =>
      obtain ⟨k, hk, hk2, rfl, HQ, HB⟩ := hrel
      by_cases hlt2 : k < 15
      · have hkI : (k : Int) < 15 := by omega
        have hsz : w.heap.size ≤ wr.heap.size := HB.out.size
        have hba : Below w.heap.size w (wr.alloc (.cells #[.int .i64 k] 3)) := HB.out.alloc hsz _
        have HOLD := Lib.hid (fun b hb j u hu => ((HRD.out.belowAll hba).cellsOf b hb j u hu))
        have hnone' : al = none → n = 0 ∧ n = 0 := fun e => ⟨(hnone e).1, (hnone e).1⟩
        have hnew : ∀ (j : Nat) u, [Value.int .i64 (k : Int)][j]? = some u → (wr.alloc (.cells #[.int .i64 k] 3)).cell? ((⟨wr.heap.size, 0, none⟩ : Addr).add j) = some u := by
          intro j u hu
          rcases j with _ | j
          · simp only [List.getElem?_cons_zero, Option.some.injEq] at hu
            subst hu
            show (wr.alloc _).cell? ⟨wr.heap.size, 0, none⟩ = _
            rw [cell_of_row _ _ _ _ _ _ (heap_alloc_new wr _)]; rfl
          · simp at hu
        have HNEW := Lib.hid hnew
        have HXK := Lib.hid hlt
        have HPL := Lib.hid hP
        clear hnew
        go_wp2_with (first
          | (at_builtin; refine wpList_append_grows _ rfl (.tmp 33) (.tmp 35) 24 rfl 3 i0 (.int .i64 0) 1 8 Try.underlying24 hi hz0 hz1 hz2 rfl (by decide) al n n (ints l) rfl hnone' (by rw [← HN.out]; simp) HOLD.out ⟨wr.heap.size, 0, none⟩ 1 1 [.int .i64 k] rfl rfl HNEW.out (by simp [Value.oneCell']) (by omega) (by unfold maxLen; omega) (by omega) ?_; intro v1 w1 hown1 hgrow1; have hB1 := hba.grown hgrow1 (by simp; omega) (fun k hk => by simp at hk); have hsz1 := hB1.size; have hrd1 := (own_of_row (xs := l ++ [(k : Int)]) (by rw [show ints (l ++ [(k : Int)]) = ints l ++ [.int .i64 k] from by simp [ints]]; exact hown1)).rd; have hcall := HIH.out (k + 1) v1 (l ++ [(k : Int)]) w1 (HE.out.below hB1) hrd1 (.inr (by simp)) (pl_snoc HPL.out (fun x hx => by have := HXK.out x hx; omega) hlt2 (by rw [HN.out]; exact hn4)) (fun x hx => by
              rcases List.mem_append.1 hx with h1 | h1
              · have := HXK.out x h1; omega
              · have : x = (k : Int) := by simpa using h1
                omega) (by omega) (by simp; omega); rw [show ((k + 1 : Nat) : Int) = (k : Int) + 1 from by omega] at hcall; clear hown1 hgrow1)
          | (go_at_call 110; refine hcall.mono ?_; rintro e w2 (⟨h1, rfl, h2⟩ | ⟨r, h1, rfl, h2⟩)))
        · have HH := Lib.hid (HQ.out.trans (lk_step hlt2 h1))
          have HB2 := Lib.hid (hB1.trans (h2.mono hsz1))
          clear h1 h2 hcall
          go_roundw
          case rel => exact ⟨k + 1, by omega, by omega, by go_num, HH.out, HB2.out⟩
          case measure => simp [intOf]; omega
        · go_ret
          exact .inr ⟨r, HQ.out.trans (lk_hit hlt2 h1), rfl, h2.after hB1⟩
      · obtain rfl : k = 15 := by omega
        go_wp2
        go_ret
        exact .inl ⟨HQ.out.trans (lk_end (Nat.le_refl _)), rfl, HB.out⟩
end Go.Proofs.Ytlemielobmbadaa
