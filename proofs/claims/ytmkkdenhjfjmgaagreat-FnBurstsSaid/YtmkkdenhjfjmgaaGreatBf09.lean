/- Joined: XVst XChs XWlk XLgt XGrw. -/
import Derived.Test.YtmkkdenhjfjmgaaGreatBf08
import Derived.Test.YtmkkdenhjfjmgaaGreatBf03
import Derived.Test.YtmkkdenhjfjmgaaGreatBf05
import Derived.Test.YtmkkdenhjfjmgaaGreatBf07
import Derived.Deep.RegionLaw
namespace Go.Proofs.YtmkkdenhjfjmgaaGreat
open Go.RowKit Go.Sort
set_option maxRecDepth 100000

/-- Only blocks of T have been written, and new ones; what T' adds is new. -/
structure Mv (T T' : Nat → Prop) (w w' : World) : Prop where
  os : w'.os = w.os
  tape : w'.tape = w.tape
  output : w'.output = w.output
  size : w.heap.size ≤ w'.heap.size
  block : ∀ g, g < w.heap.size → ¬ T g → w'.heap[g]? = w.heap[g]?
  old : ∀ g, T' g → T g ∨ w.heap.size ≤ g
theorem Mv.refl (T : Nat → Prop) (w : World) : Mv T T w w := ⟨rfl, rfl, rfl, Nat.le_refl _, fun _ _ _ => rfl, fun _ h => .inl h⟩
theorem Mv.trans {T T' T'' : Nat → Prop} {a b c : World} (h : Mv T T' a b) (k : Mv T' T'' b c) : Mv T T'' a c :=
  ⟨k.os.trans h.os, k.tape.trans h.tape, k.output.trans h.output, Nat.le_trans h.size k.size, fun g hg hn => by
    rw [k.block g (Nat.lt_of_lt_of_le hg h.size) (fun e => (h.old g e).elim hn (fun e => by omega)), h.block g hg hn], fun g hg => by
    rcases k.old g hg with e | e
    · exact h.old g e
    · exact .inr (Nat.le_trans h.size e)⟩
theorem Mv.of_below {T : Nat → Prop} {a b : World} (h : Below a.heap.size a b) : Mv T T a b := ⟨h.os, h.tape, h.output, h.size, fun k hk _ => h.block k hk, fun _ h => .inl h⟩
theorem Mv.below {T T' : Nat → Prop} {a b u : World} {N : Nat} (h : Mv T T' a b) (hb : Below N u a) (hN : N ≤ a.heap.size) (hT : ∀ g, T g → N ≤ g) : Below N u b :=
  ⟨h.os.trans hb.os, h.tape.trans hb.tape, h.output.trans hb.output, Nat.le_trans hb.size h.size, fun k hk => by rw [h.block k (Nat.lt_of_lt_of_le hk hN) (fun e => by have := hT k e; omega), hb.block k hk]⟩
theorem Own.keptM {w w' : World} {base : Nat} {v : Value} {xs : List Int} {T T' : Nat → Prop} (h : Own w base v xs) (hm : Mv T T' w w') (hT : ∀ g, v.ownBlock = some g → ¬ T g) : Own w' base v xs := by
  rcases h with h | ⟨g, off, cap, cur, rfl, h1, ⟨T, h2⟩, h3⟩
  · exact .inl h
  · exact .inr ⟨g, off, cap, cur, rfl, h1, ⟨T, by rw [hm.block g (Array.getElem?_eq_some_iff.1 h2).1 (hT g rfl)]; exact h2⟩, h3⟩
theorem ints_get {ys : List Int} {j : Nat} {v : Value} (h : (ints ys)[j]? = some v) : j < ys.length ∧ v = .int .i64 (ys[j]?.getD 0) := by
  have hj : j < ys.length := by
    have := (List.getElem?_eq_some_iff.1 h).1
    simpa using this
  refine ⟨hj, ?_⟩
  simp only [ints, List.getElem?_map, List.getElem?_eq_getElem hj, Option.map_some, Option.some.injEq] at h
  simp [List.getElem?_eq_getElem hj, h.symm]
theorem full_ok {w : World} {v : Value} {xs : List Int} (h : Rd w v xs) : ∃ a cap, v = .slice a xs.length cap ∧ xs.length ≤ cap ∧ (a = none → xs.length = 0 ∧ cap = 0) ∧ ∀ b, a = some b → ∀ j u, (ints xs)[j]? = some u → w.cell? (b.add j) = some u := by
  rcases h with ⟨rfl, rfl⟩ | ⟨b, off, cap, rfl, h1, h2, h3, h4⟩
  · exact ⟨none, 0, rfl, by simp, by simp, by simp⟩
  · refine ⟨_, cap, rfl, h1, by simp, fun b' hb j u hu => ?_⟩
    simp only [Option.some.injEq] at hb
    subst hb
    obtain ⟨hj, rfl⟩ := ints_get hu
    rw [show (⟨b, off, none⟩ : Addr).add j = ⟨b, off + j, none⟩ by simp [Addr.add]]
    exact h4 j hj
theorem full_opn {w : World} {v : Value} {xs : List Int} (h : Rd w v xs) : ∃ a cap n, Hid (xs.length = n) ∧ v = .slice a n cap ∧ n ≤ cap ∧ (a = none → n = 0 ∧ cap = 0) := by
  obtain ⟨a, cap, hv, h1, h2, _⟩ := full_ok h
  exact ⟨a, cap, xs.length, rfl, hv, h1, h2⟩
theorem Rd.cellsOf {w : World} {a : Option Addr} {n cap : Nat} {xs : List Int} (h : Rd w (.slice a n cap) xs) : ∀ b, a = some b → ∀ j u, (ints xs)[j]? = some u → w.cell? (b.add j) = some u := by
  obtain ⟨a', cap', hv, _, _, h4⟩ := full_ok h
  simp only [Value.slice.injEq] at hv
  obtain ⟨rfl, _, _⟩ := hv
  exact h4

def MvQ {σ : Type} (J : σ → (Nat → Prop) → World → Prop) (s : σ) (T : Nat → Prop) (w w' : World) : Prop := ∃ T', J s T' w' ∧ Mv T T' w w'
/-- What the visitor's walk shows. -/
structure Vis {σ : Type} (Lv : σ → Prop) (J : σ → (Nat → Prop) → World → Prop) (step : σ → List Int → σ × Bool) (n q0 q1 q2 q3 : Nat) : Prop where
  lt : ∀ s T w g, J s T w → T g → g < w.heap.size
  beh : ∀ s T w w', J s T w → Below w.heap.size w w' → J s T w'
  live : ∀ s ys, Lv s → (step s ys).2 = false → Lv (step s ys).1
  call : ∀ s T w vl ys, Lv s → J s T w → Rd w vl ys → ys.length ≤ 23 → (∀ y ∈ ys, 0 ≤ y ∧ y < (n : Int)) →
    Calls Tryz.prog 144 #[vl, ptr q0, ptr q1, ptr q2, ptr q3] w fun e w' => e = .returned (.bool (step s ys).2) ∧ MvQ J (step s ys).1 T w w'
def ChoQ {σ : Type} (J : σ → (Nat → Prop) → World → Prop) (r : σ × Bool) (T : Nat → Prop) (w : World) (e : Ending) (w' : World) : Prop := e = .returned (.bool r.2) ∧ MvQ J r.1 T w w'
theorem runV_live {σ : Type} {step : σ → List Int → σ × Bool} {Lv : σ → Prop} (h : ∀ s ys, Lv s → (step s ys).2 = false → Lv (step s ys).1) : ∀ (xs : List (List Int)) (s : σ), Lv s → (runV step xs s).2 = false → Lv (runV step xs s).1
  | [], _, hs, _ => hs
  | x :: xs, s, hs, he => by
    rw [runV_cons] at he ⊢
    split at he
    · cases he
    · rename_i e
      rw [if_neg e]
      exact runV_live h xs _ (h s x hs (by simpa using e)) he
set_option maxHeartbeats 3200000 in
theorem choices_vis {σ : Type} {Lv : σ → Prop} {J : σ → (Nat → Prop) → World → Prop} {step : σ → List Int → σ × Bool} {n q0 q1 q2 q3 : Nat} (HV : Vis Lv J step n q0 q1 q2 q3) (hn : n ≤ 23) : ∀ (c f : Nat) (vl : Value) (l : List Int) (s : σ) (T : Nat → Prop) (w : World), Lv s → J s T w → Own w 0 vl l → (∀ g, vl.ownBlock = some g → ¬ T g) → f ≤ n → l.length + c ≤ 23 → (∀ y ∈ l, 0 ≤ y ∧ y < (n : Int)) →
    Calls Tryz.prog 143 #[.int .i64 f, .int .i64 n, .int .i64 c, vl, .func (.func 144) #[] #[ptr q0, ptr q1, ptr q2, ptr q3]] w (ChoQ J (runV step (chv (iota n) c f l) s) T w) := by
  intro c
  induction c with
  | zero =>
    intro f vl l s T w hLv hJ ho hT hf hlc hy
    rw [show runV step (chv (iota n) 0 f l) s = step s l from runV_one]
    have HC := Lib.hid (HV.call s T w vl l hLv hJ ho.rd (by omega) hy)
    unfold ChoQ
    generalize step s l = r at *
    go_enter Tryz.func143, Tryz.ntmps143
    go_wp2_with (go_at_call 144; refine HC.out.mono ?_; rintro e w1 ⟨rfl, T1, h1, h2⟩)
    go_ret
    exact ⟨rfl, T1, h1, h2⟩
  | succ c ih =>
    intro f vl l s T w hLv hJ ho hT hf hlc hy
    obtain ⟨i0, hi, hz0, hz1, hz2⟩ := info_parts Tryz.infoInt
    have HQ0 := Lib.hid (show runV step (chv (iota n) (c + 1) f l) s = runV step (frm (fun k => chv (iota n) c (k + 1) (l ++ [(iota n)[k]?.getD 0])) (n - f) f) s from by show runV step (frm _ ((iota n).length - f) f) s = _; rw [iota_len])
    have HSTP := Lib.hid (fun (k : Nat) (hk : k < n) => show frm (fun k => chv (iota n) c (k + 1) (l ++ [(iota n)[k]?.getD 0])) (n - k) k = chv (iota n) c (k + 1) (l ++ [(k : Int)]) ++ frm (fun k => chv (iota n) c (k + 1) (l ++ [(iota n)[k]?.getD 0])) (n - (k + 1)) (k + 1) from by rw [frm_step hk, iota_at hk])
    have HEND := Lib.hid (show frm (fun k => chv (iota n) c (k + 1) (l ++ [(iota n)[k]?.getD 0])) (n - n) n = [] from frm_end (Nat.le_refl _))
    generalize runV step (chv (iota n) (c + 1) f l) s = R at *
    generalize frm (fun k => chv (iota n) c (k + 1) (l ++ [(iota n)[k]?.getD 0])) = FR at *
    have HIH := Lib.hid ih
    have HJ0 := Lib.hid hJ
    have HLV0 := Lib.hid hLv
    have HRL := Lib.hid (fun xs s h e => runV_live HV.live xs s h e)
    have HO0 := Lib.hid ho
    have HT0 := Lib.hid hT
    have HY0 := Lib.hid hy
    have hcI : ((c : Int) + 1 == 0) = false := by rw [beq_eq_false_iff_ne]; omega
    have hc64 : (c : Int) ≤ 23 := by omega
    have hcc : ((c + 1 : Nat) : Int) = (c : Int) + 1 := by omega
    obtain ⟨al, capl, m, HN, rfl, hcap, hnone⟩ := full_opn ho.rd
    have hm4 : m + c + 1 ≤ 23 := by rw [← HN.out]; omega
    clear ih hJ ho hT hy hlc hLv
    unfold ChoQ
    rw [hcc]
    clear hcc
    go_enter Tryz.func143, Tryz.ntmps143
    go_wp2
    go_loopw [11] (fun i wr => ∃ (k : Nat) (s' : σ) (T' : Nat → Prop), k ≤ n ∧ f ≤ k ∧ i = .int .i64 k ∧ Hid (R = runV step (FR (n - k) k) s') ∧ Hid (Lv s') ∧ Hid (J s' T' wr) ∧ Hid (Mv T T' w wr)) (fun i _ => n - (intOf i).toNat)
    case atStart => exact ⟨f, s, T, hf, Nat.le_refl _, rfl, HQ0.out, HLV0.out, HJ0.out, Mv.refl _ _⟩
    case round =>
      obtain ⟨k, s', T', hk, hk2, rfl, HQ, HLV, HJ, HM⟩ := hrel
      by_cases hlt2 : k < n
      · have hkI : (k : Int) < (n : Int) := by omega
        have hsz : w.heap.size ≤ wr.heap.size := HM.out.size
        have HOR := Lib.hid (HO0.out.keptM HM.out HT0.out)
        have hba : Below wr.heap.size wr (wr.alloc (.cells #[.int .i64 k] 3)) := (Below.refl _ _).alloc (Nat.le_refl _) _
        have HOLD := Lib.hid (fun b hb j u hu => ((HOR.out.rd.belowAll hba).cellsOf b hb j u hu))
        have hnone' : al = none → m = 0 ∧ m = 0 := fun e => ⟨(hnone e).1, (hnone e).1⟩
        have hnew : ∀ (j : Nat) u, [Value.int .i64 (k : Int)][j]? = some u → (wr.alloc (.cells #[.int .i64 k] 3)).cell? ((⟨wr.heap.size, 0, none⟩ : Addr).add j) = some u := by
          intro j u hu
          rcases j with _ | j
          · simp only [List.getElem?_cons_zero, Option.some.injEq] at hu
            subst hu
            show (wr.alloc _).cell? ⟨wr.heap.size, 0, none⟩ = _
            rw [cell_of_row _ _ _ _ _ _ (heap_alloc_new wr _)]; rfl
          · simp at hu
        have HNEW := Lib.hid hnew
        have HFR := Lib.hid (HSTP.out k hlt2)
        clear hnew
        go_wp2_with (first
          | (at_builtin; refine wpList_append_grows _ rfl (.tmp 33) (.tmp 35) 29 rfl 3 i0 (.int .i64 0) 1 8 Tryz.underlying29 hi hz0 hz1 hz2 rfl (by decide) al m m (ints l) rfl hnone' (by rw [← HN.out]; simp) HOLD.out ⟨wr.heap.size, 0, none⟩ 1 1 [.int .i64 k] rfl rfl HNEW.out (by simp [Value.oneCell']) (by omega) (by unfold maxLen; omega) (by omega) ?_; intro v1 w1 hown1 hgrow1; have hB1 := hba.grown hgrow1 (by simp) (fun k hk => by simp at hk); have hsz1 := hB1.size; have hrd1 := (own_of_row (xs := l ++ [(k : Int)]) (by rw [show ints (l ++ [(k : Int)]) = ints l ++ [.int .i64 k] from by simp [ints]]; exact hown1)); have hcall := HIH.out (k + 1) v1 (l ++ [(k : Int)]) s' T' w1 HLV.out (HV.beh _ _ _ _ HJ.out hB1) (hrd1.mono (Nat.zero_le _)) (fun g hg ht => by have h1 := HV.lt _ _ _ _ HJ.out ht; have h2 := (hrd1.lt g hg).1; simp at h2; omega) (by omega) (by rw [List.length_append, HN.out]; simp; omega) (fun x hx => by
              rcases List.mem_append.1 hx with h1 | h1
              · exact HY0.out x h1
              · have : x = (k : Int) := by simpa using h1
                omega); rw [show ((k + 1 : Nat) : Int) = (k : Int) + 1 from by omega] at hcall; generalize hX : runV step (chv (iota n) c (k + 1) (l ++ [(k : Int)])) s' = r at hcall; obtain ⟨r1, r2⟩ := r; clear hown1 hgrow1)
          | (go_at_call 143; refine hcall.mono ?_; rintro e w2 ⟨rfl, T2, h1, h2⟩; cases r2))
        · have HM2 := Lib.hid (HM.out.trans ((Mv.of_below hB1).trans h2))
          rw [HFR.out] at HQ
          have HH := Lib.hid (HQ.out.trans (runV_go (by rw [hX])))
          rw [hX] at HH
          have HJ2 := Lib.hid h1
          have HLV2 := Lib.hid (show Lv r1 from by have h := HRL.out _ s' HLV.out (by rw [hX]); rw [hX] at h; exact h)
          clear h1 h2 hX hrd1 hcall
          go_roundw
          case rel => exact ⟨k + 1, r1, T2, by omega, by omega, by go_num, HH.out, HLV2.out, HJ2.out, HM2.out⟩
          case measure => simp [intOf]; omega
        · have HM2 := Lib.hid (HM.out.trans ((Mv.of_below hB1).trans h2))
          rw [HFR.out] at HQ
          have HH := Lib.hid (HQ.out.trans (runV_stop (by rw [hX])))
          rw [hX] at HH
          have HJ2 := Lib.hid h1
          clear h1 h2 hX hrd1 hcall
          go_ret
          exact ⟨by rw [HH.out]; rfl, T2, by rw [HH.out]; exact HJ2.out, HM2.out⟩
      · obtain rfl : k = n := by omega
        have HH := Lib.hid (HQ.out)
        rw [HEND.out] at HH
        go_wp2
        go_ret
        exact ⟨by rw [HH.out]; rfl, T', by rw [HH.out]; exact HJ.out, HM.out⟩
end Go.Proofs.YtmkkdenhjfjmgaaGreat
namespace Go.Proofs.YtmkkdenhjfjmgaaGreat
open Go.RowKit Go.Sort
set_option maxRecDepth 100000

def uq (ms : List Nat) (M : Nat) (gs : List Int) : Bool := decide (uni ms gs = M)
theorem chv_end {sus : List Int} {c i : Nat} {l : List Int} (h : sus.length < i + (c + 1)) : frm (fun k => chv sus c (k + 1) (l ++ [sus[k]?.getD 0])) (sus.length - i) i = [] := by
  cases c with
  | zero => exact frm_end (by omega)
  | succ c => exact frm_nil fun k h1 h2 => chv_none (by omega)
set_option maxHeartbeats 800000 in
theorem l1OwnE_any (v : Value) (xs : List Int) (w : World) (h : Rd w v xs) (hl : xs.length ≤ 900000) :
    Calls Tryz.prog 163 #[v] w fun e w' => ∃ v', e = .returned v' ∧ w'.ownsRow w.heap.size 3 1 v' xs.length (ints xs) ∧ Below w.heap.size w w' := by
  have hb0 := ((Below.refl w.heap.size w).alloc (Nat.le_refl _) (.cells #[] 3))
  have HOWN0 := Lib.hid (World.ownsRow_lit (base := w.heap.size) (e := 3) (size := 1) w #[] 0 (Nat.le_refl _) (by simp) rfl)
  have hrd := h.belowAll hb0
  obtain ⟨a, cap, n, HN, rfl, hcap, hnone⟩ := full_opn h
  obtain ⟨a', cap', n', HN', e, _, _, hc⟩ := hrd.opn
  simp only [Value.slice.injEq] at e
  obtain ⟨rfl, rfl, rfl⟩ := e
  have HC := Lib.hid (fun h0 => by
    obtain ⟨b, off, e1, e2, e3⟩ := hc h0
    exact (⟨b, off, e1, e3⟩ : ∃ b off, a = some ⟨b, off, none⟩ ∧ ∀ j, j < n → (w.alloc (.cells #[] 3)).cell? ⟨b, off + j, none⟩ = some (.int .i64 (xs[j]?.getD 0))))
  have HNO := Lib.hid hnone
  have HB0 := Lib.hid hb0
  have hn : n ≤ 900000 := by have := HN.out; omega
  rw [HN.out]
  clear hc hrd h hb0 hl HN' hnone
  go_enter Tryz.func163, Tryz.ntmps163
  go_wp2_with (at_builtin; go_loud (refine wpList_catA rfl (.tmp 3) (.tmp 4) 29 rfl Tryz.underlying29 Tryz.infoInt w.heap.size (.slice (some ⟨w.heap.size, 0, none⟩) 0 0) 0 [] rfl HOWN0.out a n cap xs rfl HN.out HNO.out HC.out (by omega) (by simp) ?_); intro v' w1 hown1 hgrow1)
  go_ret
  exact ⟨_, rfl, by simpa using hown1, HB0.out.grown hgrow1 (by simp) (fun k hk => by have e : w.heap.size = k := (by simpa [Value.ownBlock] using hk); exact Nat.le_of_eq e)⟩
theorem row_mono {w : World} {base base' : Nat} {e : TypeId} {size : Nat} {v : Value} {n : Nat} {xs : List Value} (h : w.ownsRow base e size v n xs) (hb : base' ≤ base) : w.ownsRow base' e size v n xs :=
  ⟨h.1, h.2.imp id fun ⟨g, cap, cur, h1, h2, h3⟩ => ⟨g, cap, cur, h1, Nat.le_trans hb h2, h3⟩⟩
/-- A fresh row of lists whose elements may be older. -/
def ChR (w : World) (base : Nat) (L : List (List Int)) (v' : Value) (w' : World) : Prop := ∃ g n cap us fs, v' = .slice (some ⟨g, 0, none⟩) n cap ∧ L.length = n ∧ GrX w' w.heap.size base 29 1 (.slice (some ⟨g, 0, none⟩) n cap) n (L.map inD) us fs ∧ Below w.heap.size w w'
set_option maxHeartbeats 6400000 in
theorem l25Choose_any (ms : List Nat) (sus : List Int) (M : Nat) (hms : ∀ m ∈ ms, m < 2 ^ 12) (hsus : ∀ i : Nat, i < sus.length → 0 ≤ sus[i]?.getD 0 ∧ sus[i]?.getD 0 < ms.length) (hn : sus.length ≤ 23) :
    ∀ (c f : Nat) (vh vs vc : Value) (ch : List Int) (base : Nat) (w : World), Rd w vh (nats ms) → Rd w vs sus → Own w base vc ch → base ≤ w.heap.size → f ≤ sus.length → ch.length + c ≤ 23 → (∀ i : Nat, i < ch.length → 0 ≤ ch[i]?.getD 0 ∧ ch[i]?.getD 0 < ms.length) →
    Calls Tryz.prog 127 #[vh, vs, .int .i64 f, .int .i64 c, vc, .int .i64 M] w fun e w' => ∃ v', e = .returned v' ∧ ChR w base ((chv sus c f ch).filter (uq ms M)) v' w' := by
  intro c
  induction c with
  | zero =>
    intro f vh vs vc ch base w hh hs ho hbase hf hlc hch
    have hb1 := (Below.refl w.heap.size w).alloc (Nat.le_refl _) (.cells #[] 29)
    have HU := Lib.hid (l25Union_any vh vc ms ch _ (hh.belowAll hb1) (ho.rd.belowAll hb1) hms hch)
    have HG := Lib.hid (GrX.start (w := w) (base := w.heap.size) (lo := base) (size := 1) 29 (Nat.le_refl _))
    have HB1 := Lib.hid hb1
    have HO := Lib.hid ho
    obtain ⟨ah, ch1, nh, -, rfl, -, -, -⟩ := hh.opn
    obtain ⟨as1, cs, ns, -, rfl, -, -, -⟩ := hs.opn
    obtain ⟨ac, cc, nc, -, rfl, -, -, -⟩ := ho.rd.opn
    have HL := Lib.hid (show (chv sus 0 f ch).filter (uq ms M) = if uni ms ch = M then [ch] else [] from by
      unfold chv uq
      by_cases h : uni ms ch = M
      · simp [h]
      · simp [h])
    generalize (chv sus 0 f ch).filter (uq ms M) = L at *
    clear hh hs ho hb1 hch
    go_enter Tryz.func127, Tryz.ntmps127
    go_wp2_with fail
    generalize hw1 : w.alloc (.cells #[] 29) = w1 at *
    refine HU.out.mono ?_
    rintro e w2 ⟨rfl, rfl⟩
    by_cases hq : uni ms ch = M
    · have hqi : ((uni ms ch : Int) == (M : Int)) = true := by rw [beq_iff_eq]; omega
      have HE := Lib.hid (show L = [ch] from by rw [HL.out, if_pos hq])
      obtain ⟨fp, hels, hfp⟩ := HO.out.els (Nat.le_refl base)
      have hsz1 : w1.heap.size = w.heap.size + 1 := by rw [← hw1]; simp
      have b2 := (Below.refl w1.heap.size w1).alloc (Nat.le_refl _) (.cells #[.slice ac nc cc] 29)
      have HG2 := Lib.hid (HG.out.below b2)
      have HELS := Lib.hid ((hels.below HB1.out).below b2)
      have HFP := Lib.hid (show ∀ k ∈ [fp].flatten, k ∉ ([] : List (List Nat)).flatten ∧ (Value.slice (some ⟨w.heap.size, 0, none⟩) 0 0).ownBlock ≠ some k from fun k hk => ⟨by simp, fun e => by
        have h1 := (hfp k (by simpa using hk)).2.1
        have h2 : w.heap.size = k := by simpa [Value.ownBlock] using e
        omega⟩)
      have HCL := Lib.hid (cell_one_new w1 (.slice ac nc cc) 29)
      have HSZ2 := Lib.hid (show w.heap.size ≤ (w1.alloc (.cells #[.slice ac nc cc] 29)).heap.size by simp; omega)
      have HB2 := Lib.hid (HB1.out.trans (b2.mono HB1.out.size))
      clear hels hfp b2 hw1 hsz1
      go_wp2_with (at_builtin; go_loud (refine wpList_grx rfl (.tmp 23) (.tmp 25) 63 29 rfl Tryz.underlying63 (.slice none 0 0) 1 24 Tryz.infoRows rfl (by decide) w.heap.size base 0 (.slice (some ⟨w.heap.size, 0, none⟩) 0 0) [] [inD ch] [] [.slice ac nc cc] [] [fp] rfl (by simp) HG2.out HSZ2.out ⟨w1.heap.size, 0, none⟩ 1 1 rfl rfl HCL.out (by simp [Value.oneCell']) HELS.out HFP.out (by unfold maxLen; omega) (by omega) ?_); intro g cap w3 hG3 hgr3 hlie; have HG3 := Lib.hid hG3; have HB3 := Lib.hid (HB2.out.grown hgr3 HSZ2.out (fun q hq => by have : w.heap.size = q := (by simpa [Value.ownBlock] using hq); omega)); clear hG3 hgr3 hlie)
      go_ret
      exact ⟨_, rfl, g, 1, cap, _, _, rfl, by rw [HE.out]; rfl, by rw [HE.out]; exact HG3.out, HB3.out⟩
    · have hqi : ((uni ms ch : Int) == (M : Int)) = false := by rw [beq_eq_false_iff_ne]; omega
      have HE := Lib.hid (show L = [] from by rw [HL.out, if_neg hq])
      go_wp2
      go_ret
      exact ⟨_, rfl, _, 0, 0, _, _, rfl, by rw [HE.out]; rfl, by rw [HE.out]; exact HG.out, HB1.out⟩
  | succ c ih =>
    intro f vh vs vc ch base w hh hs ho hbase hf hlc hch
    have HIH := Lib.hid ih
    have HH := Lib.hid (fun w' (hb : Below w.heap.size w w') => hh.belowAll hb)
    have HS := Lib.hid (fun w' (hb : Below w.heap.size w w') => hs.belowAll hb)
    have HOC := Lib.hid (fun w' (hb : Below w.heap.size w w') => ho.rd.belowAll hb)
    have HCH := Lib.hid hch
    have HSUS := Lib.hid hsus
    have hb1 := (Below.refl w.heap.size w).alloc (Nat.le_refl _) (.cells #[] 29)
    have HG0 := Lib.hid (GrX.start (w := w) (base := w.heap.size) (lo := base) (size := 1) 29 (Nat.le_refl _))
    have HB1 := Lib.hid hb1
    have HLEN := Lib.hid (show ((chv sus (c + 1) f ch).filter (uq ms M)).length ≤ 8388608 from Nat.le_trans (List.length_filter_le _ _) (Nat.le_trans chv_len (Nat.le_trans (Nat.pow_le_pow_right (by omega) (show sus.length - f ≤ 23 by omega)) (Nat.le_refl (2 ^ 23)))))
    have HQ0 := Lib.hid (show (chv sus (c + 1) f ch).filter (uq ms M) = (frm (fun k => chv sus c (k + 1) (ch ++ [sus[k]?.getD 0])) (sus.length - f) f).filter (uq ms M) from rfl)
    have HSTP := Lib.hid (fun (k : Nat) (hk : k < sus.length) => show frm (fun k => chv sus c (k + 1) (ch ++ [sus[k]?.getD 0])) (sus.length - k) k = chv sus c (k + 1) (ch ++ [sus[k]?.getD 0]) ++ frm (fun k => chv sus c (k + 1) (ch ++ [sus[k]?.getD 0])) (sus.length - (k + 1)) (k + 1) from frm_step hk)
    have HEND := Lib.hid (fun (i : Nat) (h : sus.length < i + (c + 1)) => show frm (fun k => chv sus c (k + 1) (ch ++ [sus[k]?.getD 0])) (sus.length - i) i = [] from chv_end h)
    obtain ⟨ah, ch1, nh, -, rfl, -, -, -⟩ := hh.opn
    obtain ⟨as1, cs, n, HN, rfl, -, hns, hcs0⟩ := hs.opn
    obtain ⟨ac, cc, nc, HNC, rfl, -, -, -⟩ := ho.rd.opn
    have HCS := Lib.hid hcs0
    rw [HN.out] at HQ0 HSTP HEND HSUS
    have hn23 : n ≤ 23 := by rw [← HN.out]; exact hn
    have hfn : f ≤ n := by rw [← HN.out]; exact hf
    have hnc : nc + c + 1 ≤ 23 := by rw [← HNC.out]; omega
    have HNS := Lib.hid hn
    have HHF := Lib.hid HN.out
    generalize (chv sus (c + 1) f ch).filter (uq ms M) = L at *
    generalize frm (fun k => chv sus c (k + 1) (ch ++ [sus[k]?.getD 0])) = FR at *
    have hcI : ((c : Int) + 1 == 0) = false := by rw [beq_eq_false_iff_ne]; omega
    have hcc : ((c + 1 : Nat) : Int) = (c : Int) + 1 := by omega
    have hc64 : (c : Int) ≤ 23 := by omega
    have hwc : IntKind.i64.wrap (c : Int) = (c : Int) := IntWalk.i64_in _ (by omega)
    clear ih hh hs ho hb1 hch hsus hcs0 hf hlc hn
    rw [hcc]
    clear hcc
    go_enter Tryz.func127, Tryz.ntmps127
    go_wp2
    generalize w.alloc (.cells #[] 29) = w1 at *
    go_loopw [13, 14] (fun s13 i wr => ∃ (k g m cap : Nat) (acc : List (List Int)) (us : List Value) (fs : List (List Nat)), k ≤ n ∧ i = .int .i64 k ∧ s13 = .slice (some ⟨g, 0, none⟩) m cap ∧ Hid (acc.length = m) ∧ Hid (L = acc ++ (FR (n - k) k).filter (uq ms M)) ∧ Hid (GrX wr w.heap.size base 29 1 (.slice (some ⟨g, 0, none⟩) m cap) m (acc.map inD) us fs) ∧ Hid (Below w.heap.size w wr)) (fun _ i _ => n + 1 - (intOf i).toNat)
    case atStart => exact ⟨f, w.heap.size, 0, 0, [], [], [], hfn, rfl, rfl, rfl, HQ0.out, HG0.out, HB1.out⟩
    case round =>
      obtain ⟨k, g, m, cap, acc, us, fs, hk, rfl, rfl, HM, HL, HG, HB⟩ := hrel
      by_cases hlt : k + (c + 1) ≤ n
      · have hltI : (k : Int) + ((c : Int) + 1) ≤ (n : Int) := by omega
        have hkn : k < n := by omega
        have hknI : (k : Int) < (n : Int) := by omega
        obtain ⟨bs, offs, rfl, hbs, hcs⟩ := HCS.out (by omega)
        have y0 : wr.drew.cell? ⟨bs, offs + k, none⟩ = some (.int .i64 (sus[k]?.getD 0)) := (HB.out.cell (p := ⟨bs, offs + k, none⟩) hbs).trans (hcs k hkn)
        have hbsw : bs < wr.drew.heap.size := Nat.lt_of_lt_of_le hbs HB.out.size
        have HX := Lib.hid (HSUS.out k hkn)
        have HST := Lib.hid (HSTP.out k hkn)
        have bel0 : Below wr.heap.size wr wr.drew := (Below.refl wr.heap.size wr).drew
        have HOW := Lib.hid (fun w' (hb : Below wr.heap.size wr w') => show Calls Tryz.prog 163 #[.slice ac nc cc] w' (fun e w5 => ∃ v5, e = .returned v5 ∧ w5.ownsRow wr.heap.size 3 1 v5 nc (ints ch) ∧ Below wr.heap.size wr w5 ∧ Below w'.heap.size w' w5) from (l1OwnE_any _ ch w' ((HOC.out wr HB.out).belowAll hb) (by rw [HNC.out]; omega)).mono (by
          rintro e w5 ⟨v5, rfl, r5, b5⟩
          rw [HNC.out] at r5
          exact ⟨v5, rfl, row_mono r5 hb.size, hb.trans (b5.mono hb.size), b5⟩))
        have HCK := Lib.hid (fun (w6 : World) (v6 : Value) (o6 : Own w6 wr.heap.size v6 (ch ++ [sus[k]?.getD 0])) (b6 : Below wr.heap.size wr w6) => HIH.out (k + 1) (.slice ah nh ch1) (.slice (some ⟨bs, offs, none⟩) n cs) v6 (ch ++ [sus[k]?.getD 0]) wr.heap.size w6 ((HH.out wr HB.out).belowAll b6) ((HS.out wr HB.out).belowAll b6) o6 b6.size (by rw [HHF.out]; omega) (by rw [List.length_append, HNC.out]; simp; omega) (fun i hi => by
          by_cases h : i < ch.length
          · rw [List.getElem?_append_left h]; exact HCH.out i h
          · have e : i = ch.length := by rw [List.length_append] at hi; simp at hi; omega
            rw [List.getElem?_append_right (by omega), e, Nat.sub_self]
            exact HX.out))
        rw [show ((k + 1 : Nat) : Int) = (k : Int) + 1 from by omega] at HCK
        have HLB := Lib.hid (show acc.length + ((chv sus c (k + 1) (ch ++ [sus[k]?.getD 0])).filter (uq ms M)).length ≤ 8388608 from by
          have h1 := HLEN.out
          rw [HL.out, HST.out, List.filter_append, List.length_append, List.length_append] at h1
          omega)
        clear hcs hbs
        generalize sus[k]?.getD 0 = x at *
        generalize hX7 : (chv sus c (k + 1) (ch ++ [x])).filter (uq ms M) = L7 at *
        have hl0 : (wr.drew.alloc (.cells #[.int .i64 x] 3)).cell? ⟨wr.heap.size, 0, none⟩ = some (.int .i64 x) := by
          show (wr.drew.alloc (.cells #[.int .i64 x] 3)).cell? ⟨wr.drew.heap.size, 0, none⟩ = _
          rw [cell_of_row _ _ _ _ _ _ (heap_alloc_new wr.drew _)]; rfl
        have hsl : wr.heap.size < (wr.drew.alloc (.cells #[.int .i64 x] 3)).heap.size := by simp
        have HNEW := Lib.hid (fun (W : World) => show (W.alloc (.cells #[.int .i64 x] 3)).cell? ⟨W.heap.size, 0, none⟩ = some (.int .i64 x) from by rw [cell_of_row _ _ _ _ _ _ (heap_alloc_new W _)]; rfl)
        have hwrb : w.heap.size ≤ wr.heap.size := HB.out.size
        have HX7 := Lib.hid hX7
        clear hlt hX7
        have hwk : IntKind.i64.wrap ((k : Int) + 1) = (k : Int) + 1 := IntWalk.i64_in _ (by omega)
        go_wp2
        go_region_law (first
          | ((refine step_of_list rfl ?_); (with_reducible show wpList _ _ _ (⟨some 51, _, _, _, _, _⟩ :: _) _ _); (go_loud (refine wpList_catA rfl (.tmp 45) (.tmp 50) 29 rfl Tryz.underlying29 Tryz.infoInt wr.heap.size v5 nc ch (by rfl) (by first | exact r5 | exact r5.alloc _) _ 1 _ [x] (by rfl) rfl (fun e => by cases e) (fun _ => ⟨_, 0, rfl, one_cell (by first | exact l5 | exact HNEW.out _)⟩) (by omega) (by first | exact B5.size | exact size_alloc B5.size) ?_)); (intro v6 w6 r6 g6); (have B6 := Below.grown (by first | exact B5 | exact B5.alloc B5.size _) g6 (by first | exact B5.size | exact size_alloc B5.size) (fun q hq => (r5.lt q hq).1)); (have o6 := own_of_row r6); (obtain ⟨a6, c6, n6, -, rfl, -⟩ := o6.rd.opn); (unfold wpList); (refine ⟨rfl, ?_⟩))
          | ((refine step_of_list rfl ?_); (with_reducible show wpList _ _ _ (⟨some 54, _, _, _, _, _⟩ :: _) _ _); (go_loud (refine wpList_grx rfl (.tmp 37) (.tmp 53) 63 29 rfl Tryz.underlying63 (.slice none 0 0) 1 24 Tryz.infoRows rfl (by decide) w.heap.size base m (.slice (some ⟨g, 0, none⟩) m cap) (acc.map inD) (L7.map inD) us us7 fs fs7 (by rfl) (by simp) (HG.out.below B7) (Nat.le_trans hwrb B7.size) ⟨g7, 0, none⟩ n7 cap7 (by rfl) G7.row.1 G7.cells (rows_one G7) (G7.e.mono (Nat.le_trans hbase hwrb)) (fun q hq => ⟨fun h => by have h1 := G7.e.lo q hq; have h2 := HG.out.lt q (.inr h); omega, fun h => by have h1 := G7.e.lo q hq; have h2 := HG.out.lt q (.inl h); omega⟩) (by have := HLB.out; have := HM.out; unfold maxLen; omega) (by have := HLB.out; have := HM.out; omega) ?_)); (intro g8 cap8 w8 G8 gr8 lie8); (have B8 := (HB.out.trans (B7.mono hwrb)).grown gr8 (Nat.le_trans hwrb B7.size) (fun q hq => (HG.out.row.lt q hq).1)); (unfold wpList); (refine ⟨rfl, ?_⟩))
          | (go_simp; go_at_call 163; refine (HOW.out _ (by first | exact bel0 | exact bel0.alloc bel0.size _)).mono ?_; rintro e w5 ⟨v5, rfl, r5, B5, b5⟩; first | (have y5 := (b5.cell (p := ⟨bs, offs + k, none⟩) hbsw).trans y0) | (have l5 := (b5.cell (p := ⟨wr.heap.size, 0, none⟩) hsl).trans hl0))
          | (go_simp; go_at_call 127; go_loud (with_reducible refine (HCK.out w6 _ o6 B6).mono ?_); rintro e w7 ⟨v7, rfl, h7⟩; obtain ⟨g7, n7, cap7, us7, fs7, rfl, hl7, G7, b7⟩ := h7; have B7 := B6.trans (b7.mono B6.size)))
        all_goals
          clear hwk
          have HG8 := Lib.hid G8
          have HB8 := Lib.hid B8
          have HL8 := Lib.hid hl7
          have HLX := Lib.hid (show L = (acc ++ L7) ++ (FR (n - (k + 1)) (k + 1)).filter (uq ms M) from by rw [HL.out, HST.out, List.filter_append, List.append_assoc, HX7.out])
          clear G8 B8 hl7 G7 b7 B7 gr8 lie8
          go_wp2
          go_roundw
          case rel => exact ⟨k + 1, g8, m + n7, cap8, acc ++ L7, us ++ us7, fs ++ fs7, by omega, by go_num, rfl, (show (acc ++ L7).length = m + n7 by rw [List.length_append, HM.out, HL8.out]), HLX.out, by rw [List.map_append]; exact HG8.out, HB8.out⟩
          case measure => simp [intOf]; omega
      · have hltI : ¬ (k : Int) + ((c : Int) + 1) ≤ (n : Int) := by omega
        have HE := Lib.hid (show L = acc from by rw [HL.out, HEND.out k (by omega)]; simp)
        clear hlt
        go_wp2
        go_ret
        exact ⟨_, rfl, g, m, cap, us, fs, rfl, by rw [HE.out]; exact HM.out, by rw [HE.out]; exact HG.out, HB.out⟩
end Go.Proofs.YtmkkdenhjfjmgaaGreat
namespace Go.Proofs.YtmkkdenhjfjmgaaGreat
open Go.RowKit Go.Sort
set_option maxRecDepth 100000
theorem below_mono2 {w2 wr wx : World} (h : Below wr.heap.size wr wx) (h2 : Below w2.heap.size w2 wr) : Below w2.heap.size w2 wx := h2.trans (h.mono h2.size)
set_option maxHeartbeats 3200000 in
theorem l4Walk_any (u1 u2 v3 : Value) (n : Net) (r : Rou) (w : World) (h : NetR w (.agg #[u1, u2]) n) (hr : Rd w v3 r.fb) (hl : r.fb.length ≤ 1100000) :
    Calls Tryz.prog 209 #[.agg #[u1, u2], .agg #[.int .i64 r.st, v3]] w (VisP (rouN n r) w) := by
  obtain ⟨x1, x2, e, r1, r2, hsm⟩ := h
  simp only [Value.agg.injEq, Array.mk.injEq, List.cons.injEq, and_true] at e
  obtain ⟨rfl, rfl⟩ := e
  obtain ⟨a1, m1, c1, rfl, HN1, hc1, hm1, -⟩ := flt_opn (m := 1) (enc := strE) (fun _ => rfl) (by omega) nilS r1
  obtain ⟨a2, m2, c2, rfl, HN2, hc2, hm2, ha2⟩ := flt_opn (m := 4) (enc := fibE) (fun _ => rfl) (by omega) nilB r2
  obtain ⟨a3, c3, m3, HN3, rfl, hc3, hm3, ha3⟩ := hr.opn
  have HO1 := Lib.hid (@rouN_no1 n r)
  have HO2 := Lib.hid (@rouN_no2 n r)
  have HO3 := Lib.hid (@rouN_go n r)
  rw [HN1.out] at HO1 HO3
  rw [HN3.out] at HO2 HO3
  have HR2 := Lib.hid r2
  have HX := Lib.hid (fun w' a m c (hb : Below w.heap.size w w') (e : rouN n r = none) => @VisP.no (rouN n r) w w' a m c e hb)
  have HY := Lib.hid (fun w' a m c xs (hb : Below w.heap.size w w') (ho : Own w' w.heap.size (.slice a m c) xs) (e : rouN n r = some xs) => @VisP.yes (rouN n r) w w' a m c xs e ho hb)
  have h10 : m3 ≤ 1100000 := by have := HN3.out; omega
  have HA2 := Lib.hid ha2
  have HA3 := Lib.hid ha3
  obtain ⟨bx, bc, blt, -⟩ := box_facts w #[.slice a1 m1 c1, .slice a2 m2 c2] 35
  obtain ⟨by', bd, bmt, -⟩ := box_facts (w.alloc (.cells #[.slice a1 m1 c1, .slice a2 m2 c2] 35)) #[.int .i64 r.st, .slice a3 m3 c3] 90
  have q0 := (by'.cell (p := ⟨w.heap.size, 0, none⟩) blt).trans (bc 0 _ rfl)
  have q1 := (by'.cell (p := ⟨w.heap.size, 1, none⟩) blt).trans (bc 1 _ rfl)
  have q2 := bd 0 _ rfl
  have q3 := bd 1 _ rfl
  have hs1 : (w.alloc (.cells #[.slice a1 m1 c1, .slice a2 m2 c2] 35)).heap.size = w.heap.size + 1 := by simp
  rw [hs1] at q2 q3 bmt
  have HBX := Lib.hid (bx.trans (by'.mono bx.size))
  have blt2 := Nat.lt_of_lt_of_le blt by'.size
  clear bc bd bx by' hs1 ha2 ha3 r1 r2 blt hr
  go_enter Tryz.func209, Tryz.ntmps209
  have hs2 : ((w.alloc (.cells #[.slice a1 m1 c1, .slice a2 m2 c2] 35)).alloc (.cells #[.int .i64 r.st, .slice a3 m3 c3] 90)).heap.size = w.heap.size + 1 + 1 := by simp
  have HO0 := Lib.hid (show Own (((w.alloc (.cells #[.slice a1 m1 c1, .slice a2 m2 c2] 35)).alloc (.cells #[.int .i64 r.st, .slice a3 m3 c3] 90)).alloc (.cells #[.int .i64 r.st] 3)) ((w.alloc (.cells #[.slice a1 m1 c1, .slice a2 m2 c2] 35)).alloc (.cells #[.int .i64 r.st, .slice a3 m3 c3] 90)).heap.size (.slice (some ⟨w.heap.size + 1 + 1, 0, none⟩) 1 1) [r.st] by rw [← hs2]; exact own_one _ r.st 3)
  have HB0 := Lib.hid ((Below.refl ((w.alloc (.cells #[.slice a1 m1 c1, .slice a2 m2 c2] 35)).alloc (.cells #[.int .i64 r.st, .slice a3 m3 c3] 90)).heap.size ((w.alloc (.cells #[.slice a1 m1 c1, .slice a2 m2 c2] 35)).alloc (.cells #[.int .i64 r.st, .slice a3 m3 c3] 90))).alloc (Nat.le_refl _) (.cells #[.int .i64 r.st] 3))
  clear hs2
  have t0 := (HB0.out.cell blt2).trans q0
  have t1 := (HB0.out.cell blt2).trans q1
  have t2 := (HB0.out.cell bmt).trans q2
  have t3 := (HB0.out.cell bmt).trans q3
  cases hin : inB r.st 0 ((m1 : Int) - 1)
  · have HE := Lib.hid (HO1.out hin)
    go_wp2_with (go_at_call 86; refine (l1In_any _ _ _ _).mono ?_; rintro e w' ⟨rfl, rfl⟩; rw [hin])
    go_ret2
    exact HX.out _ _ _ _ (HBX.out.trans (HB0.out.mono HBX.out.size)) HE.out
  by_cases h0 : m3 = 0
  · have HE := Lib.hid (HO2.out h0)
    have b1 : ((m3 : Int) == 0) = true := by rw [beq_iff_eq]; omega
    have b2 : decide ((m3 : Int) = 0) = true := decide_eq_true (by omega)
    clear h0
    go_wp2_with (go_at_call 86; refine (l1In_any _ _ _ _).mono ?_; rintro e w' ⟨rfl, rfl⟩; rw [hin])
    go_ret2
    exact HX.out _ _ _ _ (HBX.out.trans (HB0.out.mono HBX.out.size)) HE.out
  have HE := Lib.hid (HO3.out hin h0)
  have b1 : ((m3 : Int) == 0) = false := by rw [beq_eq_false_iff_ne]; omega
  have b2 : decide ((m3 : Int) = 0) = false := decide_eq_false (by omega)
  clear h0
  go_wp2_with (go_at_call 86; refine (l1In_any _ _ _ _).mono ?_; rintro e w' ⟨rfl, rfl⟩; rw [hin])
  generalize (w.alloc (.cells #[.slice a1 m1 c1, .slice a2 m2 c2] 35)).alloc (.cells #[.int .i64 r.st, .slice a3 m3 c3] 90) = w2 at *
  generalize w2.alloc (.cells #[.int .i64 r.st] 3) = w3 at *
  have blt3 := Nat.lt_of_lt_of_le blt2 HB0.out.size
  have bmt3 := Nat.lt_of_lt_of_le bmt HB0.out.size
  clear b1 b2 hin t0 t1 t2 t3
  go_loopw [6, 7, 8] (fun s6 i _ wr => ∃ (k : Nat) (out : List Int) (t : Int), k ≤ m3 ∧ i = .int .i64 k ∧ Hid (out[k]?.getD 0 = t) ∧ Hid (Own wr w2.heap.size s6 out) ∧ Hid (out.length = k + 1) ∧ Hid (wlk n [r.st] r.st r.fb = wlk n out t (r.fb.drop k)) ∧ Hid (Below w2.heap.size w2 wr)) (fun _ i _ _ => m3 - (intOf i).toNat)
  case atStart => exact ⟨0, [r.st], r.st, Nat.zero_le _, rfl, rfl, HO0.out, rfl, rfl, HB0.out⟩
  case round =>
    obtain ⟨k, out, t, hk, rfl, HLT, HOW, HLN, HW, HB⟩ := hrel
    obtain ⟨aR, cR, nR, HNR, rfl, hcR, hnR, hcl⟩ := HOW.out.rd.opn
    by_cases hlt : k < m3
    · have hltI : (k : Int) < (m3 : Int) := by omega
      have HST := Lib.hid (wlk_step (n := n) (out := out) (t := t) (xs := r.fb) (k := k) (by rw [HN3.out]; exact hlt))
      rw [HN2.out] at HST
      obtain ⟨b, off, rfl, hbs, hcs⟩ := HA3.out (by omega)
      have p0 := (HB.out.cell (p := ⟨w.heap.size, 0, none⟩) blt2).trans q0
      have p1 := (HB.out.cell (p := ⟨w.heap.size, 1, none⟩) blt2).trans q1
      have p2 := (HB.out.cell (p := ⟨w.heap.size + 1, 0, none⟩) bmt).trans q2
      have p3 := (HB.out.cell (p := ⟨w.heap.size + 1, 1, none⟩) bmt).trans q3
      have c0 := (HB.out.cell (p := ⟨b, off + k, none⟩) (Nat.lt_of_lt_of_le hbs HBX.out.size)).trans ((HBX.out.cell (p := ⟨b, off + k, none⟩) hbs).trans (hcs k hlt))
      have hnk : nR = k + 1 := by have := HNR.out; have := HLN.out; omega
      have hkR : k < nR := by omega
      have hkRI : (k : Int) < (nR : Int) := by omega
      have f1w : IntKind.i64.wrap ((nR : Int) - 1) = (k : Int) := by rw [IntWalk.i64_in _ (by omega)]; omega
      obtain ⟨bo, oo, rfl, hbo, hco⟩ := hcl (by omega)
      have k0 := hco k hkR
      rw [HLT.out] at k0
      have f2w : IntKind.i64.wrap ((m2 : Int) - 1) = (m2 : Int) - 1 := IntWalk.i64_in _ (by omega)
      clear hnk hco
      clear hcs
      generalize r.fb[k]?.getD 0 = x at *
      cases hix : inB x 0 ((m2 : Int) - 1)
      · rw [hix] at HST
        have HF := Lib.hid (HE.out.trans (HW.out.trans HST.out))
        have HIN := Lib.hid (fun w => l1In_any x 0 ((m2 : Int) - 1) w)
        rw [hix] at HIN
        clear hix
        go_wp2
        have j1 := rg p1
        have j3 := rg p3
        have jc := rg c0
        clear p0 p1 p2 p3 c0 k0
        refine wp_region_quiet_below (by kernel_rfl) (by kernel_rfl) ?_
        repeat (go_big_quiet_step (first | (go_at_call 86; exact rg_same (HIN.out _))))
        refine wpQuiet_nil ?_
        rintro _ ⟨⟨dq, osq⟩, rfl⟩
        have bq := below_regrown wr dq osq
        generalize grow (redrawn wr dq) osq = w4 at *
        go_wp2
        go_ret2
        exact HX.out _ _ _ _ ((HBX.out.trans (HB.out.mono HBX.out.size)).trans (bq.mono (Nat.le_trans HBX.out.size HB.out.size))) HF.out
      rw [hix] at HST
      obtain ⟨hx0, hx9⟩ := inB_true hix
      obtain ⟨j, rfl⟩ : ∃ j : Nat, x = (j : Int) := ⟨x.toNat, by omega⟩
      have hj : j < m2 := by omega
      have hjI : (j : Int) < (m2 : Int) := by omega
      have HOE := Lib.hid (fun wx (hb : Below wr.heap.size wr wx) => l2Other_any (.slice a1 m1 c1) (.slice a2 m2 c2) n j t wx ((HR2.out.behind HBX.out).behind (below_mono2 hb HB.out)) ⟨_, _, _, rfl⟩ (by rw [HN2.out]; exact hj))
      have HIN := Lib.hid (fun w => l1In_any (j : Int) 0 ((m2 : Int) - 1) w)
      rw [hix] at HIN
      unfold fbA at HOE
      have HST2 := Lib.hid (show wlk n out t (r.fb.drop k) = (if othE (n.fs[j]?.getD nilB) t < 0 ∨ othE (n.fs[j]?.getD nilB) t ∈ out then none else wlk n (out ++ [othE (n.fs[j]?.getD nilB) t]) (othE (n.fs[j]?.getD nilB) t) (r.fb.drop (k + 1))) from HST.out)
      clear HST hx0 hx9 hix
      generalize n.fs[j]?.getD nilB = f at *
      generalize othE f t = o at *
      go_wp2
      have j1 := rg p1
      have j3 := rg p3
      have jc := rg c0
      refine wp_region_quiet_below (by kernel_rfl) (by kernel_rfl) ?_
      repeat (go_big_quiet_step (first | (go_at_call 86; exact rg_same (HIN.out _))))
      refine wpQuiet_nil ?_
      rintro _ ⟨⟨dq, osq⟩, rfl⟩
      have bq := below_regrown wr dq osq
      have p0 := (bq.cell (World.block_lt_of_cell? _ _ p0)).trans p0
      have p1 := j1 dq osq
      have p3 := j3 dq osq
      have c0 := jc dq osq
      have k0 := (bq.cell (World.block_lt_of_cell? _ _ k0)).trans k0
      clear j1 j3 jc
      have HBQ := Lib.hid bq
      generalize grow (redrawn wr dq) osq = wq at *
      go_wp2
      have j0 := rg p0
      have j1 := rg p1
      have j3 := rg p3
      have jc := rg c0
      have jk := rg k0
      have HOQ := Lib.hid (fun d os => HOE.out (grow (redrawn wq d) os) (HBQ.out.trans ((below_regrown wq d os).mono HBQ.out.size)))
      clear p0 p1 p3 c0 k0 bq
      refine wp_region_quiet_below (by kernel_rfl) (by kernel_rfl) ?_
      repeat (go_big_quiet_step (first | (go_at_call 194; exact Calls.regrown_of (HOQ.out _ _))))
      refine wpQuiet_nil ?_
      rintro _ ⟨⟨dq2, osq2⟩, rfl⟩
      have b4 := HBQ.out.trans ((below_regrown wq dq2 osq2).mono HBQ.out.size)
      generalize grow (redrawn wq dq2) osq2 = w4 at *
      clear j0 j1 j3 jc jk
      have HB4 := Lib.hid (HB.out.trans (b4.mono HB.out.size))
      have HOW4 := Lib.hid (HOW.out.belowAll b4)
      have HC4 := Lib.hid (l1Has_any _ out o w4 HOW4.out.rd)
      clear b4 HOE
      by_cases ho : o < 0
      · have HF := Lib.hid (HE.out.trans (HW.out.trans (HST2.out.trans (if_pos (.inl ho)))))
        have hd : decide (o < 0) = true := decide_eq_true ho
        clear ho
        go_wp2
        go_ret2
        exact HX.out _ _ _ _ (HBX.out.trans (HB4.out.mono HBX.out.size)) HF.out
      have hd : decide (o < 0) = false := decide_eq_false ho
      cases hcn : out.contains o
      case true =>
        have HF := Lib.hid (HE.out.trans (HW.out.trans (HST2.out.trans (if_pos (.inr (List.contains_iff_mem.1 hcn))))))
        rw [hcn] at HC4
        clear ho
        go_wp2_with (go_at_call 97; refine (HC4.out).mono ?_; rintro e w' ⟨rfl, rfl⟩)
        go_ret2
        exact HX.out _ _ _ _ (HBX.out.trans (HB4.out.mono HBX.out.size)) HF.out
      have HF := Lib.hid (HW.out.trans (HST2.out.trans (if_neg (fun h => h.elim ho (fun h => by rw [List.contains_iff_mem.2 h] at hcn; cases hcn)))))
      rw [hcn] at HC4
      clear ho hcn
      have HLO := Lib.hid (show out.length ≤ 4000000 by have := HLN.out; omega)
      go_wp2_with (first
        | (go_at_call 97; refine (HC4.out).mono ?_; rintro e w' ⟨rfl, rfl⟩)
        | (at_builtin; go_loud (refine wpList_pushI rfl (.tmp 67) (.tmp 69) 29 rfl Tryz.underlying29 Tryz.infoI w2.heap.size (.slice (some ⟨bo, oo, none⟩) nR cR) out rfl HOW4.out rfl HLO.out HB4.out.size ?_); intro v5 w5 o5 g5 l5; have HO5 := Lib.hid o5; have HB5 := Lib.hid (HB4.out.grown g5 HB4.out.size (fun q hq => (HOW4.out.lt q hq).1)); clear o5 g5 l5))
      go_roundw
      case rel => exact ⟨k + 1, out ++ [o], o, hlt, by go_num, by show (out ++ [o])[k + 1]?.getD 0 = o; rw [List.getElem?_append_right (Nat.le_of_eq HLN.out), HLN.out]; simp, HO5.out, by show (out ++ [o]).length = k + 1 + 1; rw [List.length_append, HLN.out]; rfl, HF.out, HB5.out⟩
      case measure => simp [intOf]; omega
    · obtain rfl : m3 = k := by omega
      have HF := Lib.hid (show rouN n r = some out by rw [HE.out, HW.out, List.drop_of_length_le (Nat.le_of_eq HN3.out)]; rfl)
      have p3 := (HB.out.cell (p := ⟨w.heap.size + 1, 1, none⟩) bmt).trans q3
      go_wp2
      go_ret2
      exact HY.out _ _ _ _ _ (HBX.out.trans (HB.out.mono HBX.out.size)) (HOW.out.mono HBX.out.size) HF.out
end Go.Proofs.YtmkkdenhjfjmgaaGreat
namespace Go.Proofs.YtmkkdenhjfjmgaaGreat
open Go.RowKit Go.Sort
set_option maxRecDepth 100000

theorem slice_of_net {w : World} {u1 u2 : Value} {n : Net} (h : NetR w (.agg #[u1, u2]) n) : (∃ a m c, u1 = .slice a m c) ∧ ∃ a m c, u2 = .slice a m c := by
  obtain ⟨x1, x2, e, r1, r2, _⟩ := h
  simp only [Value.agg.injEq, Array.mk.injEq, List.cons.injEq, and_true] at e
  obtain ⟨rfl, rfl⟩ := e
  exact ⟨Rdt.slice' r1, Rdt.slice' r2⟩
theorem isLight_any (u1 u2 v : Value) (n : Net) (x : Lgt) (w : World) (h : NetR w (.agg #[u1, u2]) n) (hr : Rd w v x.fb) (hl : x.fb.length ≤ 1100000) :
    Calls Tryz.prog 133 #[.agg #[u1, u2], .agg #[.int .i64 x.id, .int .i64 x.st, v, .int .i64 x.fi, .int .i64 x.ct]] w fun e w' => e = .returned (.bool (lgtOk n x)) ∧ Below w.heap.size w w' := by
  have HV := Lib.hid (fun w' (hb : Below w.heap.size w w') => visited_any u1 u2 v n ⟨x.st, x.fb⟩ w' (h.behind hb) (hr.belowAll hb) hl)
  obtain ⟨⟨a1, m1, c1, rfl⟩, a2, m2, c2, rfl⟩ := slice_of_net h
  obtain ⟨a3, c3, m3, -, rfl, -, -, -⟩ := hr.opn
  have HF := Lib.hid (show lgtOk n x = ((rouN n ⟨x.st, x.fb⟩).isSome && inB x.id 1 999 && blkOk x.fi x.ct) from rfl)
  obtain ⟨bx, bc, blt, -⟩ := box_facts w #[.slice a1 m1 c1, .slice a2 m2 c2] 35
  obtain ⟨by', bd, bmt, -⟩ := box_facts (w.alloc (.cells #[.slice a1 m1 c1, .slice a2 m2 c2] 35)) #[.int .i64 x.id, .int .i64 x.st, .slice a3 m3 c3, .int .i64 x.fi, .int .i64 x.ct] 94
  have q0 := (by'.cell (p := ⟨w.heap.size, 0, none⟩) blt).trans (bc 0 _ rfl)
  have q1 := (by'.cell (p := ⟨w.heap.size, 1, none⟩) blt).trans (bc 1 _ rfl)
  have l0 := bd 0 _ rfl
  have l1 := bd 1 _ rfl
  have l2 := bd 2 _ rfl
  have l3 := bd 3 _ rfl
  have l4 := bd 4 _ rfl
  have hs1 : (w.alloc (.cells #[.slice a1 m1 c1, .slice a2 m2 c2] 35)).heap.size = w.heap.size + 1 := by simp
  rw [hs1] at l0 l1 l2 l3 l4 bmt
  have HBX := Lib.hid (bx.trans (by'.mono bx.size))
  clear bc bd bx by' hs1 blt h hr
  generalize lgtOk n x = q at *
  go_enter Tryz.func133, Tryz.ntmps133
  go_wp2_with fail
  generalize (w.alloc (.cells #[.slice a1 m1 c1, .slice a2 m2 c2] 35)).alloc (.cells #[.int .i64 x.id, .int .i64 x.st, .slice a3 m3 c3, .int .i64 x.fi, .int .i64 x.ct] 94) = w2 at *
  refine (HV.out w2 HBX.out).mono ?_
  rintro e w3 ⟨v', rfl, -, ⟨a4, m4, c4, rfl⟩, b3⟩
  have p0 := (b3.cell bmt).trans l0
  have p3 := (b3.cell bmt).trans l3
  have p4 := (b3.cell bmt).trans l4
  have HB3 := Lib.hid (HBX.out.trans (b3.mono HBX.out.size))
  clear b3 l0 l1 l2 l3 l4 q0 q1 HV
  generalize (rouN n ⟨x.st, x.fb⟩).isSome = o at *
  have HIN := Lib.hid (fun w => within_any x.id 1 999 w)
  have HBK := Lib.hid (fun w => IsValidBlock_any x.fi x.ct w)
  generalize inB x.id 1 999 = i at *
  generalize blkOk x.fi x.ct = k at *
  cases o
  · go_wp2
    go_ret
    exact ⟨by rw [HF.out]; rfl, HB3.out⟩
  cases i
  · go_wp2_with (go_at_call 83; refine (HIN.out _).mono ?_; rintro e w' ⟨rfl, rfl⟩)
    go_ret
    exact ⟨by rw [HF.out]; rfl, HB3.out⟩
  go_wp2_with (go_at_call 83; refine (HIN.out _).mono ?_; rintro e w' ⟨rfl, rfl⟩)
  refine (HBK.out _).mono ?_
  rintro e w4 ⟨rfl, b4⟩
  have HB4 := Lib.hid (HB3.out.trans (b4.mono HB3.out.size))
  clear b4
  go_wp2
  go_ret
  exact ⟨by rw [HF.out]; rfl, HB4.out⟩
theorem l4Good_any (u1 u2 v : Value) (n : Net) (r : Rou) (w : World) (h : NetR w (.agg #[u1, u2]) n) (hok : netOk n = true) (hr : Rd w v r.fb) (hl : r.fb.length ≤ 1100000) :
    Calls Tryz.prog 187 #[.agg #[u1, u2], .agg #[.int .i64 r.st, v]] w fun e w' => e = .returned (.bool (rouOk n r)) ∧ Below w.heap.size w w' := by
  have HV := Lib.hid (fun w' (hb : Below w.heap.size w w') => l4Walk_any u1 u2 v n r w' (h.behind hb) (hr.belowAll hb) hl)
  have HG := Lib.hid (fun w' (hb : Below w.heap.size w w') => l2Good_any _ n w' (h.behind hb))
  rw [hok] at HG
  obtain ⟨⟨a1, m1, c1, rfl⟩, a2, m2, c2, rfl⟩ := slice_of_net h
  obtain ⟨a3, c3, m3, -, rfl, -, -, -⟩ := hr.opn
  obtain ⟨bx, bc, blt, -⟩ := box_facts w #[.slice a1 m1 c1, .slice a2 m2 c2] 35
  obtain ⟨by', bd, bmt, -⟩ := box_facts (w.alloc (.cells #[.slice a1 m1 c1, .slice a2 m2 c2] 35)) #[.int .i64 r.st, .slice a3 m3 c3] 90
  have q0 := (by'.cell (p := ⟨w.heap.size, 0, none⟩) blt).trans (bc 0 _ rfl)
  have q1 := (by'.cell (p := ⟨w.heap.size, 1, none⟩) blt).trans (bc 1 _ rfl)
  have l0 := bd 0 _ rfl
  have l1 := bd 1 _ rfl
  have hs1 : (w.alloc (.cells #[.slice a1 m1 c1, .slice a2 m2 c2] 35)).heap.size = w.heap.size + 1 := by simp
  rw [hs1] at l0 l1 bmt
  have blt2 := Nat.lt_of_lt_of_le blt by'.size
  have HBX := Lib.hid (bx.trans (by'.mono bx.size))
  clear bc bd bx by' hs1 blt h hr hok
  unfold rouOk
  generalize rouN n r = o at *
  go_enter Tryz.func187, Tryz.ntmps187
  go_wp2_with fail
  generalize (w.alloc (.cells #[.slice a1 m1 c1, .slice a2 m2 c2] 35)).alloc (.cells #[.int .i64 r.st, .slice a3 m3 c3] 90) = w2 at *
  refine (HG.out w2 HBX.out).mono ?_
  rintro e w3 ⟨rfl, b3⟩
  have p0 := (b3.cell blt2).trans q0
  have p1 := (b3.cell blt2).trans q1
  have p2 := (b3.cell bmt).trans l0
  have p3 := (b3.cell bmt).trans l1
  have HB3 := Lib.hid (HBX.out.trans (b3.mono HBX.out.size))
  clear b3 l0 l1 q0 q1 HG
  go_wp2_with fail
  refine (HV.out w3 HB3.out).mono ?_
  rintro e w4 ⟨v', rfl, -, ⟨a4, m4, c4, rfl⟩, b4⟩
  have HB4 := Lib.hid (HB3.out.trans (b4.mono HB3.out.size))
  clear b4
  go_wp2
  go_ret
  exact ⟨rfl, HB4.out⟩
theorem l9Light_any (u1 u2 v : Value) (n : Net) (x : Lgt) (w : World) (h : NetR w (.agg #[u1, u2]) n) (hok : netOk n = true) (hr : Rd w v x.fb) (hl : x.fb.length ≤ 1100000) :
    Calls Tryz.prog 140 #[.agg #[u1, u2], .agg #[.int .i64 x.id, .int .i64 x.st, v, .int .i64 x.fi, .int .i64 x.ct]] w fun e w' => e = .returned (.bool (lgtOk n x)) ∧ Below w.heap.size w w' := by
  have HV := Lib.hid (fun w' (hb : Below w.heap.size w w') => l4Good_any u1 u2 v n ⟨x.st, x.fb⟩ w' (h.behind hb) hok (hr.belowAll hb) hl)
  obtain ⟨⟨a1, m1, c1, rfl⟩, a2, m2, c2, rfl⟩ := slice_of_net h
  obtain ⟨a3, c3, m3, -, rfl, -, -, -⟩ := hr.opn
  have HF := Lib.hid (show lgtOk n x = (rouOk n ⟨x.st, x.fb⟩ && inB x.id 1 999 && blkOk x.fi x.ct) from rfl)
  obtain ⟨bx, bc, blt, -⟩ := box_facts w #[.slice a1 m1 c1, .slice a2 m2 c2] 35
  obtain ⟨by', bd, bmt, -⟩ := box_facts (w.alloc (.cells #[.slice a1 m1 c1, .slice a2 m2 c2] 35)) #[.int .i64 x.id, .int .i64 x.st, .slice a3 m3 c3, .int .i64 x.fi, .int .i64 x.ct] 94
  have q0 := (by'.cell (p := ⟨w.heap.size, 0, none⟩) blt).trans (bc 0 _ rfl)
  have q1 := (by'.cell (p := ⟨w.heap.size, 1, none⟩) blt).trans (bc 1 _ rfl)
  have l0 := bd 0 _ rfl
  have l1 := bd 1 _ rfl
  have l2 := bd 2 _ rfl
  have l3 := bd 3 _ rfl
  have l4 := bd 4 _ rfl
  have hs1 : (w.alloc (.cells #[.slice a1 m1 c1, .slice a2 m2 c2] 35)).heap.size = w.heap.size + 1 := by simp
  rw [hs1] at l0 l1 l2 l3 l4 bmt
  have HBX := Lib.hid (bx.trans (by'.mono bx.size))
  clear bc bd bx by' hs1 blt h hr hok
  generalize lgtOk n x = q at *
  generalize rouOk n ⟨x.st, x.fb⟩ = o at *
  have HIN := Lib.hid (fun w => l1In_any x.id 1 999 w)
  have HBK := Lib.hid (fun w => l8Good_any x.fi x.ct w)
  generalize inB x.id 1 999 = i at *
  generalize blkOk x.fi x.ct = k at *
  go_enter Tryz.func140, Tryz.ntmps140
  cases i
  · go_wp2_with (go_at_call 86; refine (HIN.out _).mono ?_; rintro e w' ⟨rfl, rfl⟩)
    go_ret
    exact ⟨by rw [HF.out]; cases o <;> rfl, HBX.out⟩
  go_wp2_with (go_at_call 86; refine (HIN.out _).mono ?_; rintro e w' ⟨rfl, rfl⟩)
  generalize (w.alloc (.cells #[.slice a1 m1 c1, .slice a2 m2 c2] 35)).alloc (.cells #[.int .i64 x.id, .int .i64 x.st, .slice a3 m3 c3, .int .i64 x.fi, .int .i64 x.ct] 94) = w2 at *
  refine (HV.out w2 HBX.out).mono ?_
  rintro e w3 ⟨rfl, b3⟩
  have p3 := (b3.cell bmt).trans l3
  have p4 := (b3.cell bmt).trans l4
  have HB3 := Lib.hid (HBX.out.trans (b3.mono HBX.out.size))
  clear b3 l0 l1 l2 l3 l4 q0 q1 HV
  cases o
  · go_wp2
    go_ret
    exact ⟨by rw [HF.out]; rfl, HB3.out⟩
  go_wp2_with fail
  refine (HBK.out _).mono ?_
  rintro e w4 ⟨rfl, b4⟩
  have HB4 := Lib.hid (HB3.out.trans (b4.mono HB3.out.size))
  clear b4
  go_wp2
  go_ret
  exact ⟨by rw [HF.out]; rfl, HB4.out⟩
end Go.Proofs.YtmkkdenhjfjmgaaGreat
namespace Go.Proofs.YtmkkdenhjfjmgaaGreat
open Go.RowKit Go.Sort
set_option maxRecDepth 100000

set_option maxHeartbeats 1600000 in
theorem l2Group_any (u1 u2 : Value) (n : Net) (i : Nat) (w : World) (h : NetR w (.agg #[u1, u2]) n) (hi : i < n.fs.length) (hl : n.fs.length ≤ 100000) :
    Calls Tryz.prog 145 #[.agg #[u1, u2], .int .i64 i] w fun e w' => ∃ v', e = .returned v' ∧ Own w' w.heap.size v' (grpF n i) ∧ Below w.heap.size w w' := by
  obtain ⟨x1, x2, e, r1, r2, hsm⟩ := h
  simp only [Value.agg.injEq, Array.mk.injEq, List.cons.injEq, and_true] at e
  obtain ⟨rfl, rfl⟩ := e
  obtain ⟨a1, m1, c1, rfl⟩ := Rdt.slice' r1
  obtain ⟨a2, m2, c2, rfl, HN2, hc2, hm2, ha2⟩ := flt_opn (m := 4) (enc := fibE) (fun _ => rfl) (by omega) nilB r2
  have hi2 : i < m2 := by have := HN2.out; omega
  have hm10 : m2 ≤ 100000 := by have := HN2.out; omega
  obtain ⟨b, off, rfl, hbs, hcs⟩ := ha2 (by omega)
  have HC := Lib.hid hcs
  obtain ⟨bx, bc, blt, -⟩ := box_facts w #[.slice a1 m1 c1, .slice (some ⟨b, off, none⟩) m2 c2] 35
  have q1 := bc 1 _ rfl
  have HBX := Lib.hid bx
  have t3 := (bx.cell (p := ⟨b, off + i * 4 + 3, none⟩) hbs).trans (hcs i hi2 3 _ rfl)
  have hiI : (i : Int) < (m2 : Int) := by omega
  have HF := Lib.hid (show grpF n i = if (n.fs[i]?.getD nilB).r = 0 then [(i : Int)] else grpTo n (n.fs[i]?.getD nilB).r m2 by unfold grpF grp; rw [HN2.out])
  clear bc bx ha2 hcs r1 r2 hi hl
  have hs1 : (w.alloc (.cells #[.slice a1 m1 c1, .slice (some ⟨b, off, none⟩) m2 c2] 35)).heap.size = w.heap.size + 1 := by simp
  have HON := Lib.hid (show Own ((w.alloc (.cells #[.slice a1 m1 c1, .slice (some ⟨b, off, none⟩) m2 c2] 35)).alloc (.cells #[.int .i64 i] 3)) (w.heap.size + 1) (.slice (some ⟨w.heap.size + 1, 0, none⟩) 1 1) [(i : Int)] by rw [← hs1]; exact own_one _ (i : Int) 3)
  have HOZ := Lib.hid (show Own ((w.alloc (.cells #[.slice a1 m1 c1, .slice (some ⟨b, off, none⟩) m2 c2] 35)).alloc (.cells #[] 3)) (w.heap.size + 1) (.slice (some ⟨w.heap.size + 1, 0, none⟩) 0 0) [] by rw [← hs1]; exact own_none _ 3)
  have HSZ := Lib.hid hs1
  have HBA := Lib.hid (fun o => (Below.refl (w.alloc (.cells #[.slice a1 m1 c1, .slice (some ⟨b, off, none⟩) m2 c2] 35)).heap.size (w.alloc (.cells #[.slice a1 m1 c1, .slice (some ⟨b, off, none⟩) m2 c2] 35))).alloc (Nat.le_refl _) o)
  clear hs1
  generalize hri : (n.fs[i]?.getD nilB).r = ri at *
  have HRI := Lib.hid hri
  clear hri
  go_enter Tryz.func145, Tryz.ntmps145
  by_cases h0 : ri = 0
  · have HE := Lib.hid (HF.out.trans (if_pos h0))
    have b1 : (ri == 0) = true := by simp [h0]
    have b2 : decide (ri = 0) = true := by simp [h0]
    clear h0
    go_wp2
    go_ret
    exact ⟨_, rfl, by rw [HE.out]; exact HON.out.mono (Nat.le_succ _), HBX.out.trans ((HBA.out _).mono HBX.out.size)⟩
  have HE := Lib.hid (HF.out.trans (if_neg h0))
  have b1 : (ri == 0) = false := by simp [h0]
  have b2 : decide (ri = 0) = false := by simp [h0]
  clear h0
  go_wp2
  have HB0 := Lib.hid (HBA.out (.cells #[] 3))
  clear HON HBA t3 b1 b2
  generalize w.alloc (.cells #[.slice a1 m1 c1, .slice (some ⟨b, off, none⟩) m2 c2] 35) = w1 at *
  generalize w1.alloc (.cells #[] 3) = w2 at *
  go_loopw [5, 6] (fun s5 j wr => ∃ k : Nat, k ≤ m2 ∧ j = .int .i64 k ∧ Hid (Own wr (w.heap.size + 1) s5 (grpTo n ri k)) ∧ Hid (Below w1.heap.size w1 wr)) (fun _ j _ => m2 - (intOf j).toNat)
  case atStart => exact ⟨0, Nat.zero_le _, rfl, HOZ.out, HB0.out⟩
  case round =>
    obtain ⟨k, hk, rfl, HO, HB⟩ := hrel
    obtain ⟨aR, cR, nR, HNR, rfl, hcR, hnR, -⟩ := HO.out.rd.opn
    have p1 := (HB.out.cell (p := ⟨w.heap.size, 1, none⟩) (by rw [HSZ.out]; exact Nat.lt_succ_self _)).trans q1
    by_cases hlt : k < m2
    · have hltI : (k : Int) < (m2 : Int) := by omega
      have BW := HBX.out.trans (HB.out.mono HBX.out.size)
      have e3 := (BW.cell (p := ⟨b, off + k * 4 + 3, none⟩) hbs).trans (HC.out k hlt 3 _ rfl)
      have g3 := (BW.cell (p := ⟨b, off + i * 4 + 3, none⟩) hbs).trans (HC.out i hi2 3 _ rfl)
      have g3' : wr.cell? ⟨b, off + i * 4 + 3, none⟩ = some (.int .i64 ri) := by rw [← HRI.out]; exact g3
      have HY := Lib.hid (@grpTo_yes n ri k)
      have HZ := Lib.hid (@grpTo_no n ri k)
      have HLO := Lib.hid (show (grpTo n ri k).length ≤ 4000000 by have := grpTo_len n ri k; omega)
      have hsz : w.heap.size + 1 ≤ wr.heap.size := by rw [← HSZ.out]; exact HB.out.size
      have HS := Lib.hid hsz
      unfold fbA at HY HZ
      clear g3 BW
      generalize (n.fs[k]?.getD nilB).r = rk at *
      generalize grpTo n ri k = out at *
      by_cases hr : rk = ri
      · have HE2 := Lib.hid (HY.out hr)
        have d1 : (rk == ri) = true := by simp [hr]
        have d2 : decide (rk = ri) = true := by simp [hr]
        clear hr HY HZ hsz
        go_wp2
        have j1 := rg p1
        have j2 := rg e3
        have j3 := rg g3'
        clear p1 e3 g3'
        refine wp_region_quiet_below (by kernel_rfl) (by kernel_rfl) ?_
        repeat (go_big_quiet_step (fail))
        refine wpQuiet_nil ?_
        rintro _ ⟨⟨dq, osq⟩, rfl⟩
        have HB4 := Lib.hid (HB.out.trans ((below_regrown wr dq osq).mono HB.out.size))
        have HO4 := Lib.hid (HO.out.belowAll (below_regrown wr dq osq))
        have HS4 := Lib.hid (Nat.le_trans HS.out (below_regrown wr dq osq).size)
        generalize grow (redrawn wr dq) osq = w4 at *
        clear j1 j2 j3
        go_wp2_with (at_builtin; go_loud (refine wpList_pushI rfl (.tmp 37) (.tmp 39) 29 rfl Tryz.underlying29 Tryz.infoI (w.heap.size + 1) (.slice aR nR cR) out rfl HO4.out rfl HLO.out HS4.out ?_); intro v5 w5 o5 g5 l5; have HO5 := Lib.hid o5; have HB5 := Lib.hid (HB4.out.grown g5 HB4.out.size (fun q hq => (by rw [HSZ.out]; exact (HO4.out.lt q hq).1))); clear o5 g5 l5)
        go_roundw
        case rel => exact ⟨k + 1, hlt, by go_num, by rw [HE2.out]; exact HO5.out, HB5.out⟩
        case measure => simp [intOf]; omega
      · have HE2 := Lib.hid (HZ.out hr)
        have d1 : (rk == ri) = false := by simp [hr]
        have d2 : decide (rk = ri) = false := by simp [hr]
        clear hr HY HZ hsz
        go_wp2
        have j1 := rg p1
        have j2 := rg e3
        have j3 := rg g3'
        clear p1 e3 g3'
        refine wp_region_quiet_below (by kernel_rfl) (by kernel_rfl) ?_
        repeat (go_big_quiet_step (fail))
        refine wpQuiet_nil ?_
        rintro _ ⟨⟨dq, osq⟩, rfl⟩
        have HB4 := Lib.hid (HB.out.trans ((below_regrown wr dq osq).mono HB.out.size))
        have HO4 := Lib.hid (HO.out.belowAll (below_regrown wr dq osq))
        go_wp2
        go_roundw
        case rel => exact ⟨k + 1, hlt, by go_num, by rw [HE2.out]; exact HO4.out, HB4.out⟩
        case measure => simp [intOf]; omega
    · obtain rfl : m2 = k := by omega
      go_wp2
      go_ret
      exact ⟨_, rfl, by rw [HE.out]; exact HO.out.mono (Nat.le_succ _), HBX.out.trans (HB.out.mono HBX.out.size)⟩
end Go.Proofs.YtmkkdenhjfjmgaaGreat
