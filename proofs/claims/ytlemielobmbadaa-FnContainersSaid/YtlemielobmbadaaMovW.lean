/- Walks: MovePointer, JustifyBuffer. -/
import Derived.Test.YtlemielobmbadaaMovP
import Derived.Test.YtlemielobmbadaaBa08
import Derived.Test.YtlemielobmbadaaBa26
import Derived.Test.YtlemielobmbadaaBa38
namespace Go.Proofs.Ytlemielobmbadaa
open Go.RowKit
set_option maxRecDepth 100000

theorem implMov_any (p d : Int) (w : World) :
    Calls Try.prog 55 #[.int .i64 p, .int .i64 d] w fun e w' => e = .returned (.tuple #[.int .i64 (movR p d), .bool (movOk p d)]) ∧ w = w' := by
  have HY := Lib.hid (@mov_yes p d)
  have HN := Lib.hid (@mov_no p d)
  have HD := Lib.hid (show movOk p d = (inB p 0 11 && inB d (-1) 1) from rfl)
  generalize movOk p d = ok at *
  generalize movR p d = r at *
  cases h1 : inB p 0 11
  · have hok : ok = false := by rw [HD.out, h1]; rfl
    subst hok
    have hr := HN.out rfl
    subst hr
    go_enter Try.func55, Try.ntmps55
    go_wp2_with (go_at_call 68; refine (within_any _ _ _ _).mono ?_; rintro e w' ⟨rfl, rfl⟩)
    exact bodyPost_ret (results_tmp2 (t := 4) (u := 5) rfl _ _ _) rfl ⟨rfl, rfl⟩
  cases h2 : inB d (-1) 1
  · have hok : ok = false := by rw [HD.out, h1, h2]; rfl
    subst hok
    have hr := HN.out rfl
    subst hr
    go_enter Try.func55, Try.ntmps55
    go_wp2_with (go_at_call 68; refine (within_any _ _ _ _).mono ?_; rintro e w' ⟨rfl, rfl⟩)
    exact bodyPost_ret (results_tmp2 (t := 4) (u := 5) rfl _ _ _) rfl ⟨rfl, rfl⟩
  have hok : ok = true := by rw [HD.out, h1, h2]; rfl
  subst hok
  have hr := HY.out rfl
  subst hr
  have hb1 := inB_true h1
  have hb2 := inB_true h2
  go_enter Try.func55, Try.ntmps55
  go_wp2_with (go_at_call 68; refine (within_any _ _ _ _).mono ?_; rintro e w' ⟨rfl, rfl⟩)
  exact bodyPost_ret (results_tmp2 (t := 4) (u := 5) rfl _ _ _) rfl ⟨rfl, rfl⟩
theorem specMov_any (p d : Int) (w : World) :
    Calls Try.prog 56 #[.int .i64 p, .int .i64 d] w fun e w' => e = .returned (.tuple #[.int .i64 (movR p d), .bool (movOk p d)]) ∧ w = w' := by
  have HY := Lib.hid (@mov_yes p d)
  have HN := Lib.hid (@mov_no p d)
  have HD := Lib.hid (show movOk p d = (inB p 0 11 && inB d (-1) 1) from rfl)
  generalize movOk p d = ok at *
  generalize movR p d = r at *
  cases h1 : inB p 0 11
  · have hok : ok = false := by rw [HD.out, h1]; rfl
    subst hok
    have hr := HN.out rfl
    subst hr
    go_enter Try.func56, Try.ntmps56
    go_wp2_with (go_at_call 71; refine (l1In_any _ _ _ _).mono ?_; rintro e w' ⟨rfl, rfl⟩)
    exact bodyPost_ret (results_tmp2 (t := 4) (u := 5) rfl _ _ _) rfl ⟨rfl, rfl⟩
  cases h2 : inB d (-1) 1
  · have hok : ok = false := by rw [HD.out, h1, h2]; rfl
    subst hok
    have hr := HN.out rfl
    subst hr
    go_enter Try.func56, Try.ntmps56
    go_wp2_with (go_at_call 71; refine (l1In_any _ _ _ _).mono ?_; rintro e w' ⟨rfl, rfl⟩)
    exact bodyPost_ret (results_tmp2 (t := 4) (u := 5) rfl _ _ _) rfl ⟨rfl, rfl⟩
  have hok : ok = true := by rw [HD.out, h1, h2]; rfl
  subst hok
  have hr := HY.out rfl
  subst hr
  have hb1 := inB_true h1
  have hb2 := inB_true h2
  go_enter Try.func56, Try.ntmps56
  go_wp2_with (go_at_call 71; refine (l1In_any _ _ _ _).mono ?_; rintro e w' ⟨rfl, rfl⟩)
  exact bodyPost_ret (results_tmp2 (t := 4) (u := 5) rfl _ _ _) rfl ⟨rfl, rfl⟩

/-- append of one integer that tells where the row lies. -/
theorem wpList_pushL {P : Program} {ops : Array Oper} {rest : List Oper} {o : Oper} {a : Act} {Q : Exit → Act → World → Prop} {wr : World} {y : Int} (hgd : o.guard = none) (s x : Operand) (T : TypeId)
    (ho : o.op = .call { callee := .builtin .append, args := #[s, x], argTypes := #[T, T] }) (ht : P.underlying T = some (.slice 3))
    (hinfo : (P.info? 3).map (fun i => (i.zero, i.size, i.bytes)) = some (some (.int .i64 0), 1, 8))
    (base : Nat) (v : Value) (n : Nat) (xs : List Int) (hs : a.eval s = v) (hown : wr.ownsRow base 3 1 v n (ints xs))
    (hx : a.eval x = .slice (some ⟨wr.heap.size, 0, none⟩) 1 1) (hn : n ≤ 1000000000) (hbase : base ≤ wr.heap.size)
    (h : ∀ v' w', w'.ownsRow base 3 1 v' (n + 1) (ints (xs ++ [y])) → wr.grownBy w' v.ownBlock → (∀ g, v'.ownBlock = some g → v.ownBlock = some g ∨ wr.heap.size ≤ g) → wpList P ops Q rest (a.put o.dst v') w') :
    wpList P ops Q (o :: rest) a (wr.alloc (.cells #[.int .i64 y] 3)) := by
  refine wpList_catL hgd s x T ho ht hinfo base v n xs hs (hown.alloc _) _ [y] hx ?_ (by simp) (by simp; omega) (by simp; omega) ?_
  · refine .inr ⟨wr.heap.size, 0, 1, rfl, by simp, (by unfold maxLen; omega), (by simp), ?_⟩
    intro j hj
    obtain rfl : j = 0 := by simpa using hj
    simp [World.cell?_alloc_at]
  · intro v' w' h1 h2 h3
    refine h v' w' h1 ((World.grownBy_alloc _ _ _).trans' h2) (fun g hg => ?_)
    rcases h3 g hg with e | e
    · exact .inl e
    · exact .inr (by simp at e; omega)
/-- A push beside another row. -/
theorem row_beside {w w' : World} {base n : Nat} {v v' : Value} {xs : List Value} (h : w.ownsRow base 3 1 v n xs) (hg : w.grownBy w' v'.ownBlock) (hne : ∀ k, v.ownBlock = some k → v'.ownBlock ≠ some k) : w'.ownsRow base 3 1 v n xs := by
  exact ownsRow_kept h fun k hk => hg.block k (h.lt k hk).2 (fun e => hne k hk e.symm)
theorem rowForm {w : World} {base m size : Nat} {e : TypeId} {v : Value} {xs : List Value} (h : w.ownsRow base e size v m xs) : ∃ a c, v = .slice a m c := by
  rcases h.2 with ⟨h, h2⟩ | ⟨g, cap, cur, h, _⟩
  · exact ⟨none, 0, by rw [h, h2]⟩
  · exact ⟨_, _, h⟩
theorem lit0 {w : World} {base : Nat} (hb : base ≤ w.heap.size) : (w.alloc (.cells #[] 3)).ownsRow base 3 1 (.slice (some ⟨w.heap.size, 0, none⟩) 0 0) 0 (ints []) :=
  ⟨by simp, .inr ⟨w.heap.size, 0, #[], rfl, hb, heap_alloc_new w _, Nat.le_refl _, Nat.zero_le _, by simp, by simp⟩⟩
/-- Two rows that grow side by side. -/
def Two (w wr : World) (base : Nat) (v1 v2 : Value) (n : Nat) (xs ys : List Int) : Prop :=
  wr.ownsRow base 3 1 v1 n (ints xs) ∧ wr.ownsRow base 3 1 v2 n (ints ys) ∧ (∀ g, v1.ownBlock = some g → v2.ownBlock ≠ some g) ∧ Below w.heap.size w wr
theorem two_lit {w : World} : Two w ((w.alloc (.cells #[] 3)).alloc (.cells #[] 3)) w.heap.size (.slice (some ⟨w.heap.size, 0, none⟩) 0 0) (.slice (some ⟨w.heap.size + 1, 0, none⟩) 0 0) 0 [] [] := by
  have h2 := lit0 (w := w.alloc (.cells #[] 3)) (base := w.heap.size) (by simp)
  rw [show (w.alloc (.cells #[] 3)).heap.size = w.heap.size + 1 by simp] at h2
  refine ⟨(lit0 (Nat.le_refl _)).alloc _, h2, fun g hg => ?_, ((Below.refl _ _).alloc (Nat.le_refl _) _).alloc (by simp) _⟩
  simp [Value.ownBlock] at hg ⊢; omega
/-- The first has grown. -/
theorem Two.first {w wr w3 : World} {v1 v2 v3 : Value} {n : Nat} {xs ys zs : List Int} (h : Two w wr w.heap.size v1 v2 n xs ys) (h3 : w3.ownsRow w.heap.size 3 1 v3 (n + 1) (ints zs)) (hg : wr.grownBy w3 v1.ownBlock) (hl : ∀ g, v3.ownBlock = some g → v1.ownBlock = some g ∨ wr.heap.size ≤ g) :
    w3.ownsRow w.heap.size 3 1 v2 n (ints ys) ∧ (∀ g, v3.ownBlock = some g → v2.ownBlock ≠ some g) ∧ Below w.heap.size w w3 := by
  obtain ⟨h1, h2, h4, hb⟩ := h
  refine ⟨row_beside h2 hg (fun k hk e => h4 k e hk), fun g hg3 e => ?_, hb.grown hg hb.size (fun g hg1 => (h1.lt g hg1).1)⟩
  rcases hl g hg3 with e1 | e1
  · exact h4 g e1 e
  · have := (h2.lt g e).2; omega
/-- The second has grown. -/
theorem two_next {w w3 w4 : World} {v2 v3 v4 : Value} {n : Nat} {ys zs us : List Int} (h3 : w3.ownsRow w.heap.size 3 1 v3 (n + 1) (ints zs)) (h2 : w3.ownsRow w.heap.size 3 1 v2 n (ints ys)) (ha : ∀ g, v3.ownBlock = some g → v2.ownBlock ≠ some g) (hb : Below w.heap.size w w3)
    (h4 : w4.ownsRow w.heap.size 3 1 v4 (n + 1) (ints us)) (hg : w3.grownBy w4 v2.ownBlock) (hl : ∀ g, v4.ownBlock = some g → v2.ownBlock = some g ∨ w3.heap.size ≤ g) : Two w w4 w.heap.size v3 v4 (n + 1) zs us := by
  refine ⟨row_beside h3 hg (fun k hk e => ha k hk e), h4, fun g hg3 e => ?_, hb.grown hg hb.size (fun g hg1 => (h2.lt g hg1).1)⟩
  rcases hl g e with e1 | e1
  · exact ha g hg3 e1
  · have := (h3.lt g hg3).2; omega
set_option maxHeartbeats 3200000 in
theorem implJus_any (f : Int) (v : Value) (ws : List Int) (size lo hi : Int) (w : World) (h : Rd w v ws) :
    Calls Try.prog 58 #[.int .i64 f, v, .int .i64 size, .int .i64 lo, .int .i64 hi] w (JusP w f ws size lo hi) := by
  obtain ⟨a, cap, n, HN, rfl, hnc, hnl, ha⟩ := h.opn
  have HNO := Lib.hid (fun w' v1 v2 => @JusP.no w w' f ws size lo hi v1 v2)
  have HYES := Lib.hid (fun w' v1 v2 n => @JusP.yes w w' f ws size lo hi v1 v2 n)
  have HOK := Lib.hid (show jusOk f ws size lo hi = (jusPre f n size lo hi && jusTo f ws size lo hi n) by rw [jusOk, HN.out])
  have HPRE := Lib.hid (show jusPre f n size lo hi = (inB size 1 100 && inB f 0 size && inB lo 0 hi && decide (hi ≤ size) && decide (n ≤ 40)) from rfl)
  have HPP := Lib.hid (@jusPre_parts f n size lo hi)
  have HA := Lib.hid ha
  clear ha h
  have hnil : Own w w.heap.size (.slice none 0 0) [] := .inl ⟨rfl, rfl⟩
  have HNIL := Lib.hid hnil
  clear hnil
  cases h1 : inB size 1 100
  · have HF := Lib.hid (show jusOk f ws size lo hi = false by rw [HOK.out, HPRE.out, h1]; rfl)
    go_enter Try.func58, Try.ntmps58
    go_wp2_with (go_at_call 68; refine (within_any _ _ _ _).mono ?_; rintro e w' ⟨rfl, rfl⟩)
    refine bodyPost_ret (results_tmp3 rfl _ _ _) rfl ?_
    exact (HNO.out _ _ _ HF.out HNIL.out HNIL.out (Below.refl _ _))
  cases h2 : inB f 0 size
  · have HF := Lib.hid (show jusOk f ws size lo hi = false by rw [HOK.out, HPRE.out, h1, h2]; rfl)
    go_enter Try.func58, Try.ntmps58
    go_wp2_with (go_at_call 68; refine (within_any _ _ _ _).mono ?_; rintro e w' ⟨rfl, rfl⟩)
    refine bodyPost_ret (results_tmp3 rfl _ _ _) rfl ?_
    exact (HNO.out _ _ _ HF.out HNIL.out HNIL.out (Below.refl _ _))
  cases h3 : inB lo 0 hi
  · have HF := Lib.hid (show jusOk f ws size lo hi = false by rw [HOK.out, HPRE.out, h1, h2, h3]; rfl)
    go_enter Try.func58, Try.ntmps58
    go_wp2_with (go_at_call 68; refine (within_any _ _ _ _).mono ?_; rintro e w' ⟨rfl, rfl⟩)
    refine bodyPost_ret (results_tmp3 rfl _ _ _) rfl ?_
    exact (HNO.out _ _ _ HF.out HNIL.out HNIL.out (Below.refl _ _))
  by_cases h4 : size < hi
  · have HF := Lib.hid (show jusOk f ws size lo hi = false by rw [HOK.out, HPRE.out, decide_eq_false (show ¬ hi ≤ size by omega)]; simp)
    have h4b : decide (size < hi) = true := by simpa using h4
    go_enter Try.func58, Try.ntmps58
    go_wp2_with (go_at_call 68; refine (within_any _ _ _ _).mono ?_; rintro e w' ⟨rfl, rfl⟩)
    refine bodyPost_ret (results_tmp3 rfl _ _ _) rfl ?_
    exact (HNO.out _ _ _ HF.out HNIL.out HNIL.out (Below.refl _ _))
  have h4b : decide (size < hi) = false := by simpa using h4
  by_cases h5 : 40 < n
  · have HF := Lib.hid (show jusOk f ws size lo hi = false by rw [HOK.out, HPRE.out, decide_eq_false (show ¬ n ≤ 40 by omega)]; simp)
    have h5I : (40 : Int) < (n : Int) := by omega
    have h5b : decide ((40 : Int) < (n : Int)) = true := by simpa using h5I
    clear h5
    go_enter Try.func58, Try.ntmps58
    go_wp2_with (go_at_call 68; refine (within_any _ _ _ _).mono ?_; rintro e w' ⟨rfl, rfl⟩)
    refine bodyPost_ret (results_tmp3 rfl _ _ _) rfl ?_
    exact (HNO.out _ _ _ HF.out HNIL.out HNIL.out (Below.refl _ _))
  have h5I : ¬ (40 : Int) < (n : Int) := by omega
  have h5b : decide ((40 : Int) < (n : Int)) = false := by simpa using h5I
  have hpre : jusPre f n size lo hi = true := by
    rw [HPRE.out, h1, h2, h3, decide_eq_true (show hi ≤ size by omega), decide_eq_true (show n ≤ 40 by omega)]; rfl
  obtain ⟨hs, hf, hlo, hhi, hn40⟩ := HPP.out hpre
  have HO2 := Lib.hid (show jusOk f ws size lo hi = jusTo f ws size lo hi n by rw [HOK.out, hpre]; rfl)
  clear HPP hpre HPRE HOK
  go_enter Try.func58, Try.ntmps58
  go_wp2_with (go_at_call 68; refine (within_any _ _ _ _).mono ?_; rintro e w' ⟨rfl, rfl⟩)
  have HTS := Lib.hid (fun k => @jusTo_step f ws size lo hi k)
  have HTN := Lib.hid (fun k n (h : k < n) => @jusTo_no f ws size lo hi k n h)
  have HT0 := Lib.hid (@two_lit w)
  go_loopw [0, 13, 14, 16, 17, 47] (fun fv mv lv _ _ iv wr => ∃ (k : Nat) (fa : Int) (a1 : Option Addr) (c1 : Nat) (a2 : Option Addr) (c2 : Nat), k ≤ n ∧ iv = .int .i64 (k : Int) ∧ fv = .int .i64 fa ∧ mv = .slice a1 k c1 ∧ lv = .slice a2 k c2 ∧ (0 ≤ fa ∧ fa ≤ 200) ∧ Hid (fillAt f ws lo hi k = fa) ∧ Hid (jusTo f ws size lo hi k = true) ∧ Hid (Two w wr w.heap.size (.slice a1 k c1) (.slice a2 k c2) k (movTo f ws lo hi k) (filTo f ws lo hi k))) (fun _ _ _ _ _ iv _ => 100 - (intOf iv).toNat)
  case atStart => exact ⟨0, f, _, _, _, _, by omega, rfl, rfl, rfl, rfl, by omega, rfl, rfl, HT0.out⟩
  case round =>
    clear HT0
    obtain ⟨k, fa, a1, c1, a2, c2, hk, rfl, rfl, rfl, rfl, hfa, HFA, HT, HTW⟩ := hrel
    by_cases hlt : k < n
    · have hltI : (k : Int) < (n : Int) := by omega
      obtain ⟨b, off, rfl, hbs, hcs⟩ := HA.out (by omega)
      have hck := (HTW.out.2.2.2.cell (p := ⟨b, off + k, none⟩) hbs).trans (hcs k hlt)
      have HG := Lib.hid (show jusGood f ws size lo hi k = (inB (ws[k]?.getD 0) 0 14 && decide (fa + ws[k]?.getD 0 ≤ size) && decide (0 ≤ fa + ws[k]?.getD 0 - 12 - mvt (fa + ws[k]?.getD 0) lo hi)) by rw [← HFA.out]; rfl)
      have HFN := Lib.hid (show fillAt f ws lo hi (k + 1) = fa + ws[k]?.getD 0 - 12 - mvt (fa + ws[k]?.getD 0) lo hi by rw [← HFA.out]; rfl)
      have HMS := Lib.hid (show movTo f ws lo hi (k + 1) = movTo f ws lo hi k ++ [mvt (fa + ws[k]?.getD 0) lo hi] by rw [← HFA.out]; exact movTo_step f ws lo hi k)
      have HFS := Lib.hid (filTo_step f ws lo hi k)
      have HNK := Lib.hid (HTN.out k n hlt)
      have HSK := Lib.hid (HTS.out k HT.out)
      have HNO2 := Lib.hid (fun (h : jusGood f ws size lo hi k = false) => HNO.out _ _ _ (HO2.out.trans (HNK.out h)) (Own.belowAll HNIL.out HTW.out.2.2.2) (Own.belowAll HNIL.out HTW.out.2.2.2) HTW.out.2.2.2)
      clear hcs HNK HFA HT
      generalize ws[k]?.getD 0 = x at *
      cases hx : inB x 0 14
      · have HF := Lib.hid (HNO2.out (by rw [HG.out, hx]; rfl))
        go_wp2_with (go_at_call 68; refine (within_any _ _ _ _).mono ?_; rintro e w' ⟨rfl, rfl⟩)
        refine bodyPost_ret (results_tmp3 rfl _ _ _) rfl ?_
        exact HF.out
      have hxb := inB_true hx
      obtain ⟨m, HM, hm⟩ : ∃ m, Hid (mvt (fa + x) lo hi = m) ∧ ((m = -1 ∧ (fa + x < lo ∧ decide (fa + x < lo) = true) ∧ ¬ hi < fa + x ∧ decide (hi < fa + x) = false) ∨ (m = 1 ∧ (¬ (fa + x < lo) ∧ decide (fa + x < lo) = false) ∧ hi < fa + x ∧ decide (hi < fa + x) = true) ∨ (m = 0 ∧ (¬ (fa + x < lo) ∧ decide (fa + x < lo) = false) ∧ ¬ hi < fa + x ∧ decide (hi < fa + x) = false)) := by
        refine ⟨_, rfl, ?_⟩
        unfold mvt
        by_cases e1 : fa + x < lo
        · rw [if_pos e1]; exact .inl ⟨rfl, ⟨e1, decide_eq_true e1⟩, by omega, decide_eq_false (by omega)⟩
        · rw [if_neg e1]
          by_cases e2 : hi < fa + x
          · rw [if_pos e2]; exact .inr (.inl ⟨rfl, ⟨e1, decide_eq_false e1⟩, e2, decide_eq_true e2⟩)
          · rw [if_neg e2]; exact .inr (.inr ⟨rfl, ⟨e1, decide_eq_false e1⟩, e2, decide_eq_false e2⟩)
      rw [HM.out] at HG HFN HMS
      clear HM
      have hmb : -1 ≤ m ∧ m ≤ 1 := by omega
      have HMB := Lib.hid hmb
      by_cases hg : size < fa + x ∨ fa + x < 12 + m
      · have HF := Lib.hid (HNO2.out (by rw [HG.out, hx]; rcases hg with h | h; (· rw [decide_eq_false (show ¬ fa + x ≤ size by omega)]; simp); (· rw [decide_eq_false (show ¬ 0 ≤ fa + x - 12 - m by omega)]; simp)))
        have hg2 : (size < fa + x ∧ decide (size < fa + x) = true) ∨ ((¬ size < fa + x ∧ decide (size < fa + x) = false) ∧ fa + x < 12 + m ∧ decide (fa + x < 12 + m) = true) := by
          by_cases h : size < fa + x
          · exact .inl ⟨h, by simpa using h⟩
          · have : fa + x < 12 + m := by omega
            exact .inr ⟨⟨h, by simpa using h⟩, this, by simpa using this⟩
        clear hg
        rcases hm with ⟨rfl, ⟨e1, d1⟩, e2, d2⟩ | ⟨rfl, ⟨e1, d1⟩, e2, d2⟩ | ⟨rfl, ⟨e1, d1⟩, e2, d2⟩
        all_goals
          rcases hg2 with ⟨g1, g2⟩ | ⟨⟨g1, g2⟩, g3, g4⟩
          all_goals
            go_wp2_with (go_at_call 68; refine (within_any _ _ _ _).mono ?_; rintro e w' ⟨rfl, rfl⟩)
            refine bodyPost_ret (results_tmp3 rfl _ _ _) rfl ?_
            exact HF.out
      · have g1 : ¬ size < fa + x := by omega
        have g3 : ¬ fa + x < 12 + m := by omega
        have g2 : decide (size < fa + x) = false := decide_eq_false g1
        have g4 : decide (fa + x < 12 + m) = false := decide_eq_false g3
        have HT2 := Lib.hid (HSK.out (by rw [HG.out, hx, decide_eq_true (show fa + x ≤ size by omega), decide_eq_true (show 0 ≤ fa + x - 12 - m by omega)]; rfl))
        have hnf : 0 ≤ fa + x - (12 + m) ∧ fa + x - (12 + m) ≤ 200 := by omega
        have hne : fa + x - 12 - m = fa + x - (12 + m) := by omega
        rw [HFN.out, hne] at HFS
        rw [hne] at HFN
        have HNF := Lib.hid hnf
        clear hg HG HSK HNO2 hne hnf
        have hsz := HTW.out.2.2.2.size
        rcases hm with ⟨rfl, ⟨e1, d1⟩, e2, d2⟩ | ⟨rfl, ⟨e1, d1⟩, e2, d2⟩ | ⟨rfl, ⟨e1, d1⟩, e2, d2⟩
        all_goals
          first
            | (rw [show fa + x - (12 + -1) = fa + x - 11 by omega] at HFS HFN HNF)
            | (rw [show fa + x - (12 + 1) = fa + x - 13 by omega] at HFS HFN HNF)
            | (rw [show fa + x - (12 + 0) = fa + x - 12 by omega] at HFS HFN HNF)
          go_wp2_with (first
            | (go_at_call 68; refine (within_any _ _ _ _).mono ?_; rintro e w' ⟨rfl, rfl⟩)
            | (at_builtin; go_loud (refine wpList_pushL rfl (.tmp 76) (.tmp 78) 24 rfl Try.underlying24 Try.infoInt w.heap.size (.slice a1 k c1) k _ rfl HTW.out.1 rfl (by omega) hsz ?_; intro v3 w3 hown3 hgrow3 hl3; rw [← HMS.out] at hown3; have hf3 := HTW.out.first hown3 hgrow3 hl3; have H3 := Lib.hid hown3; have HF3 := Lib.hid hf3; have hsz3 := hf3.2.2.size; obtain ⟨a3, c3, rfl⟩ := rowForm hown3; clear hown3 hgrow3 hl3 hf3))
            | (at_builtin; go_loud (refine wpList_pushL rfl (.tmp 80) (.tmp 82) 24 rfl Try.underlying24 Try.infoInt w.heap.size (.slice a2 k c2) k _ rfl HF3.out.1 rfl (by omega) hsz3 ?_; intro v4 w4 hown4 hgrow4 hl4; rw [← HFS.out] at hown4; have HTW4 := Lib.hid (two_next H3.out HF3.out.1 HF3.out.2.1 HF3.out.2.2 hown4 hgrow4 hl4); obtain ⟨a4, c4, rfl⟩ := rowForm hown4; clear hown4 hgrow4 hl4)))
          go_roundw
          case rel => exact ⟨k + 1, _, _, _, _, _, by omega, by go_num, rfl, rfl, rfl, HNF.out, HFN.out, HT2.out, HTW4.out⟩
          case measure => simp [intOf]; omega
    · obtain rfl : k = n := by omega
      have HY := Lib.hid (HYES.out _ _ _ k (HO2.out.trans HT.out) HN.out (own_of_row HTW.out.1) (own_of_row HTW.out.2.1) HTW.out.2.2.2)
      clear HT HFA
      go_wp2
      refine bodyPost_ret (results_tmp3 rfl _ _ _) rfl ?_
      exact HY.out
end Go.Proofs.Ytlemielobmbadaa
