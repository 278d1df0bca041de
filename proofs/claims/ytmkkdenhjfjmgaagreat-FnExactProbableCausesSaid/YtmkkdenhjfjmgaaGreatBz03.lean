/- Joined: XFib XCmp XCpf XNetP XFlu XRow XPlnP XGrpP XHitP XBlk. -/
import Derived.Test.YtmkkdenhjfjmgaaGreatBz02
import Derived.Lib.QuietBelow
import Derived.OwnWalk
import Derived.Test.YtmkkdenhjfjmgaaGreatBz01
namespace Go.Proofs.YtmkkdenhjfjmgaaGreat
open Go.RowKit
set_option maxRecDepth 100000

structure Fib where
  a : Int
  b : Int
  l : Int
  r : Int
def nilB : Fib := ⟨0, 0, 0, 0⟩
def fibE (f : Fib) : List Value := [.int .i64 f.a, .int .i64 f.b, .int .i64 f.l, .int .i64 f.r]
def fibV (f : Fib) : Value := .agg #[.int .i64 f.a, .int .i64 f.b, .int .i64 f.l, .int .i64 f.r]
def fibOk (f : Fib) (m : Nat) : Bool := inB f.a 0 ((m : Int) - 1) && inB f.b (f.a + 1) ((m : Int) - 1) && inB f.l 1 5000 && inB f.r 0 9
set_option maxHeartbeats 1600000 in
theorem l2Fiber_any (f : Fib) (m : Nat) (w : World) (hm : m ≤ 1000) :
    Calls Tryz.prog 185 #[fibV f, .int .i64 (m : Int)] w fun e w' => e = .returned (.bool (fibOk f m)) ∧ Below w.heap.size w w' := by
  obtain ⟨a, b, l, r⟩ := f
  have HB := Lib.hid ((Below.refl w.heap.size w).alloc (Nat.le_refl _) (.cells #[.int .i64 a, .int .i64 b, .int .i64 l, .int .i64 r] 148))
  have HF := Lib.hid (show fibOk ⟨a, b, l, r⟩ m = (inB a 0 ((m : Int) - 1) && inB b (a + 1) ((m : Int) - 1) && inB l 1 5000 && inB r 0 9) from rfl)
  generalize fibOk ⟨a, b, l, r⟩ m = q at *
  unfold fibV
  cases h1 : inB a 0 ((m : Int) - 1)
  · rw [h1] at HF
    go_enter Tryz.func185, Tryz.ntmps185
    go_wp2_with (go_at_call 86; refine (l1In_any _ _ _ _).mono ?_; rintro e w' ⟨rfl, rfl⟩)
    go_ret
    exact ⟨by rw [HF.out]; rfl, HB.out⟩
  rw [h1] at HF
  have hb1 := inB_true h1
  cases h2 : inB b (a + 1) ((m : Int) - 1)
  · rw [h2] at HF
    go_enter Tryz.func185, Tryz.ntmps185
    go_wp2_with (go_at_call 86; refine (l1In_any _ _ _ _).mono ?_; rintro e w' ⟨rfl, rfl⟩)
    go_ret
    exact ⟨by rw [HF.out]; rfl, HB.out⟩
  rw [h2] at HF
  cases h3 : inB l 1 5000
  · rw [h3] at HF
    go_enter Tryz.func185, Tryz.ntmps185
    go_wp2_with (go_at_call 86; refine (l1In_any _ _ _ _).mono ?_; rintro e w' ⟨rfl, rfl⟩)
    go_ret
    exact ⟨by rw [HF.out]; rfl, HB.out⟩
  rw [h3] at HF
  go_enter Tryz.func185, Tryz.ntmps185
  go_wp2_with (go_at_call 86; refine (l1In_any _ _ _ _).mono ?_; rintro e w' ⟨rfl, rfl⟩)
  go_ret
  exact ⟨by rw [HF.out]; rfl, HB.out⟩
/-- The order of fibers: behind. -/
def fibGt (f g : Fib) : Bool := if f.a ≠ g.a then decide (g.a < f.a) else if f.b ≠ g.b then decide (g.b < f.b) else if f.l ≠ g.l then decide (g.l < f.l) else decide (g.r < f.r)
def smallF (f : Fib) : Prop := (-100000 ≤ f.a ∧ f.a ≤ 100000) ∧ (-100000 ≤ f.b ∧ f.b ≤ 100000) ∧ (-100000 ≤ f.l ∧ f.l ≤ 100000) ∧ (-100000 ≤ f.r ∧ f.r ≤ 100000)
/-- The order of fibers, as the reference has it. -/
def befF (f g : Fib) : Int := if f.a ≠ g.a then f.a - g.a else if f.b ≠ g.b then f.b - g.b else if f.l ≠ g.l then f.l - g.l else f.r - g.r
theorem befF_gt (f g : Fib) : decide (0 < befF f g) = fibGt f g := by
  unfold befF fibGt
  by_cases e1 : f.a ≠ g.a
  · rw [if_pos e1, if_pos e1]; congr 1; simp only [eq_iff_iff]; omega
  · rw [if_neg e1, if_neg e1]
    by_cases e2 : f.b ≠ g.b
    · rw [if_pos e2, if_pos e2]; congr 1; simp only [eq_iff_iff]; omega
    · rw [if_neg e2, if_neg e2]
      by_cases e3 : f.l ≠ g.l
      · rw [if_pos e3, if_pos e3]; congr 1; simp only [eq_iff_iff]; omega
      · rw [if_neg e3, if_neg e3]; congr 1; simp only [eq_iff_iff]; omega
set_option maxHeartbeats 1600000 in
theorem l2Before_any (f g : Fib) (w : World) (hf : smallF f) (hg : smallF g) :
    Calls Tryz.prog 186 #[fibV f, fibV g] w fun e w' => e = .returned (.int .i64 (befF f g)) ∧ Below w.heap.size w w' := by
  obtain ⟨a, b, l, r⟩ := f
  obtain ⟨a', b', l', r'⟩ := g
  obtain ⟨a1, b1, l1, r1⟩ := hf
  obtain ⟨a2, b2, l2, r2⟩ := hg
  simp only at a1 b1 l1 r1 a2 b2 l2 r2
  have hal := (Below.refl w.heap.size w).alloc (Nat.le_refl _) (.cells #[.int .i64 a, .int .i64 b, .int .i64 l, .int .i64 r] 148)
  have HB := Lib.hid (hal.alloc hal.size (.cells #[.int .i64 a', .int .i64 b', .int .i64 l', .int .i64 r'] 148))
  have HD := Lib.hid (show ∀ d : Int, (if a ≠ a' then d = a - a' else if b ≠ b' then d = b - b' else if l ≠ l' then d = l - l' else d = r - r') → befF ⟨a, b, l, r⟩ ⟨a', b', l', r'⟩ = d from by
    intro d h
    unfold befF
    simp only
    split at h
    · rename_i e
      rw [if_pos e]; exact h.symm
    · rename_i e
      rw [if_neg e]
      split at h
      · rename_i e2
        rw [if_pos e2]; exact h.symm
      · rename_i e2
        rw [if_neg e2]
        split at h
        · rename_i e3
          rw [if_pos e3]; exact h.symm
        · rename_i e3
          rw [if_neg e3]; exact h.symm)
  generalize befF ⟨a, b, l, r⟩ ⟨a', b', l', r'⟩ = q at *
  unfold fibV
  clear hal
  by_cases e1 : a = a'
  case neg =>
    have e1b : (a != a') = true := by rw [bne_iff_ne]; exact e1
    have HX := Lib.hid (HD.out (a - a') (by rw [if_pos e1]))
    clear e1
    go_enter Tryz.func186, Tryz.ntmps186
    go_wp2
    go_ret
    exact ⟨by rw [HX.out]; rfl, HB.out⟩
  have e1b : (a != a') = false := by simp [e1]
  by_cases e2 : b = b'
  case neg =>
    have e2b : (b != b') = true := by rw [bne_iff_ne]; exact e2
    have HX := Lib.hid (HD.out (b - b') (by rw [if_neg (by simpa using e1), if_pos e2]))
    clear e1 e2
    go_enter Tryz.func186, Tryz.ntmps186
    go_wp2
    go_ret
    exact ⟨by rw [HX.out]; rfl, HB.out⟩
  have e2b : (b != b') = false := by simp [e2]
  by_cases e3 : l = l'
  case neg =>
    have e3b : (l != l') = true := by rw [bne_iff_ne]; exact e3
    have HX := Lib.hid (HD.out (l - l') (by rw [if_neg (by simpa using e1), if_neg (by simpa using e2), if_pos e3]))
    clear e1 e2 e3
    go_enter Tryz.func186, Tryz.ntmps186
    go_wp2
    go_ret
    exact ⟨by rw [HX.out]; rfl, HB.out⟩
  have e3b : (l != l') = false := by simp [e3]
  have HX := Lib.hid (HD.out (r - r') (by rw [if_neg (by simpa using e1), if_neg (by simpa using e2), if_neg (by simpa using e3)]))
  clear e1 e2 e3
  go_enter Tryz.func186, Tryz.ntmps186
  go_wp2
  go_ret
  exact ⟨by rw [HX.out]; rfl, HB.out⟩
end Go.Proofs.YtmkkdenhjfjmgaaGreat
namespace Go.Proofs.YtmkkdenhjfjmgaaGreat
open Go.RowKit
set_option maxRecDepth 100000

def cmpI (a b : Int) : Int := if a < b then -1 else if b < a then 1 else 0
theorem notNaN_any (a : Int) (w : World) : Calls Tryz.prog 203 #[.int .i64 a] w fun e w' => e = .returned (.bool false) ∧ w = w' := by
  have h : (a != a) = false := by simp
  go_enter Tryz.func203, Tryz.ntmps203
  go_wp2
  go_ret
  exact ⟨rfl, rfl⟩
theorem compare_any (a b : Int) (w : World) : Calls Tryz.prog 206 #[.int .i64 a, .int .i64 b] w fun e w' => e = .returned (.int .i64 (cmpI a b)) ∧ w = w' := by
  by_cases h1 : a < b
  · have h1d : decide (a < b) = true := decide_eq_true h1
    have HR := Lib.hid (show cmpI a b = -1 by unfold cmpI; rw [if_pos h1])
    go_enter Tryz.func206, Tryz.ntmps206
    go_wp2_with (go_at_call 203; refine (notNaN_any _ _).mono ?_; rintro e w' ⟨rfl, rfl⟩)
    go_ret
    exact ⟨by rw [HR.out]; rfl, rfl⟩
  have h1d : decide (a < b) = false := decide_eq_false h1
  by_cases h2 : b < a
  · have h2d : decide (b < a) = true := decide_eq_true h2
    have HR := Lib.hid (show cmpI a b = 1 by unfold cmpI; rw [if_neg h1, if_pos h2])
    go_enter Tryz.func206, Tryz.ntmps206
    go_wp2_with (go_at_call 203; refine (notNaN_any _ _).mono ?_; rintro e w' ⟨rfl, rfl⟩)
    go_ret
    exact ⟨by rw [HR.out]; rfl, rfl⟩
  · have h2d : decide (b < a) = false := decide_eq_false h2
    have HR := Lib.hid (show cmpI a b = 0 by unfold cmpI; rw [if_neg h1, if_neg h2])
    go_enter Tryz.func206, Tryz.ntmps206
    go_wp2_with (go_at_call 203; refine (notNaN_any _ _).mono ?_; rintro e w' ⟨rfl, rfl⟩)
    go_ret
    exact ⟨by rw [HR.out]; rfl, rfl⟩
/-- The first that is not 0. -/
def orI : List Int → Int
  | [] => 0
  | x :: xs => if x = 0 then orI xs else x
theorem orI_none : ∀ {xs : List Int}, xs.all (fun x => x == 0) = true → orI xs = 0
  | [], _ => rfl
  | x :: xs, h => by
    simp only [List.all_cons, Bool.and_eq_true, beq_iff_eq] at h
    rw [orI, if_pos h.1]; exact orI_none h.2
theorem orI_some : ∀ {xs : List Int} {k : Nat}, k < xs.length → (xs.take k).all (fun x => x == 0) = true → xs[k]?.getD 0 ≠ 0 → orI xs = xs[k]?.getD 0
  | [], k, hk, _, _ => by simp at hk
  | x :: xs, 0, _, _, e => by
    have e : x ≠ 0 := by simpa using e
    rw [orI, if_neg e]; simp
  | x :: xs, k + 1, hk, h, e => by
    simp only [List.take_succ_cons, List.all_cons, Bool.and_eq_true, beq_iff_eq] at h
    rw [orI, if_pos h.1, List.getElem?_cons_succ]
    exact orI_some (by simpa using hk) h.2 (by simpa using e)
theorem all0_more {xs : List Int} {k : Nat} (hk : k < xs.length) (h : (xs.take k).all (fun x => x == 0) = true) (e : xs[k]?.getD 0 = 0) : (xs.take (k + 1)).all (fun x => x == 0) = true := by
  rw [List.getElem?_eq_getElem hk] at e
  rw [List.take_add_one, List.all_append, h, List.getElem?_eq_getElem hk]
  simpa using e
set_option maxHeartbeats 1600000 in
theorem or_any (v : Value) (xs : List Int) (w : World) (h : Rd w v xs) :
    Calls Tryz.prog 205 #[v] w fun e w' => e = .returned (.int .i64 (orI xs)) ∧ w = w' := by
  obtain ⟨a, cap, n, HN, rfl, _, hnl, ha⟩ := h.opn
  have HA := Lib.hid ha
  have HO := Lib.hid (@orI_none xs)
  have HS := Lib.hid (fun k (hk : k < xs.length) => @orI_some xs k hk)
  have HM := Lib.hid (fun k (hk : k < xs.length) => @all0_more xs k hk)
  clear ha h
  generalize orI xs = r at *
  go_enter Tryz.func205, Tryz.ntmps205
  go_wp2
  go_loop [5, 8] (fun _ i => ∃ k : Nat, k ≤ n ∧ i = .int .i64 k ∧ Hid ((xs.take k).all (fun x => x == 0) = true)) (fun _ i => n - (intOf i).toNat)
  case atStart => exact ⟨0, Nat.zero_le _, rfl, by simp [Hid]⟩
  case round =>
    obtain ⟨k, hk, rfl, HT⟩ := hrel
    by_cases hlt : k < n
    · have hltI : (k : Int) < (n : Int) := by omega
      have hkx : k < xs.length := by rw [HN.out]; exact hlt
      obtain ⟨b, off, rfl, hbs, hcs⟩ := HA.out (by omega)
      have hc0 := hcs k hlt
      have HS1 := Lib.hid (HS.out k hkx HT.out)
      have HM1 := Lib.hid (HM.out k hkx HT.out)
      clear hcs hkx
      generalize xs[k]?.getD 0 = x at *
      by_cases he : x = 0
      · have HE := Lib.hid (HM1.out he)
        have heb : (x != 0) = false := by simp [he]
        clear he
        go_wp2
        go_round
        case rel => exact ⟨k + 1, by omega, by go_num, HE.out⟩
        case measure => simp [intOf]; omega
      · have HE := Lib.hid (HS1.out he)
        have heb : (x != 0) = true := by rw [bne_iff_ne]; exact he
        clear he
        go_wp2
        go_ret
        exact ⟨by rw [HE.out]; rfl, rfl⟩
    · obtain rfl : k = n := by omega
      have hall := HT.out
      rw [← HN.out, List.take_length] at hall
      have HE := Lib.hid (HO.out hall)
      clear hall
      go_wp2
      go_ret
      exact ⟨by rw [HE.out]; rfl, rfl⟩
end Go.Proofs.YtmkkdenhjfjmgaaGreat
namespace Go.Proofs.YtmkkdenhjfjmgaaGreat
open Go.RowKit
set_option maxRecDepth 100000

theorem orI_fib (f g : Fib) : decide (0 < orI [cmpI f.a g.a, cmpI f.b g.b, cmpI f.l g.l, cmpI f.r g.r]) = fibGt f g := by
  have hc : ∀ a b : Int, (a = b ∧ cmpI a b = 0) ∨ (a ≠ b ∧ cmpI a b ≠ 0 ∧ decide (0 < cmpI a b) = decide (b < a)) := by
    intro a b
    unfold cmpI
    by_cases h1 : a < b
    · rw [if_pos h1]; right; refine ⟨by omega, by omega, ?_⟩
      rw [decide_eq_false (show ¬ (0:Int) < -1 by omega), decide_eq_false (show ¬ b < a by omega)]
    · rw [if_neg h1]
      by_cases h2 : b < a
      · rw [if_pos h2]; right; refine ⟨by omega, by omega, ?_⟩
        rw [decide_eq_true h2]; rfl
      · rw [if_neg h2]; left; exact ⟨by omega, rfl⟩
  unfold fibGt
  rcases hc f.a g.a with ⟨e1, z1⟩ | ⟨e1, z1, d1⟩
  · rw [if_neg (by simpa using e1), orI, if_pos z1]
    rcases hc f.b g.b with ⟨e2, z2⟩ | ⟨e2, z2, d2⟩
    · rw [if_neg (by simpa using e2), orI, if_pos z2]
      rcases hc f.l g.l with ⟨e3, z3⟩ | ⟨e3, z3, d3⟩
      · rw [if_neg (by simpa using e3), orI, if_pos z3]
        rcases hc f.r g.r with ⟨e4, z4⟩ | ⟨e4, z4, d4⟩
        · rw [orI, if_pos z4, orI, e4, decide_eq_false (by omega), decide_eq_false (by omega)]
        · rw [orI, if_neg z4, d4]
      · rw [if_pos e3, orI, if_neg z3, d3]
    · rw [if_pos e2, orI, if_neg z2, d2]
  · rw [if_pos e1, orI, if_neg z1, d1]
/-- The order of fibers, as the program has it. -/
def cmpF (f g : Fib) : Int := orI [cmpI f.a g.a, cmpI f.b g.b, cmpI f.l g.l, cmpI f.r g.r]
theorem cmpF_gt (f g : Fib) : decide (0 < cmpF f g) = fibGt f g := orI_fib f g
theorem rd_alloc (w : World) (T : TypeId) (xs : List Int) (h : xs.length ≤ maxLen) : Rd (w.alloc (.cells (ints xs).toArray T)) (.slice (some ⟨w.heap.size, 0, none⟩) xs.length xs.length) xs := by
  refine .inr ⟨w.heap.size, 0, xs.length, rfl, Nat.le_refl _, h, by simp, fun j hj => ?_⟩
  have hn := heap_alloc_new w (.cells (ints xs).toArray T)
  rw [cell_of_row _ _ _ _ _ _ hn]
  simp [hj]
theorem blkc {w : World} {b j : Nat} {us : Array Value} {T : TypeId} {u : Value} (h : w.heap[b]? = some (.cells us T (0, 0))) (hj : us[j]? = some u) : w.cell? ⟨b, j, none⟩ = some u := by
  rw [cell_of_row _ _ _ _ _ _ h, hj]
set_option maxHeartbeats 1600000 in
theorem compareFibers_any (f g : Fib) (w : World) :
    Calls Tryz.prog 177 #[fibV f, fibV g] w fun e w' => e = .returned (.int .i64 (cmpF f g)) ∧ Below w.heap.size w w' := by
  have HO := Lib.hid (show cmpF f g = orI [cmpI f.a g.a, cmpI f.b g.b, cmpI f.l g.l, cmpI f.r g.r] from rfl)
  generalize cmpF f g = q at *
  obtain ⟨a, b, l, r⟩ := f
  obtain ⟨a', b', l', r'⟩ := g
  unfold fibV
  go_enter Tryz.func177, Tryz.ntmps177
  go_wp2
  have hA := heap_alloc_new w (.cells #[.int .i64 a, .int .i64 b, .int .i64 l, .int .i64 r] 148)
  have hA2 := (heap_alloc_old _ (.cells #[.int .i64 a', .int .i64 b', .int .i64 l', .int .i64 r'] 148) (Array.getElem?_eq_some_iff.1 hA).1).trans hA
  have hB2 := heap_alloc_new (w.alloc (.cells #[.int .i64 a, .int .i64 b, .int .i64 l, .int .i64 r] 148)) (.cells #[.int .i64 a', .int .i64 b', .int .i64 l', .int .i64 r'] 148)
  rw [show (w.alloc (.cells #[.int .i64 a, .int .i64 b, .int .i64 l, .int .i64 r] 148)).heap.size = w.heap.size + 1 by simp] at hB2
  have hal := (Below.refl w.heap.size w).alloc (Nat.le_refl _) (.cells #[.int .i64 a, .int .i64 b, .int .i64 l, .int .i64 r] 148)
  have HB := Lib.hid (hal.alloc hal.size (.cells #[.int .i64 a', .int .i64 b', .int .i64 l', .int .i64 r'] 148))
  clear hA hal
  generalize (w.alloc (.cells #[.int .i64 a, .int .i64 b, .int .i64 l, .int .i64 r] 148)).alloc (.cells #[.int .i64 a', .int .i64 b', .int .i64 l', .int .i64 r'] 148) = W at *
  have c0 := blkc hA2 (j := 0) rfl
  have c1 := blkc hA2 (j := 1) rfl
  have c2 := blkc hA2 (j := 2) rfl
  have c3 := blkc hA2 (j := 3) rfl
  have c4 := blkc hB2 (j := 0) rfl
  have c5 := blkc hB2 (j := 1) rfl
  have c6 := blkc hB2 (j := 2) rfl
  have c7 := blkc hB2 (j := 3) rfl
  clear hA2 hB2
  go_still_tail 20, (by kernel_rfl)
  still_call ((compare_any _ _ _).mono fun _ _ h => ⟨h.1, h.2.symm⟩)
  repeat still_step
  still_call ((compare_any _ _ _).mono fun _ _ h => ⟨h.1, h.2.symm⟩)
  repeat still_step
  still_call ((compare_any _ _ _).mono fun _ _ h => ⟨h.1, h.2.symm⟩)
  repeat still_step
  still_call ((compare_any _ _ _).mono fun _ _ h => ⟨h.1, h.2.symm⟩)
  repeat still_step
  refine wpStill_nil ?_
  go_wp2_with fail
  refine (or_any _ [cmpI a a', cmpI b b', cmpI l l', cmpI r r'] _ (show Rd (W.alloc (.cells #[.int .i64 (cmpI a a'), .int .i64 (cmpI b b'), .int .i64 (cmpI l l'), .int .i64 (cmpI r r')] 3)).drew (.slice (some ⟨W.heap.size, 0, none⟩) 4 4) [cmpI a a', cmpI b b', cmpI l l', cmpI r r'] from (rd_alloc W 3 [cmpI a a', cmpI b b', cmpI l l', cmpI r r'] (by show 4 ≤ maxLen; decide)).drew)).mono ?_
  rintro e w' ⟨rfl, rfl⟩
  go_wp2
  go_ret
  exact ⟨by rw [HO.out]; rfl, (HB.out.alloc HB.out.size _).drew⟩
end Go.Proofs.YtmkkdenhjfjmgaaGreat
namespace Go.Proofs.YtmkkdenhjfjmgaaGreat
open Go.RowKit Go.Sort

/-! ### Boxes, regions -/
theorem box_facts (w : World) (us : Array Value) (T : TypeId) : Below w.heap.size w (w.alloc (.cells us T)) ∧ (∀ j u, us[j]? = some u → (w.alloc (.cells us T)).cell? ⟨w.heap.size, j, none⟩ = some u) ∧ w.heap.size < (w.alloc (.cells us T)).heap.size ∧ (∀ j, (w.alloc (.cells us T)).frozen? ⟨w.heap.size, j, none⟩ = false) :=
  ⟨(Below.refl w.heap.size w).alloc (Nat.le_refl _) _, fun j u h => blkc (heap_alloc_new w (.cells us T)) h, by simp, fun j => frozen_of_row _ _ _ _ _ (heap_alloc_new w (.cells us T))⟩
theorem bcell {W w1 : World} (hb : Below W.heap.size W w1) : (∀ b o, b < W.heap.size → w1.cell? ⟨b, o, none⟩ = W.cell? ⟨b, o, none⟩) ∧ (∀ b o, b < W.heap.size → w1.frozen? ⟨b, o, none⟩ = W.frozen? ⟨b, o, none⟩) :=
  ⟨fun b o h => hb.cell (p := ⟨b, o, none⟩) h, fun b o h => hb.frozen (p := ⟨b, o, none⟩) h⟩
theorem rg {w : World} {a : Addr} {v : Value} (h : w.cell? a = some v) : ∀ d os, (grow (redrawn w d) os).cell? a = some v := fun d os => cell_regrown h d os
theorem rg_same {P : Program} {f : FuncId} {args : Array Value} {w : World} {d : Nat} {os : Array Obj} {v : Value}
    (h : Calls P f args (grow (redrawn w d) os) fun e w' => e = .returned v ∧ grow (redrawn w d) os = w') : Calls P f args (grow (redrawn w d) os) fun e w'' => e = .returned v ∧ ∃ p : Regrown, w'' = grow (redrawn w p.d) p.os :=
  h.mono fun _ _ ⟨he, hb⟩ => ⟨he, ⟨⟨d, os⟩, hb.symm⟩⟩
theorem rg_dr {P : Program} {f : FuncId} {args : Array Value} {w : World} {d : Nat} {os : Array Obj} {v : Value}
    (h : Calls P f args (grow (redrawn w d) os) fun e w' => e = .returned v ∧ Dr (grow (redrawn w d) os) w') : Calls P f args (grow (redrawn w d) os) fun e w'' => e = .returned v ∧ ∃ p : Regrown, w'' = grow (redrawn w p.d) p.os :=
  Calls.regrown_of (h.mono fun _ _ ⟨he, hb⟩ => ⟨he, hb.below (Below.refl _ _)⟩)
theorem Rdt.rg {w : World} {dt : Dt} {v : Value} (h : Rdt w dt v) (d : Nat) (os : Array Obj) : Rdt (grow (redrawn w d) os) dt v := h.behind (below_regrown w d os)

/-! ### Ranges -/
theorem rng_no {m i : Nat} {P : Nat → Bool} (hi : i < m) (h : P i = false) : (List.range m).all P = false := by
  rw [List.all_eq_false]; exact ⟨i, List.mem_range.2 hi, by simp [h]⟩
theorem rng_yes {m : Nat} {P : Nat → Bool} (h : ∀ i, i < m → P i = true) : (List.range m).all P = true := by
  rw [List.all_eq_true]; exact fun i hi => h i (List.mem_range.1 hi)
theorem upto_succ {k : Nat} {P : Nat → Bool} (h : ∀ i, i < k → P i = true) (hk : P k = true) : ∀ i, i < k + 1 → P i = true := fun i hi => by
  by_cases e : i = k
  · rw [e]; exact hk
  · exact h i (by omega)

/-! ### Networks -/
structure Net where
  ns : List ByteArray
  fs : List Fib
abbrev nmA (n : Net) (i : Nat) : ByteArray := n.ns[i]?.getD nilS
abbrev fbA (n : Net) (i : Nat) : Fib := n.fs[i]?.getD nilB
def nmOk (n : Net) (i : Nat) : Bool := nameOk (nmA n i) && decide (plc n.ns (nmA n i) = (i : Int))
def fbOk (n : Net) (i : Nat) : Bool := fibOk (fbA n i) n.ns.length && !(decide (0 < i) && fibGt (fbA n (i - 1)) (fbA n i))
def netOk (n : Net) : Bool := decide (2 ≤ n.ns.length ∧ n.ns.length ≤ 8 ∧ n.fs.length ≤ 14) && ((List.range n.ns.length).all (nmOk n) && (List.range n.fs.length).all (fbOk n))
theorem netOk_nm {n : Net} {i : Nat} (hi : i < n.ns.length) (h : nmOk n i = false) : netOk n = false := by
  unfold netOk; rw [rng_no hi h]; simp
theorem netOk_fb {n : Net} {i : Nat} (hi : i < n.fs.length) (h : fbOk n i = false) : netOk n = false := by
  unfold netOk; rw [rng_no hi h]; simp
theorem netOk_sz {n : Net} (h : ¬ (2 ≤ n.ns.length ∧ n.ns.length ≤ 8 ∧ n.fs.length ≤ 14)) : netOk n = false := by
  unfold netOk; rw [decide_eq_false h]; simp
theorem netOk_all {n : Net} (h1 : ∀ i, i < n.ns.length → nmOk n i = true) (h2 : ∀ i, i < n.fs.length → fbOk n i = true) : netOk n = decide (2 ≤ n.ns.length ∧ n.ns.length ≤ 8 ∧ n.fs.length ≤ 14) := by
  unfold netOk; rw [rng_yes h1, rng_yes h2]; simp
theorem netOk_yes {n : Net} (h : netOk n = true) : 2 ≤ n.ns.length ∧ n.ns.length ≤ 8 ∧ n.fs.length ≤ 14 ∧ (∀ i, i < n.ns.length → nmOk n i = true) ∧ (∀ i, i < n.fs.length → fbOk n i = true) := by
  unfold netOk at h
  simp only [Bool.and_eq_true, decide_eq_true_eq, List.all_eq_true] at h
  obtain ⟨⟨a, b, c⟩, d, e⟩ := h
  exact ⟨a, b, c, fun i hi => d i (List.mem_range.2 hi), fun i hi => e i (List.mem_range.2 hi)⟩
theorem fibOk_parts {f : Fib} {m : Nat} (h : fibOk f m = true) : 0 ≤ f.a ∧ f.a < f.b ∧ f.b < m ∧ 1 ≤ f.l ∧ f.l ≤ 5000 ∧ 0 ≤ f.r ∧ f.r ≤ 9 := by
  unfold fibOk at h
  simp only [Bool.and_eq_true] at h
  obtain ⟨⟨⟨h1, h2⟩, h3⟩, h4⟩ := h
  have := inB_true h1; have := inB_true h2; have := inB_true h3; have := inB_true h4
  omega
theorem fibOk_small {f : Fib} {m : Nat} (h : fibOk f m = true) (hm : m ≤ 1000) : smallF f := by
  have := fibOk_parts h
  unfold smallF
  omega
theorem plc_pre {ns : List ByteArray} {k : Nat} (hk : k < ns.length) : decide (0 ≤ plc (ns.take k) (ns[k]?.getD nilS)) = !decide (plc ns (ns[k]?.getD nilS) = (k : Int)) := by
  generalize hx : ns[k]?.getD nilS = x
  cases h : (ns.take k).any (fun s => s.toList == x.toList)
  · rw [plc_none h, plc_some hk h (by rw [hx]; simp)]; simp
  · have h1 : 0 ≤ plc (ns.take k) x ∧ plc (ns.take k) x < k ∧ plc ns x = plc (ns.take k) x := by
      unfold plc
      cases hf : (ns.take k).findIdx? (fun s => s.toList == x.toList) with
      | none =>
        rw [List.findIdx?_eq_none_iff] at hf
        obtain ⟨s, hs, e⟩ := List.any_eq_true.1 h
        rw [hf s hs] at e; cases e
      | some i =>
        obtain ⟨hi, e1, e2⟩ := List.findIdx?_eq_some_iff_getElem.1 hf
        have hi' : i < k := by simp at hi; omega
        have hfull : ns.findIdx? (fun s => s.toList == x.toList) = some i := List.findIdx?_eq_some_iff_getElem.2 ⟨by omega, by simpa using e1, fun j hj => by have := e2 j hj; simpa using this⟩
        rw [hfull]
        simp; omega
    rw [decide_eq_true h1.1, h1.2.2, decide_eq_false (by omega)]; rfl

/-- The value reads as the network. -/
def NetR (w : World) (v : Value) (n : Net) : Prop := ∃ u1 u2, v = .agg #[u1, u2] ∧ Rdt w (flt 1 strE n.ns) u1 ∧ Rdt w (flt 4 fibE n.fs) u2 ∧ ∀ i : Nat, (nmA n i).size ≤ 1048576
theorem NetR.behind {w w' : World} {v : Value} {n : Net} (h : NetR w v n) (hb : Below w.heap.size w w') : NetR w' v n := by
  obtain ⟨u1, u2, e, h1, h2, h3⟩ := h; exact ⟨u1, u2, e, h1.behind hb, h2.behind hb, h3⟩
theorem flt_take {α : Type} {enc : α → List Value} {m : Nat} {w : World} {a : Option Addr} {n cap k : Nat} {zs : List α} (hm : ∀ z, (enc z).length = m) (hm0 : 0 < m) (h : Rdt w (flt m enc zs) (.slice a n cap)) (hk : k ≤ n) : Rdt w (flt m enc (zs.take k)) (.slice a k cap) := by
  unfold flt at h ⊢
  have hlen := fltC_len hm zs
  have hlk := fltC_len hm (zs.take k)
  have hat : ∀ j, j < k * m → (fltC enc (zs.take k))[j]? = (fltC enc zs)[j]? := fun j hj => by
    obtain ⟨i, r, hr, rfl⟩ : ∃ i r, r < m ∧ j = i * m + r := ⟨j / m, j % m, Nat.mod_lt _ hm0, by rw [Nat.mul_comm]; exact (Nat.div_add_mod j m).symm⟩
    have hi : i < k := by
      by_cases e : i < k
      · exact e
      · have := Nat.mul_le_mul_right m (Nat.le_of_not_lt e); omega
    rw [fltC_at hm _ i r hr, fltC_at hm _ i r hr, List.getElem?_take, if_pos hi]
  generalize fltC enc zs = ds at *
  generalize fltC enc (zs.take k) = ds' at *
  cases h with
  | nil size =>
    obtain rfl : k = 0 := by omega
    have : ds' = [] := List.eq_nil_of_length_eq_zero (by simpa using hlk)
    rw [this]; exact .nil m
  | @mk size n b off cap ds us hl hu hn hc hb hcell hd =>
    have hzl : zs.length = n := Nat.eq_of_mul_eq_mul_right hm0 (by omega)
    rw [List.length_take, hzl, Nat.min_eq_left hk] at hlk
    have hkm := Nat.mul_le_mul_right m hk
    refine .mk (us := us.take (k * m)) hlk (by rw [List.length_take, hlk]; omega) (by omega) hc hb (fun j u hj => ?_) (fun j d u e1 e2 => ?_)
    · rw [List.getElem?_take] at hj
      split at hj
      · exact hcell j u hj
      · cases hj
    · rw [List.getElem?_take] at e2
      split at e2
      · rename_i hjk
        rw [hat j hjk] at e1
        exact hd j d u e1 e2
      · cases e2
theorem Rdt.slice' {α : Type} {enc : α → List Value} {m : Nat} {zs : List α} {w : World} {v : Value} (h : Rdt w (flt m enc zs) v) : ∃ a n cap, v = .slice a n cap := by
  obtain ⟨a, n, cap, e, _⟩ := Rdt.opn (show Rdt w (.rows m (fltC enc zs)) v from h); exact ⟨a, n, cap, e⟩
end Go.Proofs.YtmkkdenhjfjmgaaGreat
namespace Go.Proofs.YtmkkdenhjfjmgaaGreat
open Go.RowKit

theorem kept_o' {X Y : World} {b : Nat} {x : Obj} (h : X.heap[b]? = some x) (hb : Below X.heap.size X Y) : Y.heap[b]? = some x := by
  rw [hb.block b (Array.getElem?_eq_some_iff.1 h).1]; exact h
section
variable {α : Type}
theorem flatV_at {enc : α → List Value} {m : Nat} (hm : ∀ z, (enc z).length = m) : ∀ (zs : List α) (i r : Nat), r < m → (zs.flatMap enc)[i * m + r]? = (zs[i]?).bind fun z => (enc z)[r]?
  | [], i, r, _ => by simp
  | z :: zs, 0, r, h => by
    rw [List.flatMap_cons, List.getElem?_append_left (by rw [hm]; omega)]
    simp
  | z :: zs, i + 1, r, h => by
    rw [List.flatMap_cons, List.getElem?_append_right (by rw [hm, Nat.add_mul]; omega), hm, show (i + 1) * m + r - m = i * m + r by rw [Nat.add_mul]; omega, flatV_at hm zs i r h]
    simp
theorem madeCells_flat {enc : α → List Value} {m : Nat} (hm : ∀ z, (enc z).length = m) (hm0 : 0 < m) (nil : α) (zc : Array Value) (hz : zc.toList = enc nil) (n : Nat) : (madeCells zc (n * m)).toList = (List.replicate n nil).flatMap enc := by
  have hs : zc.size = m := by rw [← Array.length_toList, hz, hm]
  apply List.ext_getElem?
  intro j
  obtain ⟨i, r, hr, rfl⟩ : ∃ i r, r < m ∧ j = i * m + r := ⟨j / m, j % m, Nat.mod_lt _ hm0, by rw [Nat.mul_comm]; exact (Nat.div_add_mod j m).symm⟩
  rw [flatV_at hm _ i r hr]
  have hmod : (i * m + r) % m = r := by rw [Nat.mul_comm, Nat.mul_add_mod]; exact Nat.mod_eq_of_lt hr
  by_cases hi : i < n
  · have hlt : i * m + r < n * m := by
      have := Nat.mul_le_mul_right m (show i + 1 ≤ n by omega)
      rw [Nat.add_mul] at this; omega
    have hre : (List.replicate n nil)[i]? = some nil := by simp [hi]
    rw [hre, Option.bind_some, ← hz, Array.getElem?_toList, Array.getElem?_toList]
    unfold madeCells
    rw [Array.getElem?_map, Array.getElem?_range, if_pos hlt, Option.map_some, hs, hmod]
    simp [hs, hr]
  · have hge : n * m ≤ i * m + r := by
      have := Nat.mul_le_mul_right m (show n ≤ i by omega)
      omega
    have hre : (List.replicate n nil)[i]? = none := by simp; omega
    rw [hre, Option.bind_none, Array.getElem?_toList]
    unfold madeCells
    rw [Array.getElem?_map, Array.getElem?_range, if_neg (by omega)]
    rfl
theorem made_flat {enc : α → List Value} {m : Nat} {w : World} {base n : Nat} {T : TypeId} {v : Value} (hm : ∀ z, (enc z).length = m) (hm0 : 0 < m) (nil : α) {zc : Array Value} (hz : zc.toList = enc nil) (h : w.ownsRow base T m v n (madeCells zc (n * m)).toList) : Ofr w base (flt m enc (List.replicate n nil)) v := by
  rw [madeCells_flat hm hm0 nil zc hz] at h
  exact flt_of_row h
theorem setRow_below {B : Nat} {w : World} {g : Nat} (hB : B ≤ g) (us : List Value) : ∀ (w' : World) (o : Nat), Below B w w' → Below B w (setRow w' g o us) := by
  induction us with
  | nil => intro w' o h; exact h
  | cons u us ih => intro w' o h; exact ih _ _ (h.setCell (p := ⟨g, o, none⟩) hB _)
/-- The first k of n have been filled. -/
def fillG (nil : α) (zs : List α) (n k : Nat) : List α := zs.take k ++ List.replicate (n - k) nil
theorem fillG_zero (nil : α) (zs : List α) (n : Nat) : fillG nil zs n 0 = List.replicate n nil := by simp [fillG]
theorem fillG_all (nil : α) (zs : List α) (n : Nat) (h : zs.length = n) : fillG nil zs n n = zs := by simp [fillG, ← h]
theorem fillG_len (nil : α) (zs : List α) (n k : Nat) (h : zs.length = n) (hk : k ≤ n) : (fillG nil zs n k).length = n := by simp [fillG]; omega
theorem fillG_step (nil : α) (zs : List α) (n k : Nat) (h : zs.length = n) (hk : k < n) : (fillG nil zs n k).set k (zs[k]?.getD nil) = fillG nil zs n (k + 1) := by
  unfold fillG
  have hl : (zs.take k).length = k := by simp; omega
  rw [List.set_append_right _ _ (by omega), hl, Nat.sub_self]
  obtain ⟨m, hm⟩ : ∃ m, n - k = m + 1 := ⟨n - k - 1, by omega⟩
  rw [hm, List.replicate_succ, List.set_cons_zero, show n - (k + 1) = m by omega, List.take_add_one, List.append_assoc, List.getElem?_eq_getElem (show k < zs.length by omega)]
  rfl
/-- The first k have been marked. -/
def mkG (f : Nat → α) (zs : List α) (k : Nat) : List α := (List.range k).map f ++ zs.drop k
theorem mkG_zero (f : Nat → α) (zs : List α) : mkG f zs 0 = zs := by simp [mkG]
theorem mkG_all (f : Nat → α) (zs : List α) (n : Nat) (h : zs.length = n) : mkG f zs n = (List.range n).map f := by simp [mkG, ← h]
theorem mkG_len (f : Nat → α) (zs : List α) (k : Nat) (h : k ≤ zs.length) : (mkG f zs k).length = zs.length := by simp [mkG]; omega
theorem mkG_at (f : Nat → α) (zs : List α) (k : Nat) : (mkG f zs k)[k]? = zs[k]? := by
  rw [mkG, List.getElem?_append_right (by simp)]; simp
theorem mkG_step (f : Nat → α) (zs : List α) (k : Nat) (h : k < zs.length) : (mkG f zs k).set k (f k) = mkG f zs (k + 1) := by
  unfold mkG
  rw [List.set_append_right _ _ (by simp), List.length_map, List.length_range, Nat.sub_self, List.drop_eq_getElem_cons h, List.set_cons_zero, List.range_succ, List.map_append, List.append_assoc]
  rfl
theorem rangeMap_get (f : Nat → α) (nil : α) (n k : Nat) (h : k < n) : ((List.range n).map f)[k]?.getD nil = f k := by simp [h]
/-- Stores over the leaves of an own row. -/
theorem Odt.storeRow {size : Nat} {v : Value} {fp : List Nat} {g off n cap : Nat} (hv : v = .slice (some ⟨g, off, none⟩) n cap) (hn : fp.Nodup) (us : List Value) : ∀ (w : World) (ds : List Dt) (o : Nat), Odt w (.rows size ds) v fp → (∀ r, r < us.length → ∃ u, ds[o + r]? = some (.leaf u)) →
    Odt (setRow w g (off + o) us) (.rows size (setDs ds o us)) v fp ∧ Wr w (setRow w g (off + o) us) fp := by
  induction us with
  | nil => intro w ds o h _; exact ⟨h, Wr.refl _ _⟩
  | cons u us ih =>
    intro w ds o h hl
    obtain ⟨u0, hu0⟩ := hl 0 (by simp)
    obtain ⟨g', off', n', cap', e, -, -, -, h2, h3⟩ := h.store hn (j := o) hu0 u
    rw [hv] at e
    simp only [Value.slice.injEq, Option.some.injEq, Addr.mk.injEq, and_true] at e
    obtain ⟨⟨rfl, rfl⟩, rfl, rfl⟩ := e
    obtain ⟨k1, k2⟩ := ih _ _ (o + 1) h2 (fun r hr => by
      obtain ⟨u1, e1⟩ := hl (r + 1) (by simpa using hr)
      refine ⟨u1, ?_⟩
      rw [List.getElem?_set_ne (by omega), show o + 1 + r = o + (r + 1) by omega, e1])
    exact ⟨k1, h3.trans k2⟩
theorem flt_leaf {enc : α → List Value} {m : Nat} (hm : ∀ z, (enc z).length = m) (zs : List α) {k r : Nat} (hk : k < zs.length) (hr : r < m) : ∃ u, (fltC enc zs)[k * m + r]? = some (.leaf u) := by
  rw [fltC_at hm zs k r hr, List.getElem?_eq_getElem hk]
  have : r < (enc zs[k]).length := by rw [hm]; exact hr
  exact ⟨(enc zs[k])[r], by simp [List.getElem?_eq_getElem this]⟩
/-- Marks stored over an element of an own row. -/
theorem flt_mark {enc : α → List Value} {m : Nat} {w : World} {fp : List Nat} {a : Option Addr} {n cap k : Nat} {zs : List α} (hm : ∀ z, (enc z).length = m) (hm0 : 0 < m) (h : Odt w (flt m enc zs) (.slice a n cap) fp) (hn : fp.Nodup) (hk : k < zs.length) :
    ∃ g off, a = some ⟨g, off, none⟩ ∧ (∀ r, r < m → ∃ u0, w.cell? ⟨g, off + k * m + r, none⟩ = some u0) ∧ (∀ j, w.frozen? ⟨g, j, none⟩ = false) ∧
      ∀ z, Odt (setRow w g (off + k * m) (enc z)) (flt m enc (zs.set k z)) (.slice a n cap) fp ∧ Wr w (setRow w g (off + k * m) (enc z)) fp := by
  obtain ⟨u0, hu0⟩ := flt_leaf hm zs hk hm0
  obtain ⟨g, off, n', cap', e, -, -, hg, -, -⟩ := Odt.store (show Odt w (.rows m (fltC enc zs)) _ fp from h) hn hu0 undef
  simp only [Value.slice.injEq] at e
  obtain ⟨rfl, rfl, rfl⟩ := e
  refine ⟨g, off, rfl, fun r hr => ?_, fun j => ?_, fun z => ?_⟩
  · obtain ⟨u1, hu1⟩ := flt_leaf hm zs hk hr
    obtain ⟨g', off', n', cap', e, hc, -⟩ := Odt.store (show Odt w (.rows m (fltC enc zs)) _ fp from h) hn hu1 undef
    simp only [Value.slice.injEq, Option.some.injEq, Addr.mk.injEq, and_true] at e
    obtain ⟨⟨rfl, rfl⟩, rfl, rfl⟩ := e
    rw [← Nat.add_assoc] at hc
    exact ⟨u1, hc⟩
  · unfold flt at h
    generalize fltC enc zs = ds at h
    cases h with
    | mk hl hu hf hnc hc hgg hcs ht hd => exact frozen_of_row _ _ _ _ _ hgg
  · have := Odt.storeRow rfl hn (enc z) w (fltC enc zs) (k * m) h (fun r hr => flt_leaf hm zs hk (by rw [hm] at hr; exact hr))
    rw [setDs_flt hm hm0 zs z hk] at this
    exact this
end
end Go.Proofs.YtmkkdenhjfjmgaaGreat
namespace Go.Proofs.YtmkkdenhjfjmgaaGreat
open Go.RowKit

section
variable {α : Type}
def rws (m : Nat) (en : α → List Dt) (zs : List α) : Dt := .rows m (zs.flatMap en)
theorem rws_len {en : α → List Dt} {m : Nat} (hm : ∀ z, (en z).length = m) (zs : List α) : (zs.flatMap en).length = zs.length * m := flat_length hm zs
theorem rws_at {en : α → List Dt} {m : Nat} (hm : ∀ z, (en z).length = m) (nil : α) (zs : List α) {i r : Nat} (hi : i < zs.length) (hr : r < m) : (zs.flatMap en)[i * m + r]? = (en (zs[i]?.getD nil))[r]? := by
  rw [flat_at hm zs i r hr, List.getElem?_eq_getElem hi]; rfl
/-- For a walk: the elements of a slice. -/
theorem rws_opn {en : α → List Dt} {m : Nat} {w : World} {v : Value} {zs : List α} (hm : ∀ z, (en z).length = m) (hm0 : 0 < m) (nil : α) (h : Rdt w (rws m en zs) v) :
    ∃ a n cap, v = .slice a n cap ∧ Hid (zs.length = n) ∧ n ≤ cap ∧ n ≤ 9223372036854775807 ∧
    (0 < n → ∃ b off, a = some ⟨b, off, none⟩ ∧ b < w.heap.size ∧ ∀ i, i < n → ∀ r d, (en (zs[i]?.getD nil))[r]? = some d → ∃ u, w.cell? ⟨b, off + i * m + r, none⟩ = some u ∧ Rdt w d u) := by
  obtain ⟨a, n, cap, hv, HN, h1, h2, h3⟩ := h.opn
  have hn : zs.length = n := by
    have := HN.out
    rw [rws_len hm] at this
    exact Nat.eq_of_mul_eq_mul_right hm0 this
  refine ⟨a, n, cap, hv, hn, h1, h2, fun h0 => ?_⟩
  obtain ⟨b, off, ea, hb, hc⟩ := h3 h0
  refine ⟨b, off, ea, hb, fun i hi r d hd => ?_⟩
  have hr : r < m := by rw [← hm (zs[i]?.getD nil)]; exact (List.getElem?_eq_some_iff.1 hd).1
  obtain ⟨u, k1, k2⟩ := hc (i * m + r) d (by rw [rws_at hm nil zs (by omega) hr]; exact hd)
  exact ⟨u, by rw [Nat.add_assoc]; exact k1, k2⟩
theorem rws_opnw {en : α → List Dt} {m : Nat} {w : World} {v : Value} {zs : List α} (hm : ∀ z, (en z).length = m) (hm0 : 0 < m) (nil : α) (h : Rwt w (rws m en zs) v) :
    ∃ a n cap, v = .slice a n cap ∧ Hid (zs.length = n) ∧ n ≤ 9223372036854775807 ∧
    (0 < n → ∃ b off, a = some ⟨b, off, none⟩ ∧ b < w.heap.size ∧ ∀ i, i < n → ∀ r d, (en (zs[i]?.getD nil))[r]? = some d → ∃ u, w.cell? ⟨b, off + i * m + r, none⟩ = some u ∧ Rwt w d u) := by
  obtain ⟨a, n, cap, hv, HN, h2, h3⟩ := h.opn
  have hn : zs.length = n := by
    have := HN.out
    rw [rws_len hm] at this
    exact Nat.eq_of_mul_eq_mul_right hm0 this
  refine ⟨a, n, cap, hv, hn, h2, fun h0 => ?_⟩
  obtain ⟨b, off, ea, hb, hc⟩ := h3 h0
  refine ⟨b, off, ea, hb, fun i hi r d hd => ?_⟩
  have hr : r < m := by rw [← hm (zs[i]?.getD nil)]; exact (List.getElem?_eq_some_iff.1 hd).1
  obtain ⟨u, k1, k2⟩ := hc (i * m + r) d (by rw [rws_at hm nil zs (by omega) hr]; exact hd)
  exact ⟨u, by rw [Nat.add_assoc]; exact k1, k2⟩
theorem rws_slice {en : α → List Dt} {m : Nat} {zs : List α} {w : World} {v : Value} (h : Rdt w (rws m en zs) v) : ∃ a n cap, v = .slice a n cap := by
  obtain ⟨a, n, cap, e, _⟩ := Rdt.opn (show Rdt w (.rows m (zs.flatMap en)) v from h); exact ⟨a, n, cap, e⟩
/-- The first k of a slice's elements. -/
theorem rws_take {en : α → List Dt} {m : Nat} {w : World} {a : Option Addr} {n cap k : Nat} {zs : List α} (hm : ∀ z, (en z).length = m) (hm0 : 0 < m) (nil : α) (h : Rdt w (rws m en zs) (.slice a n cap)) (hk : k ≤ n) : Rdt w (rws m en (zs.take k)) (.slice a k cap) := by
  unfold rws at h ⊢
  have hlen := rws_len hm zs
  have hlk := rws_len hm (zs.take k)
  have hat : ∀ j, j < (zs.take k).length * m → ((zs.take k).flatMap en)[j]? = (zs.flatMap en)[j]? := fun j hj => by
    obtain ⟨i, r, hr, rfl⟩ : ∃ i r, r < m ∧ j = i * m + r := ⟨j / m, j % m, Nat.mod_lt _ hm0, by rw [Nat.mul_comm]; exact (Nat.div_add_mod j m).symm⟩
    have hi : i < (zs.take k).length := by
      by_cases e : i < (zs.take k).length
      · exact e
      · have := Nat.mul_le_mul_right m (Nat.le_of_not_lt e); omega
    have hi2 : i < zs.length := by rw [List.length_take] at hi; omega
    have hik : i < k := by rw [List.length_take] at hi; omega
    rw [rws_at hm nil (zs.take k) hi hr, rws_at hm nil zs hi2 hr, List.getElem?_take, if_pos hik]
  generalize zs.flatMap en = ds at *
  generalize (zs.take k).flatMap en = ds' at *
  cases h with
  | nil size =>
    obtain rfl : k = 0 := by omega
    have : ds' = [] := List.eq_nil_of_length_eq_zero (by simpa using hlk)
    rw [this]; exact .nil m
  | @mk size n b off cap ds us hl hu hn hc hb hcell hd =>
    have hzl : zs.length = n := Nat.eq_of_mul_eq_mul_right hm0 (by omega)
    have hkl : (zs.take k).length = k := by rw [List.length_take]; omega
    rw [hkl] at hlk hat
    have hkm := Nat.mul_le_mul_right m hk
    refine .mk (us := us.take (k * m)) hlk (by rw [List.length_take, hlk]; omega) (by omega) hc hb (fun j u hj => ?_) (fun j d u e1 e2 => ?_)
    · rw [List.getElem?_take] at hj
      split at hj
      · exact hcell j u hj
      · cases hj
    · rw [List.getElem?_take] at e2
      split at e2
      · rename_i hjk
        rw [hat j hjk] at e1
        exact hd j d u e1 e2
      · cases e2
end
end Go.Proofs.YtmkkdenhjfjmgaaGreat
namespace Go.Proofs.YtmkkdenhjfjmgaaGreat
open Go.RowKit

/-! ### Routes -/
structure Rou where
  st : Int
  fb : List Int
def nilR : Rou := ⟨0, []⟩
/-- The node at the other end of a fiber, or -1. -/
def othE (f : Fib) (node : Int) : Int := if node = f.a then f.b else if node = f.b then f.a else -1
/-- The nodes of a route, on from those that have been visited, the last of which is 'at'. -/
def wlk (n : Net) : List Int → Int → List Int → Option (List Int)
  | out, _, [] => some out
  | out, t, i :: is => if inB i 0 ((n.fs.length : Int) - 1) then (if othE (fbA n i.toNat) t < 0 ∨ othE (fbA n i.toNat) t ∈ out then none else wlk n (out ++ [othE (fbA n i.toNat) t]) (othE (fbA n i.toNat) t) is) else none
def rouN (n : Net) (r : Rou) : Option (List Int) := if inB r.st 0 ((n.ns.length : Int) - 1) && !r.fb.isEmpty then wlk n [r.st] r.st r.fb else none
def rouOk (n : Net) (r : Rou) : Bool := (rouN n r).isSome
theorem wlk_step {n : Net} {out : List Int} {t : Int} {xs : List Int} {k : Nat} (hk : k < xs.length) : wlk n out t (xs.drop k) = (if inB (xs[k]?.getD 0) 0 ((n.fs.length : Int) - 1) then (if othE (fbA n (xs[k]?.getD 0).toNat) t < 0 ∨ othE (fbA n (xs[k]?.getD 0).toNat) t ∈ out then none else wlk n (out ++ [othE (fbA n (xs[k]?.getD 0).toNat) t]) (othE (fbA n (xs[k]?.getD 0).toNat) t) (xs.drop (k + 1))) else none) := by
  rw [List.drop_eq_getElem_cons hk, List.getElem?_eq_getElem hk]
  rfl

/-! ### Blocks -/
def blkOk (f c : Int) : Bool := decide (0 ≤ f) && (inB c 1 24 && decide (f ≤ 24 - c))
theorem blkOk_bd {f c : Int} (h : blkOk f c = true) : 0 ≤ f ∧ 1 ≤ c ∧ f + c ≤ 24 := by
  unfold blkOk at h
  simp only [Bool.and_eq_true, decide_eq_true_eq] at h
  have := inB_true h.2.1
  omega
/-- The mask of a block. -/
def mskN (f c : Nat) : Nat := (2 ^ c - 1) * 2 ^ f
def msk (f c : Int) : Int := (mskN f.toNat c.toNat : Int)

/-! ### Lights -/
structure Lgt where
  id : Int
  st : Int
  fb : List Int
  fi : Int
  ct : Int
def nilL : Lgt := ⟨0, 0, [], 0, 0⟩
def lgtD (x : Lgt) : List Dt := [.leaf (.int .i64 x.id), .leaf (.int .i64 x.st), inD x.fb, .leaf (.int .i64 x.fi), .leaf (.int .i64 x.ct)]
def lgtOk (n : Net) (x : Lgt) : Bool := rouOk n ⟨x.st, x.fb⟩ && inB x.id 1 999 && blkOk x.fi x.ct
def meets (xs ys : List Int) : Bool := xs.any fun x => ys.contains x
/-- Do two blocks have a slot in common? -/
def hitB (x y : Lgt) : Bool := decide (x.fi < y.fi + y.ct ∧ y.fi < x.fi + x.ct)
def collB (x y : Lgt) : Bool := hitB x y && meets x.fb y.fb

/-! ### Plans -/
structure Pln where
  n : Net
  ls : List Lgt
abbrev lgA (p : Pln) (i : Nat) : Lgt := p.ls[i]?.getD nilL
def ltOk (p : Pln) (i : Nat) : Bool := lgtOk p.n (lgA p i) && (!(decide (0 < i) && decide ((lgA p i).id ≤ (lgA p (i - 1)).id)) && !((p.ls.take i).any fun y => collB y (lgA p i)))
def plnOk (p : Pln) : Bool := netOk p.n && (decide (p.ls.length ≤ 12) && (List.range p.ls.length).all (ltOk p))
/-- The value reads as the plan. -/
def PlnR (w : World) (v : Value) (p : Pln) : Prop := ∃ u1 u2 u3, v = .agg #[u1, u2, u3] ∧ Rdt w (flt 1 strE p.n.ns) u1 ∧ Rdt w (flt 4 fibE p.n.fs) u2 ∧ Rdt w (rws 5 lgtD p.ls) u3 ∧ ∀ i : Nat, (nmA p.n i).size ≤ 1048576
theorem PlnR.behind {w w' : World} {v : Value} {p : Pln} (h : PlnR w v p) (hb : Below w.heap.size w w') : PlnR w' v p := by
  obtain ⟨u1, u2, u3, e, h1, h2, h3, h4⟩ := h; exact ⟨u1, u2, u3, e, h1.behind hb, h2.behind hb, h3.behind hb, h4⟩
theorem PlnR.net {w : World} {u1 u2 u3 : Value} {p : Pln} (h : PlnR w (.agg #[u1, u2, u3]) p) : NetR w (.agg #[u1, u2]) p.n := by
  obtain ⟨x1, x2, x3, e, h1, h2, _, h4⟩ := h
  simp only [Value.agg.injEq, Array.mk.injEq, List.cons.injEq, and_true] at e
  obtain ⟨rfl, rfl, rfl⟩ := e
  exact ⟨_, _, rfl, h1, h2, h4⟩
end Go.Proofs.YtmkkdenhjfjmgaaGreat
namespace Go.Proofs.YtmkkdenhjfjmgaaGreat
open Go.RowKit

/-- The fibers of a risk among the first k. -/
def grpTo (n : Net) (g : Int) (k : Nat) : List Int := ((List.range k).filter fun i => decide ((fbA n i).r = g)).map fun i : Nat => (i : Int)
def grp (n : Net) (g : Int) : List Int := grpTo n g n.fs.length
theorem grpTo_yes {n : Net} {g : Int} {k : Nat} (h : (fbA n k).r = g) : grpTo n g (k + 1) = grpTo n g k ++ [(k : Int)] := by
  unfold grpTo
  rw [List.range_succ, List.filter_append, List.map_append]
  simp [h]
theorem grpTo_no {n : Net} {g : Int} {k : Nat} (h : ¬ (fbA n k).r = g) : grpTo n g (k + 1) = grpTo n g k := by
  unfold grpTo
  rw [List.range_succ, List.filter_append, List.map_append]
  simp [h]
theorem grpTo_len (n : Net) (g : Int) (k : Nat) : (grpTo n g k).length ≤ k := by
  unfold grpTo
  rw [List.length_map]
  exact Nat.le_trans (List.length_filter_le _ _) (by simp)
/-- The groups of the risks 1 to g. -/
def gA (n : Net) : Nat → List (List Int)
  | 0 => []
  | g + 1 => if (grp n ((g + 1 : Nat) : Int)).length = 0 then gA n g else gA n g ++ [grp n ((g + 1 : Nat) : Int)]
/-- The fibers without a risk, each a group. -/
def gS (n : Net) : Nat → List (List Int)
  | 0 => []
  | k + 1 => if (fbA n k).r = 0 then gS n k ++ [[(k : Int)]] else gS n k
def grps (n : Net) : List (List Int) := gA n 9 ++ gS n n.fs.length
theorem gA_len (n : Net) (g : Nat) : (gA n g).length ≤ g := by
  induction g with
  | zero => simp [gA]
  | succ g ih =>
    unfold gA
    split
    · omega
    · rw [List.length_append]; simp; omega
theorem gS_len (n : Net) (k : Nat) : (gS n k).length ≤ k := by
  induction k with
  | zero => simp [gS]
  | succ k ih =>
    unfold gS
    split
    · rw [List.length_append]; simp; omega
    · omega
/-- The group of a fiber. -/
def grpF (n : Net) (i : Nat) : List Int := if (fbA n i).r = 0 then [(i : Int)] else grp n (fbA n i).r
/-- Strictly rising numbers below m. -/
def seAt (xs : List Int) (m : Int) (i : Nat) : Bool := inB (xs[i]?.getD 0) 0 (m - 1) && !(decide (0 < i) && decide (xs[i]?.getD 0 ≤ xs[i - 1]?.getD 0))
def setOk (xs : List Int) (m : Int) : Bool := (List.range xs.length).all (seAt xs m)
theorem setOk_at {xs : List Int} {m : Int} {i : Nat} (hi : i < xs.length) (h : seAt xs m i = false) : setOk xs m = false := rng_no hi h
theorem setOk_all {xs : List Int} {m : Int} (h : ∀ i, i < xs.length → seAt xs m i = true) : setOk xs m = true := rng_yes h
end Go.Proofs.YtmkkdenhjfjmgaaGreat
namespace Go.Proofs.YtmkkdenhjfjmgaaGreat
open Go.RowKit

def grA (n : Net) (g : Int) : List Int := (grps n)[g.toNat]?.getD []
def fof (n : Net) (gs : List Int) : List Int := gs.flatMap (grA n)
def hitL (p : Pln) (gs : List Int) (x : Lgt) : Bool := meets x.fb (fof p.n gs)
def hitTo (p : Pln) (gs : List Int) (k : Nat) : List Int := ((p.ls.take k).filter (hitL p gs)).map (·.id)
def hts (p : Pln) (gs : List Int) : List Int := hitTo p gs p.ls.length
theorem meets_app (xs ys zs : List Int) : meets xs (ys ++ zs) = (meets xs ys || meets xs zs) := by
  rw [Bool.eq_iff_iff]
  unfold meets
  simp only [Bool.or_eq_true, List.any_eq_true, List.contains_iff_mem, List.mem_append]
  constructor
  · rintro ⟨x, h, e | e⟩
    · exact .inl ⟨x, h, e⟩
    · exact .inr ⟨x, h, e⟩
  · rintro (⟨x, h, e⟩ | ⟨x, h, e⟩)
    · exact ⟨x, h, .inl e⟩
    · exact ⟨x, h, .inr e⟩
theorem meets_nil (xs : List Int) : meets xs [] = false := by
  unfold meets; simp
theorem hitL_any (p : Pln) (gs : List Int) (x : Lgt) : hitL p gs x = gs.any fun g => meets x.fb (grA p.n g) := by
  unfold hitL fof
  induction gs with
  | nil => simp [meets_nil]
  | cons g gs ih => rw [List.flatMap_cons, meets_app, List.any_cons, ih]
theorem hitTo_yes {p : Pln} {gs : List Int} {k : Nat} (hk : k < p.ls.length) (h : meets (lgA p k).fb (fof p.n gs) = true) : hitTo p gs (k + 1) = hitTo p gs k ++ [(lgA p k).id] := by
  unfold lgA at h ⊢
  unfold hitTo
  rw [List.getElem?_eq_getElem hk] at h ⊢
  rw [List.take_add_one, List.filter_append, List.map_append, List.getElem?_eq_getElem hk]
  have : hitL p gs p.ls[k] = true := h
  simp [this]
theorem hitTo_no {p : Pln} {gs : List Int} {k : Nat} (hk : k < p.ls.length) (h : meets (lgA p k).fb (fof p.n gs) = false) : hitTo p gs (k + 1) = hitTo p gs k := by
  unfold lgA at h
  unfold hitTo
  rw [List.getElem?_eq_getElem hk] at h
  rw [List.take_add_one, List.filter_append, List.map_append, List.getElem?_eq_getElem hk]
  have : hitL p gs p.ls[k] = false := h
  simp [this]
theorem hitTo_len (p : Pln) (gs : List Int) (k : Nat) : (hitTo p gs k).length ≤ k := by
  unfold hitTo
  rw [List.length_map]
  exact Nat.le_trans (List.length_filter_le _ _) (List.length_take_le _ _)
theorem fof_take {n : Net} {gs : List Int} {k : Nat} (hk : k < gs.length) : fof n (gs.take (k + 1)) = fof n (gs.take k) ++ grA n (gs[k]?.getD 0) := by
  unfold fof
  rw [List.take_add_one, List.flatMap_append, List.getElem?_eq_getElem hk]
  simp
theorem gA_row (n : Net) (g : Nat) : ∀ G ∈ gA n g, G.length ≤ n.fs.length := by
  induction g with
  | zero => simp [gA]
  | succ g ih =>
    intro G hG
    unfold gA at hG
    split at hG
    · exact ih G hG
    · rcases List.mem_append.1 hG with h | h
      · exact ih G h
      · rw [List.mem_singleton.1 h]; exact grpTo_len _ _ _
theorem gS_row (n : Net) (k : Nat) : ∀ G ∈ gS n k, G.length ≤ 1 := by
  induction k with
  | zero => simp [gS]
  | succ k ih =>
    intro G hG
    unfold gS at hG
    split at hG
    · rcases List.mem_append.1 hG with h | h
      · exact ih G h
      · rw [List.mem_singleton.1 h]; exact Nat.le_refl _
    · exact ih G hG
theorem grps_len (n : Net) : (grps n).length ≤ 9 + n.fs.length := by
  unfold grps; rw [List.length_append]; have := gA_len n 9; have := gS_len n n.fs.length; omega
theorem grA_len (n : Net) (g : Int) : (grA n g).length ≤ n.fs.length + 1 := by
  unfold grA
  by_cases h : g.toNat < (grps n).length
  · rw [List.getElem?_eq_getElem h, Option.getD_some]
    have hm : (grps n)[g.toNat] ∈ gA n 9 ++ gS n n.fs.length := List.getElem_mem h
    rcases List.mem_append.1 hm with q | q
    · have := gA_row n 9 _ q; omega
    · have := gS_row n n.fs.length _ q; omega
  · rw [List.getElem?_eq_none (by omega)]; simp
theorem fof_len (n : Net) (gs : List Int) (k : Nat) : (fof n (gs.take k)).length ≤ k * (n.fs.length + 1) := by
  induction k with
  | zero => simp [fof]
  | succ k ih =>
    by_cases hk : k < gs.length
    · rw [fof_take hk, List.length_append, Nat.succ_mul]; have := grA_len n (gs[k]?.getD 0); omega
    · rw [List.take_of_length_le (by omega)]
      rw [List.take_of_length_le (by omega)] at ih
      rw [Nat.succ_mul]; omega

/-! ### Bits -/
def mkTo (p : Pln) (G : List Int) : Nat → Nat
  | 0 => 0
  | k + 1 => if meets (lgA p k).fb G then mkTo p G k ||| 2 ^ k else mkTo p G k
def hmks (p : Pln) : List Nat := (grps p.n).map fun G => mkTo p G p.ls.length
def uni (ms : List Nat) (gs : List Int) : Nat := gs.foldl (fun m g => m ||| ms[g.toNat]?.getD 0) 0
def nats (ms : List Nat) : List Int := ms.map fun k : Nat => (k : Int)
theorem nats_len (ms : List Nat) : (nats ms).length = ms.length := by simp [nats]
theorem nats_at (ms : List Nat) (i : Nat) : (nats ms)[i]?.getD 0 = ((ms[i]?.getD 0 : Nat) : Int) := by
  unfold nats
  rw [List.getElem?_map]
  cases ms[i]? <;> rfl
theorem mkTo_bit (p : Pln) (G : List Int) (k i : Nat) : (mkTo p G k).testBit i = (decide (i < k) && meets (lgA p i).fb G) := by
  induction k with
  | zero => simp [mkTo]
  | succ k ih =>
    unfold mkTo
    split
    · rename_i h
      rw [Nat.testBit_or, ih, Nat.testBit_two_pow]
      by_cases e : k = i
      · subst e; simp [h]
      · have : decide (i < k + 1) = decide (i < k) := by rw [decide_eq_decide]; omega
        simp [e, this]
    · rename_i h
      rw [ih]
      by_cases e : k = i
      · subst e; simp [h]
      · have : decide (i < k + 1) = decide (i < k) := by rw [decide_eq_decide]; omega
        rw [this]
theorem or_lt {a b k : Nat} (ha : a < 2 ^ k) (hb : b < 2 ^ k) : a ||| b < 2 ^ k := Nat.or_lt_two_pow ha hb
theorem mkTo_lt (p : Pln) (G : List Int) (k : Nat) : mkTo p G k < 2 ^ k := by
  induction k with
  | zero => simp [mkTo]
  | succ k ih =>
    have h1 : mkTo p G k < 2 ^ (k + 1) := Nat.lt_of_lt_of_le ih (Nat.pow_le_pow_right (by omega) (by omega))
    unfold mkTo
    split
    · exact or_lt h1 (Nat.pow_lt_pow_right (by omega) (by omega))
    · exact h1
theorem uni_take {ms : List Nat} {gs : List Int} {k : Nat} (hk : k < gs.length) : uni ms (gs.take (k + 1)) = uni ms (gs.take k) ||| (ms[(gs[k]?.getD 0).toNat]?.getD 0) := by
  unfold uni
  rw [List.take_add_one, List.foldl_append, List.getElem?_eq_getElem hk]
  rfl
theorem uni_fold (ms : List Nat) (gs : List Int) (m i : Nat) : (gs.foldl (fun m g => m ||| ms[g.toNat]?.getD 0) m).testBit i = (m.testBit i || gs.any fun g => (ms[g.toNat]?.getD 0).testBit i) := by
  induction gs generalizing m with
  | nil => simp
  | cons g gs ih => rw [List.foldl_cons, ih, Nat.testBit_or, List.any_cons, Bool.or_assoc]
theorem uni_bit (ms : List Nat) (gs : List Int) (i : Nat) : (uni ms gs).testBit i = gs.any fun g => (ms[g.toNat]?.getD 0).testBit i := by
  unfold uni; rw [uni_fold]; simp
theorem uni_lt {ms : List Nat} {gs : List Int} {b : Nat} (h : ∀ m ∈ ms, m < 2 ^ b) : uni ms gs < 2 ^ b := by
  have hg : ∀ g : Int, ms[g.toNat]?.getD 0 < 2 ^ b := fun g => by
    by_cases hi : g.toNat < ms.length
    · rw [List.getElem?_eq_getElem hi]; exact h _ (List.getElem_mem hi)
    · rw [List.getElem?_eq_none (by omega)]; exact Nat.two_pow_pos b
  have : ∀ (gs : List Int) (m : Nat), m < 2 ^ b → gs.foldl (fun m g => m ||| ms[g.toNat]?.getD 0) m < 2 ^ b := fun gs => by
    induction gs with
    | nil => intro m hm; exact hm
    | cons g gs ih => intro m hm; rw [List.foldl_cons]; exact ih _ (or_lt hm (hg g))
  exact this gs 0 (Nat.two_pow_pos b)
theorem hmks_mem (p : Pln) : ∀ m ∈ hmks p, m < 2 ^ p.ls.length := fun m hm => by
  obtain ⟨G, _, rfl⟩ := List.mem_map.1 hm
  exact mkTo_lt _ _ _
theorem hmks_bit (p : Pln) (g : Int) (i : Nat) : ((hmks p)[g.toNat]?.getD 0).testBit i = (decide (i < p.ls.length) && meets (lgA p i).fb (grA p.n g)) := by
  unfold hmks grA
  rw [List.getElem?_map]
  cases e : (grps p.n)[g.toNat]? with
  | none => simp [meets_nil]
  | some G => simp only [Option.map_some, Option.getD_some]; exact mkTo_bit _ _ _ _
/-- Bit i of the union: does light i meet one of the groups? -/
theorem uni_hit (p : Pln) (gs : List Int) (i : Nat) : (uni (hmks p) gs).testBit i = (decide (i < p.ls.length) && hitL p gs (lgA p i)) := by
  rw [uni_bit, hitL_any]
  induction gs with
  | nil => simp
  | cons g gs ih => rw [List.any_cons, List.any_cons, ih, hmks_bit, Bool.and_or_distrib_left]
/-! ### Sets of numbers -/
theorem setOk_bd {xs : List Int} {m : Int} (h : setOk xs m = true) {i : Nat} (hi : i < xs.length) : 0 ≤ xs[i]?.getD 0 ∧ xs[i]?.getD 0 < m := by
  unfold setOk at h
  rw [List.all_eq_true] at h
  have := h i (List.mem_range.2 hi)
  unfold seAt at this
  simp only [Bool.and_eq_true] at this
  have := inB_true this.1
  omega
theorem setOk_up {xs : List Int} {m : Int} (h : setOk xs m = true) {i : Nat} (hi : i + 1 < xs.length) : xs[i]?.getD 0 < xs[i + 1]?.getD 0 := by
  unfold setOk at h
  rw [List.all_eq_true] at h
  have := h (i + 1) (List.mem_range.2 hi)
  unfold seAt at this
  simp only [Bool.and_eq_true, Bool.not_eq_true', Bool.and_eq_false_iff, decide_eq_false_iff_not, Nat.add_sub_cancel] at this
  rcases this.2 with e | e
  · omega
  · omega
theorem setOk_ge {xs : List Int} {m : Int} (h : setOk xs m = true) : ∀ i : Nat, i < xs.length → (i : Int) ≤ xs[i]?.getD 0 := fun i => by
  induction i with
  | zero => intro hi; have := setOk_bd h hi; omega
  | succ i ih => intro hi; have h1 := ih (by omega); have h2 := setOk_up h hi; omega
theorem setOk_len {xs : List Int} {m : Nat} (h : setOk xs m = true) : xs.length ≤ m := by
  rcases Nat.eq_zero_or_pos xs.length with e | e
  · omega
  · have h1 := setOk_ge h (xs.length - 1) (by omega)
    have h2 := setOk_bd h (i := xs.length - 1) (by omega)
    omega
/-- Is the list one of groups of a valid plan? -/
def gsetOk (p : Pln) (gs : List Int) : Bool := plnOk p && setOk gs (grps p.n).length
theorem gsetOk_parts {p : Pln} {gs : List Int} (h : gsetOk p gs = true) : plnOk p = true ∧ setOk gs (grps p.n).length = true := by
  unfold gsetOk at h; simpa using h
theorem plnOk_sz {p : Pln} (h : plnOk p = true) : netOk p.n = true ∧ p.ls.length ≤ 12 ∧ p.n.fs.length ≤ 14 ∧ (grps p.n).length ≤ 23 := by
  unfold plnOk at h
  simp only [Bool.and_eq_true, decide_eq_true_eq] at h
  have h1 := netOk_yes h.1
  have h2 := grps_len p.n
  exact ⟨h.1, h.2.1, h1.2.2.1, by omega⟩
end Go.Proofs.YtmkkdenhjfjmgaaGreat
namespace Go.Proofs.YtmkkdenhjfjmgaaGreat
open Go.RowKit Go.Sort
set_option maxRecDepth 100000

theorem blk_alt (f c : Int) : blkOk f c = (inB f 0 23 && inB c 1 (24 - f)) := by
  unfold blkOk inB
  rw [Bool.eq_iff_iff]
  simp only [Bool.and_eq_true, decide_eq_true_eq]
  omega
theorem IsValidBlock_any (f c : Int) (w : World) :
    Calls Tryz.prog 179 #[.agg #[.int .i64 f, .int .i64 c]] w fun e w' => e = .returned (.bool (blkOk f c)) ∧ Below w.heap.size w w' := by
  obtain ⟨bx, bc, -, -⟩ := box_facts w #[.int .i64 f, .int .i64 c] 92
  have q0 := bc 0 _ rfl
  have q1 := bc 1 _ rfl
  have HBX := Lib.hid bx
  have HV := Lib.hid (show blkOk f c = (decide (0 ≤ f) && (inB c 1 24 && decide (f ≤ 24 - c))) from rfl)
  clear bc bx
  generalize blkOk f c = q at *
  cases h0 : decide (0 ≤ f)
  · rw [h0] at HV
    go_enter Tryz.func179, Tryz.ntmps179
    go_wp2
    go_ret
    exact ⟨by rw [HV.out]; rfl, HBX.out⟩
  rw [h0] at HV
  cases h1 : inB c 1 24
  · rw [h1] at HV
    go_enter Tryz.func179, Tryz.ntmps179
    go_wp2_with (go_at_call 83; refine (within_any _ _ _ _).mono ?_; rintro e w' ⟨rfl, rfl⟩; rw [h1])
    go_ret
    exact ⟨by rw [HV.out]; rfl, HBX.out⟩
  rw [h1] at HV
  have hc := inB_true h1
  obtain ⟨d, hd⟩ : ∃ d, 24 - c = d := ⟨_, rfl⟩
  rw [hd] at HV
  have f1 : IntKind.i64.wrap (24 - c) = d := by rw [← hd]; exact IntWalk.i64_in _ (by omega)
  have f2 : wrap64 (24 - c) = d := by rw [← hd]; exact IntWalk.wrap64_in _ (by omega)
  clear hd hc
  cases h2 : decide (f ≤ d)
  all_goals
    rw [h2] at HV
    go_enter Tryz.func179, Tryz.ntmps179
    go_wp2_with (go_at_call 83; refine (within_any _ _ _ _).mono ?_; rintro e w' ⟨rfl, rfl⟩; rw [h1])
    go_ret
    exact ⟨by rw [HV.out]; rfl, HBX.out⟩
theorem l8Good_any (f c : Int) (w : World) :
    Calls Tryz.prog 188 #[.agg #[.int .i64 f, .int .i64 c]] w fun e w' => e = .returned (.bool (blkOk f c)) ∧ Below w.heap.size w w' := by
  obtain ⟨bx, bc, -, -⟩ := box_facts w #[.int .i64 f, .int .i64 c] 92
  have q0 := bc 0 _ rfl
  have q1 := bc 1 _ rfl
  have HBX := Lib.hid bx
  have HV := Lib.hid (blk_alt f c)
  clear bc bx
  generalize blkOk f c = q at *
  cases h1 : inB f 0 23
  · rw [h1] at HV
    go_enter Tryz.func188, Tryz.ntmps188
    go_wp2_with (go_at_call 86; refine (l1In_any _ _ _ _).mono ?_; rintro e w' ⟨rfl, rfl⟩; rw [h1])
    go_ret
    exact ⟨by rw [HV.out]; rfl, HBX.out⟩
  rw [h1] at HV
  have hf := inB_true h1
  obtain ⟨d, hd⟩ : ∃ d, 24 - f = d := ⟨_, rfl⟩
  rw [hd] at HV
  have f1 : IntKind.i64.wrap (24 - f) = d := by rw [← hd]; exact IntWalk.i64_in _ (by omega)
  have f2 : wrap64 (24 - f) = d := by rw [← hd]; exact IntWalk.wrap64_in _ (by omega)
  clear hd hf
  cases h2 : inB c 1 d
  all_goals
    rw [h2] at HV
    go_enter Tryz.func188, Tryz.ntmps188
    go_wp2_with (go_at_call 86; refine (l1In_any _ _ _ _).mono ?_; rintro e w' ⟨rfl, rfl⟩; first | rw [h1] | rw [h2])
    go_ret
    exact ⟨by rw [HV.out]; rfl, HBX.out⟩
end Go.Proofs.YtmkkdenhjfjmgaaGreat
