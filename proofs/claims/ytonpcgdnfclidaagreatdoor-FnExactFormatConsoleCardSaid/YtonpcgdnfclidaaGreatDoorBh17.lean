/- Joined: XTxtP XTxlP XTxtB XTxtS XTxnS XTxlS. -/
import Derived.Test.YtonpcgdnfclidaaGreatDoorBh04
import Derived.Test.YtonpcgdnfclidaaGreatDoorBh05
import Derived.Lib.Join
import Derived.Test.YtonpcgdnfclidaaGreatDoorBh09
import Derived.Test.YtonpcgdnfclidaaGreatDoorBh11
import Derived.Lib.QuietBelow
import Derived.Test.YtonpcgdnfclidaaGreatDoorBh07
import Derived.Test.YtonpcgdnfclidaaGreatDoorBh12
namespace Go.Proofs.YtonpcgdnfclidaaGreatDoor
open Go.RowKit

/-- The name of the node at place i. -/
def nmL (n : Net) (i : Int) : List UInt8 := (nmA n i.toNat).data.toList
/-- The text of the nodes: each name behind a space. -/
def ndsL (n : Net) (k : Nat) : List UInt8 := (n.ns.take k).flatMap fun s => 32 :: s.data.toList
def rskL (f : Fib) : List UInt8 := if 0 < f.r then [32, 114, 105, 115, 107, 32] ++ digs f.r.toNat else []
/-- The line of a fiber. -/
def fibL (n : Net) (f : Fib) : List UInt8 := [102, 105, 98, 101, 114, 32] ++ nmL n f.a ++ [32] ++ nmL n f.b ++ [32] ++ digs f.l.toNat ++ rskL f ++ [10]
def fbsL (n : Net) (k : Nat) : List UInt8 := (n.fs.take k).flatMap (fibL n)
def netL (n : Net) (k : Nat) : List UInt8 := [110, 111, 100, 101, 115] ++ ndsL n n.ns.length ++ [10] ++ fbsL n k
/-- The text of a route behind its first node: k fibers of it. -/
def stpL (n : Net) (xs nd : List Int) : Nat → List UInt8
  | 0 => []
  | k + 1 => stpL n xs nd k ++ ([46] ++ digs (xs[k]?.getD 0).toNat ++ [46] ++ nmL n (nd[k + 1]?.getD 0))
def rouL (n : Net) (r : Rou) (nd : List Int) (k : Nat) : List UInt8 := nmL n r.st ++ stpL n r.fb nd k
def blkL (f c : Int) : List UInt8 := digs f.toNat ++ [43] ++ digs c.toNat
/-- The line of a light. -/
def lgtL (n : Net) (x : Lgt) : List UInt8 := digs x.id.toNat ++ [32] ++ rouL n ⟨x.st, x.fb⟩ ((rouN n ⟨x.st, x.fb⟩).getD []) x.fb.length ++ [32] ++ blkL x.fi x.ct
def lnL (n : Net) (x : Lgt) : List UInt8 := [108, 105, 103, 104, 116, 32] ++ lgtL n x ++ [10]
def lnsL (p : Pln) (k : Nat) : List UInt8 := (p.ls.take k).flatMap (lnL p.n)
def plnL (p : Pln) (k : Nat) : List UInt8 := netL p.n p.n.fs.length ++ lnsL p k

theorem flat_step {α : Type} {f : α → List UInt8} {xs : List α} {k : Nat} {nil : α} (h : k < xs.length) : (xs.take (k + 1)).flatMap f = (xs.take k).flatMap f ++ f (xs[k]?.getD nil) := by
  rw [List.take_add_one, List.flatMap_append, List.getElem?_eq_getElem h]
  simp only [Option.toList_some, List.flatMap_cons, List.flatMap_nil, List.append_nil, Option.getD_some]
theorem ndsL_step {n : Net} {k : Nat} (h : k < n.ns.length) : ndsL n (k + 1) = ndsL n k ++ (32 :: (nmA n k).data.toList) := flat_step (nil := nilS) h
theorem fbsL_step {n : Net} {k : Nat} (h : k < n.fs.length) : fbsL n (k + 1) = fbsL n k ++ fibL n (fbA n k) := flat_step (nil := nilB) h
theorem netL_step {n : Net} {k : Nat} (h : k < n.fs.length) : netL n (k + 1) = netL n k ++ fibL n (fbA n k) := by
  unfold netL; rw [fbsL_step h]; simp
theorem plnL_step {p : Pln} {k : Nat} (h : k < p.ls.length) : plnL p (k + 1) = plnL p k ++ lnL p.n (lgA p k) := by
  unfold plnL lnsL; rw [flat_step (nil := nilL) h]; simp
/-- What the program joins is what the reference adds up. -/
theorem nds_join {n : Net} (h : n.ns ≠ []) : 32 :: Go.Lib.join (n.ns.map (·.data.toList)) [32] = ndsL n n.ns.length := by
  unfold ndsL
  rw [List.take_length]
  cases hn : n.ns with
  | nil => exact absurd hn h
  | cons x xs =>
    rw [List.map_cons, Go.Lib.join_cons]
    unfold Go.Lib.joinTail
    rw [List.flatMap_cons, List.flatMap_def]
    simp [Function.comp_def]

/-! ### Lengths -/
theorem flat_len {α : Type} {f : α → List UInt8} {xs : List α} {m : Nat} (h : ∀ x ∈ xs, (f x).length ≤ m) : (xs.flatMap f).length ≤ m * xs.length := by
  induction xs with
  | nil => simp
  | cons x xs ih =>
    have h1 := h x (by simp)
    have h2 := ih (fun y hy => h y (by simp [hy]))
    rw [List.flatMap_cons, List.length_append, List.length_cons, Nat.mul_add]; omega
theorem nm_len {n : Net} (h : netOk n = true) (i : Int) : (nmA n i.toNat).size ≤ 8 := by
  by_cases hi : i.toNat < n.ns.length
  · have h1 := (netOk_yes h).2.2.2.1 _ hi
    unfold nmOk nameOk at h1
    simp only [Bool.and_eq_true, decide_eq_true_eq] at h1
    exact h1.1.1.1.2
  · have : nmA n i.toNat = nilS := by unfold nmA; rw [List.getElem?_eq_none (by omega)]; rfl
    rw [this]; exact Nat.zero_le _
theorem nmL_len {n : Net} (h : netOk n = true) (i : Int) : (nmL n i).length ≤ 8 := by
  unfold nmL; rw [← size_data]; exact nm_len h i
theorem fb_at {n : Net} (h : netOk n = true) {k : Nat} (hk : k < n.fs.length) : fibOk (fbA n k) n.ns.length = true := by
  have := (netOk_yes h).2.2.2.2 k hk
  unfold fbOk at this
  simp only [Bool.and_eq_true] at this
  exact this.1
theorem fibL_len {n : Net} (h : netOk n = true) {f : Fib} (hf : fibOk f n.ns.length = true) : (fibL n f).length ≤ 60 := by
  have hp := fibOk_parts hf
  have h1 := nmL_len h f.a
  have h2 := nmL_len h f.b
  have h3 := digs_len 3 f.l.toNat (by omega)
  have h4 : (rskL f).length ≤ 7 := by
    unfold rskL
    split
    · have := digs_len 0 f.r.toNat (by omega)
      simp; omega
    · simp
  unfold fibL
  simp only [List.length_append, List.length_cons, List.length_nil]
  omega
theorem ndsL_len {n : Net} (h : netOk n = true) (k : Nat) : (ndsL n k).length ≤ 72 := by
  have h8 := (netOk_yes h).2.1
  have : (ndsL n k).length ≤ 9 * (n.ns.take k).length := flat_len fun s hs => by
    obtain ⟨i, hi, e⟩ := List.getElem_of_mem (List.mem_of_mem_take hs)
    have := nm_len h (i : Int)
    unfold nmA at this
    rw [Int.toNat_natCast, List.getElem?_eq_getElem hi, e] at this
    rw [List.length_cons, ← size_data]
    simpa using this
  have h2 : (n.ns.take k).length ≤ 8 := by rw [List.length_take]; omega
  omega
theorem fbsL_len {n : Net} (h : netOk n = true) (k : Nat) : (fbsL n k).length ≤ 840 := by
  have h8 := (netOk_yes h).2.2.1
  have : (fbsL n k).length ≤ 60 * (n.fs.take k).length := flat_len fun f hs => by
    obtain ⟨i, hi, e⟩ := List.getElem_of_mem (List.mem_of_mem_take hs)
    have := fb_at h hi
    unfold fbA at this
    rw [List.getElem?_eq_getElem hi] at this
    exact fibL_len h (by rw [← e]; exact this)
  have h2 : (n.fs.take k).length ≤ 14 := by rw [List.length_take]; omega
  omega
theorem netL_len {n : Net} (h : netOk n = true) (k : Nat) : (netL n k).length ≤ 1000 := by
  have := ndsL_len h n.ns.length
  have := fbsL_len h k
  unfold netL
  simp only [List.length_append, List.length_cons, List.length_nil]
  omega
/-! ### Routes -/
theorem othE_in {n : Net} (h : netOk n = true) {k : Nat} (hk : k < n.fs.length) {t : Int} (ht : ¬ othE (fbA n k) t < 0) : 0 ≤ othE (fbA n k) t ∧ othE (fbA n k) t < n.ns.length := by
  have hp := fibOk_parts (fb_at h hk)
  unfold othE at ht ⊢
  split
  · omega
  · split
    · omega
    · rename_i h1 h2
      rw [if_neg h1, if_neg h2] at ht
      omega
theorem wlk_facts {n : Net} (h : netOk n = true) : ∀ {xs : List Int} {out : List Int} {t : Int} {nd : List Int}, wlk n out t xs = some nd → (∀ y ∈ out, 0 ≤ y ∧ y < n.ns.length) →
    nd.length = out.length + xs.length ∧ (∀ y ∈ nd, 0 ≤ y ∧ y < n.ns.length) ∧ (∀ x ∈ xs, 0 ≤ x ∧ x < n.fs.length)
  | [], out, t, nd, hw, ho => by
    simp only [wlk, Option.some.injEq] at hw
    subst hw
    exact ⟨rfl, ho, fun x hx => by cases hx⟩
  | i :: is, out, t, nd, hw, ho => by
    rw [wlk] at hw
    cases hi : inB i 0 ((n.fs.length : Int) - 1)
    · rw [hi] at hw; simp at hw
    · rw [hi] at hw
      simp only [if_true] at hw
      split at hw
      · cases hw
      · rename_i hc
        have hb := inB_true hi
        have hx := othE_in h (k := i.toNat) (by omega) (t := t) (fun e => hc (.inl e))
        have := wlk_facts h hw (fun y hy => by
          rcases List.mem_append.1 hy with h1 | h1
          · exact ho y h1
          · rw [List.mem_singleton.1 h1]; exact hx)
        refine ⟨by rw [this.1]; simp; omega, this.2.1, fun x hx => ?_⟩
        rcases List.mem_cons.1 hx with rfl | h1
        · omega
        · exact this.2.2 x h1
theorem wlk_head {n : Net} : ∀ {xs : List Int} {x : Int} {out : List Int} {t : Int} {nd : List Int}, wlk n (x :: out) t xs = some nd → nd[0]? = some x
  | [], x, out, t, nd, hw => by
    simp only [wlk, Option.some.injEq] at hw
    subst hw; rfl
  | i :: is, x, out, t, nd, hw => by
    rw [wlk] at hw
    split at hw
    · split at hw
      · cases hw
      · exact wlk_head hw
    · cases hw
/-- A valid route's nodes and fibers. -/
theorem rou_facts {n : Net} (h : netOk n = true) {r : Rou} {nd : List Int} (hr : rouN n r = some nd) : nd.length = r.fb.length + 1 ∧ 0 ≤ r.st ∧ r.st < n.ns.length ∧ nd[0]? = some r.st ∧
    (∀ k : Nat, k < nd.length → 0 ≤ nd[k]?.getD 0 ∧ nd[k]?.getD 0 < n.ns.length) ∧ (∀ k : Nat, k < r.fb.length → 0 ≤ r.fb[k]?.getD 0 ∧ r.fb[k]?.getD 0 < n.fs.length) := by
  unfold rouN at hr
  split at hr
  · rename_i hc
    simp only [Bool.and_eq_true] at hc
    have hb := inB_true hc.1
    have h1 := wlk_facts h hr (fun y hy => by rw [List.mem_singleton.1 hy]; omega)
    refine ⟨by rw [h1.1]; simp; omega, by omega, by omega, ?_, fun k hk => ?_, fun k hk => ?_⟩
    · exact wlk_head hr
    · rw [List.getElem?_eq_getElem hk]; exact h1.2.1 _ (List.getElem_mem hk)
    · rw [List.getElem?_eq_getElem hk]; exact h1.2.2 _ (List.getElem_mem hk)
  · cases hr
theorem stpL_len {n : Net} (h : netOk n = true) (xs nd : List Int) (hx : ∀ k : Nat, k < xs.length → xs[k]?.getD 0 < 100) : ∀ k, k ≤ xs.length → (stpL n xs nd k).length ≤ 12 * k
  | 0, _ => by simp [stpL]
  | k + 1, hk => by
    have h1 := stpL_len h xs nd hx k (by omega)
    have h2 := nmL_len h (nd[k + 1]?.getD 0)
    have h3 := digs_len 1 (xs[k]?.getD 0).toNat (by have := hx k (by omega); omega)
    rw [stpL]
    simp only [List.length_append, List.length_cons, List.length_nil]
    omega
end Go.Proofs.YtonpcgdnfclidaaGreatDoor
namespace Go.Proofs.YtonpcgdnfclidaaGreatDoor
open Go.RowKit

theorem plnOk_ls {p : Pln} (h : plnOk p = true) : netOk p.n = true ∧ p.ls.length ≤ 12 ∧ ∀ i, i < p.ls.length → lgtOk p.n (lgA p i) = true := by
  unfold plnOk at h
  simp only [Bool.and_eq_true, decide_eq_true_eq, List.all_eq_true, List.mem_range] at h
  refine ⟨h.1, h.2.1, fun i hi => ?_⟩
  have := h.2.2 i hi
  unfold ltOk at this
  simp only [Bool.and_eq_true] at this
  exact this.1
/-- A valid light, its numbers as naturals. -/
theorem lgt_nat {n : Net} {x : Lgt} (h : lgtOk n x = true) : ∃ i f c : Nat, x.id = i ∧ x.fi = f ∧ x.ct = c ∧ i ≤ 999 ∧ f ≤ 24 ∧ c ≤ 24 ∧ ∃ nd, rouN n ⟨x.st, x.fb⟩ = some nd := by
  unfold lgtOk at h
  simp only [Bool.and_eq_true] at h
  have h1 := inB_true h.1.2
  have h2 := blkOk_bd h.2
  obtain ⟨i, hi⟩ := Int.eq_ofNat_of_zero_le (show 0 ≤ x.id by omega)
  obtain ⟨f, hf⟩ := Int.eq_ofNat_of_zero_le h2.1
  obtain ⟨c, hc⟩ := Int.eq_ofNat_of_zero_le (show 0 ≤ x.ct by omega)
  exact ⟨i, f, c, hi, hf, hc, by omega, by omega, by omega, Option.isSome_iff_exists.1 h.1.1⟩
theorem rouL_len {n : Net} (h : netOk n = true) {r : Rou} {nd : List Int} (hr : rouN n r = some nd) (hl : r.fb.length ≤ 1100000) : (rouL n r nd r.fb.length).length ≤ 13200008 := by
  have h14 := (netOk_yes h).2.2.1
  obtain ⟨-, -, -, -, -, g6⟩ := rou_facts h hr
  have h1 := nmL_len h r.st
  have h2 := stpL_len h r.fb nd (fun k hk => by have := g6 k hk; omega) r.fb.length (Nat.le_refl _)
  unfold rouL
  rw [List.length_append]
  omega
theorem lnL_len {n : Net} (h : netOk n = true) {x : Lgt} (hx : lgtOk n x = true) (hl : x.fb.length ≤ 1100000) : (lnL n x).length ≤ 13300000 := by
  obtain ⟨i, f, c, hi, hf, hc, i9, f9, c9, nd, hnd⟩ := lgt_nat hx
  have h1 := rouL_len h hnd hl
  have h2 := digs_len 2 x.id.toNat (by omega)
  have h3 := digs_len 1 x.fi.toNat (by omega)
  have h4 := digs_len 1 x.ct.toNat (by omega)
  unfold lnL lgtL blkL
  rw [hnd]
  simp only [List.length_append, List.length_cons, List.length_nil, Option.getD_some]
  simp only at h1
  omega
theorem plnL_len {p : Pln} (h : plnOk p = true) (hl : ∀ i : Nat, (lgA p i).fb.length ≤ 1100000) : ∀ k, k ≤ p.ls.length → (plnL p k).length ≤ 1000 + 13300000 * k
  | 0, _ => by
    have := netL_len (plnOk_ls h).1 p.n.fs.length
    unfold plnL lnsL
    simpa using this
  | k + 1, hk => by
    have h1 := plnL_len h hl k (by omega)
    have h2 := lnL_len (plnOk_ls h).1 ((plnOk_ls h).2.2 k (by omega)) (hl k)
    rw [plnL_step (by omega), List.length_append]
    omega
theorem lgtL_nat {n : Net} {i f c : Nat} {st : Int} {fb nd : List Int} (hnd : rouN n ⟨st, fb⟩ = some nd) : lgtL n ⟨i, st, fb, f, c⟩ = digs i ++ [32] ++ rouL n ⟨st, fb⟩ nd fb.length ++ [32] ++ (digs f ++ [43] ++ digs c) := by
  unfold lgtL blkL
  rw [hnd]
  rfl
end Go.Proofs.YtonpcgdnfclidaaGreatDoor
namespace Go.Proofs.YtonpcgdnfclidaaGreatDoor
open Go.RowKit Go.Sort
set_option maxRecDepth 100000

theorem numB (k : Nat) (hk : k ≤ 1000000000) (w : World) : Calls Tryz.prog 101 #[.int .i64 (k : Int)] w fun e w' => e = .returned (.string (mk (digs k))) ∧ Below w.heap.size w w' := by
  refine (l1Num_any k hk w).mono ?_
  rintro e w' ⟨rfl, m, rfl⟩
  exact ⟨rfl, rfl, rfl, rfl, Nat.le_refl _, fun _ _ => rfl⟩
theorem itoS (k : Nat) (hk : k < 100) (w : World) : Calls Tryz.prog 75 #[.int .i64 (k : Int)] w fun e w' => e = .returned (.string (mk (digs k))) ∧ Below w.heap.size w w' := by
  refine (Tryz.strconv_Itoa_small k hk w).mono ?_
  rintro e w' ⟨rfl, rfl⟩
  exact ⟨rfl, Below.refl _ _⟩
theorem itoB (k : Nat) (hk : k ≤ 1000000000) (w : World) (ht : TabOk w) : Calls Tryz.prog 75 #[.int .i64 (k : Int)] w fun e w' => e = .returned (.string (mk (digs k))) ∧ Below w.heap.size w w' := by
  have := itoa_any (k : Int) (by omega) (by omega) w ht
  rw [Int.toNat_natCast] at this
  exact this
set_option maxHeartbeats 1600000 in
theorem l3Block_any (f c : Nat) (hf : f ≤ 24) (hc : c ≤ 24) (w : World) :
    Calls Tryz.prog 103 #[.agg #[.int .i64 (f : Int), .int .i64 (c : Int)]] w fun e w' => e = .returned (.string (mk (digs f ++ [43] ++ digs c))) ∧ Below w.heap.size w w' := by
  have hd1 := digs_len 1 f (by omega)
  have hd2 := digs_len 1 c (by omega)
  have HN1 := Lib.hid (fun w => numB f (by omega) w)
  have HN2 := Lib.hid (fun w => numB c (by omega) w)
  have HE := Lib.hid (show mk (digs f) ++ mk [43] ++ mk (digs c) = mk (digs f ++ [43] ++ digs c) by rw [mk_append, mk_append])
  obtain ⟨bx, bc, -, -⟩ := box_facts w #[.int .i64 (f : Int), .int .i64 (c : Int)] 96
  have q0 := bc 0 _ rfl
  have q1 := bc 1 _ rfl
  have HB := Lib.hid bx
  generalize digs f = x at *
  generalize digs c = y at *
  have z1 : ¬ 9223372036854775807 < x.length + 1 := by omega
  have z2 : ¬ 9223372036854775807 < x.length + 1 + y.length := by omega
  clear bx bc hf hc hd1 hd2
  go_enter Tryz.func103, Tryz.ntmps103
  go_wp2
  generalize w.alloc (.cells #[.int .i64 (f : Int), .int .i64 (c : Int)] 96) = w1 at *
  have j0 := rg q0
  have j1 := rg q1
  clear q0 q1
  refine wp_region_quiet_below (by kernel_rfl) (by kernel_rfl) ?_
  repeat (go_big_quiet_step (first | (go_at_call 101; first | (with_reducible exact Calls.regrown_of (HN1.out _)) | (with_reducible exact Calls.regrown_of (HN2.out _)))))
  refine wpQuiet_nil ?_
  rintro _ ⟨⟨dq, osq⟩, rfl⟩
  have b3 := below_regrown w1 dq osq
  generalize grow (redrawn w1 dq) osq = w3 at *
  go_wp2
  go_ret
  exact ⟨by rw [← HE.out]; rfl, HB.out.trans (b3.mono HB.out.size)⟩
set_option maxHeartbeats 1600000 in
theorem blockText_any (f c : Nat) (hf : f ≤ 24) (hc : c ≤ 24) (w : World) :
    Calls Tryz.prog 77 #[.agg #[.int .i64 (f : Int), .int .i64 (c : Int)]] w fun e w' => e = .returned (.string (mk (digs f ++ [43] ++ digs c))) ∧ Below w.heap.size w w' := by
  have hd1 := digs_len 1 f (by omega)
  have hd2 := digs_len 1 c (by omega)
  have HN1 := Lib.hid (fun w => itoS f (by omega) w)
  have HN2 := Lib.hid (fun w => itoS c (by omega) w)
  have HE := Lib.hid (show mk (digs f) ++ mk [43] ++ mk (digs c) = mk (digs f ++ [43] ++ digs c) by rw [mk_append, mk_append])
  obtain ⟨bx, bc, -, -⟩ := box_facts w #[.int .i64 (f : Int), .int .i64 (c : Int)] 96
  have q0 := bc 0 _ rfl
  have q1 := bc 1 _ rfl
  have HB := Lib.hid bx
  generalize digs f = x at *
  generalize digs c = y at *
  have z1 : ¬ 9223372036854775807 < x.length + 1 := by omega
  have z2 : ¬ 9223372036854775807 < x.length + 1 + y.length := by omega
  clear bx bc hf hc hd1 hd2
  go_enter Tryz.func77, Tryz.ntmps77
  go_wp2
  generalize w.alloc (.cells #[.int .i64 (f : Int), .int .i64 (c : Int)] 96) = w1 at *
  have j0 := rg q0
  have j1 := rg q1
  clear q0 q1
  refine wp_region_quiet_below (by kernel_rfl) (by kernel_rfl) ?_
  repeat (go_big_quiet_step (first | (go_at_call 75; first | (with_reducible exact Calls.regrown_of (HN1.out _)) | (with_reducible exact Calls.regrown_of (HN2.out _)))))
  refine wpQuiet_nil ?_
  rintro _ ⟨⟨dq, osq⟩, rfl⟩
  have b3 := below_regrown w1 dq osq
  generalize grow (redrawn w1 dq) osq = w3 at *
  go_wp2
  go_ret
  exact ⟨by rw [← HE.out]; rfl, HB.out.trans (b3.mono HB.out.size)⟩
set_option maxHeartbeats 1600000 in
theorem l4Nodes_any (u1 u2 v3 : Value) (n : Net) (r : Rou) (nd : List Int) (w : World) (h : NetR w (.agg #[u1, u2]) n) (hr : Rd w v3 r.fb) (hl : r.fb.length ≤ 1100000) (hnd : rouN n r = some nd) :
    Calls Tryz.prog 132 #[.agg #[u1, u2], .agg #[.int .i64 r.st, v3]] w fun e w' => ∃ v, e = .returned v ∧ Own w' w.heap.size v nd ∧ Below w.heap.size w w' := by
  have hvs := fun w' (hb : Below w.heap.size w w') => l4Walk_any u1 u2 v3 n r w' (h.behind hb) (hr.belowAll hb) hl
  rw [hnd] at hvs
  unfold VisP at hvs
  have HVS := Lib.hid hvs
  obtain ⟨x1, x2, e, r1, r2, hsm⟩ := h
  simp only [Value.agg.injEq, Array.mk.injEq, List.cons.injEq, and_true] at e
  obtain ⟨rfl, rfl⟩ := e
  obtain ⟨a1, m1, c1, rfl⟩ := Rdt.slice (show Rdt w (.rows _ _) u1 from r1)
  obtain ⟨a2, m2, c2, rfl⟩ := Rdt.slice (show Rdt w (.rows _ _) u2 from r2)
  obtain ⟨a3, c3, m3, HN3, rfl, hc3, hm3, -⟩ := hr.opn
  obtain ⟨bx, bc, blt, -⟩ := box_facts w #[.slice a1 m1 c1, .slice a2 m2 c2] 38
  obtain ⟨by', bd, bmt, -⟩ := box_facts (w.alloc (.cells #[.slice a1 m1 c1, .slice a2 m2 c2] 38)) #[.int .i64 r.st, .slice a3 m3 c3] 94
  have HBX := Lib.hid (bx.trans (by'.mono bx.size))
  clear bc bd bx by' r1 r2 hvs hnd hsm
  go_enter Tryz.func132, Tryz.ntmps132
  go_wp2_with fail
  generalize (w.alloc (.cells #[.slice a1 m1 c1, .slice a2 m2 c2] 38)).alloc (.cells #[.int .i64 r.st, .slice a3 m3 c3] 94) = w2 at *
  refine (HVS.out w2 HBX.out).mono ?_
  rintro e w3 ⟨v, rfl, ho, -, b3⟩
  have HO := Lib.hid (show Own w3 w2.heap.size v nd from ho rfl)
  obtain ⟨aR, cR, nR, HNR, rfl, -, -, -⟩ := HO.out.rd.opn
  have HB3 := Lib.hid (HBX.out.trans (b3.mono HBX.out.size))
  clear b3 ho
  go_wp2
  go_ret
  exact ⟨_, rfl, HO.out.mono HBX.out.size, HB3.out⟩
end Go.Proofs.YtonpcgdnfclidaaGreatDoor
namespace Go.Proofs.YtonpcgdnfclidaaGreatDoor
open Go.RowKit Go.Sort
set_option maxRecDepth 100000

set_option maxHeartbeats 6400000 in
theorem l3Route_any (u1 u2 v3 : Value) (n : Net) (r : Rou) (nd : List Int) (w : World) (h : NetR w (.agg #[u1, u2]) n) (hok : netOk n = true) (hr : Rd w v3 r.fb) (hl : r.fb.length ≤ 1100000) (hnd : rouN n r = some nd) :
    Calls Tryz.prog 102 #[.agg #[u1, u2], .agg #[.int .i64 r.st, v3]] w fun e w' => e = .returned (.string (mk (rouL n r nd r.fb.length))) ∧ Below w.heap.size w w' := by
  have HVS := Lib.hid (fun w' (hb : Below w.heap.size w w') => l4Nodes_any u1 u2 v3 n r nd w' (h.behind hb) (hr.belowAll hb) hl hnd)
  obtain ⟨g1, g2, g3, g4, g5, g6⟩ := rou_facts hok hnd
  have h14 := (netOk_yes hok).2.2.1
  have h2 := (netOk_yes hok).1
  have HSL := Lib.hid (stpL_len hok r.fb nd (fun k hk => by have := g6 k hk; omega))
  have HSM := Lib.hid (fun i : Nat => nm_len hok (i : Int))
  obtain ⟨x1, x2, e, r1, r2, hsm⟩ := h
  simp only [Value.agg.injEq, Array.mk.injEq, List.cons.injEq, and_true] at e
  obtain ⟨rfl, rfl⟩ := e
  obtain ⟨a1, m1, c1, rfl, HN1, hc1, hm1, ha1⟩ := flt_opn (m := 1) (enc := strE) (fun _ => rfl) (by omega) nilS r1
  obtain ⟨a2, m2, c2, rfl⟩ := Rdt.slice (show Rdt w (.rows _ _) u2 from r2)
  obtain ⟨a3, c3, m3, HN3, rfl, hc3, hm3, ha3⟩ := hr.opn
  obtain ⟨bN, oN, rfl, hbN, hcN⟩ := ha1 (by have := HN1.out; omega)
  have HRL := Lib.hid (show ∀ k, rouL n r nd k = nmL n r.st ++ stpL n r.fb nd k from fun _ => rfl)
  obtain ⟨s0, hs0⟩ := Int.eq_ofNat_of_zero_le g2
  have hs0I : (s0 : Int) < (m1 : Int) := by have := HN1.out; omega
  have hs0N : s0 < m1 := by omega
  have HG4 := Lib.hid (show nd[0]?.getD 0 = (s0 : Int) by rw [g4]; exact hs0)
  have HS0 := Lib.hid (show nmL n r.st = (n.ns[s0]?.getD nilS).data.toList by unfold nmL nmA; rw [hs0]; rfl)
  have H5 := Lib.hid (show ∀ k, k + 1 < r.fb.length + 1 → ∃ y : Nat, nd[k + 1]?.getD 0 = (y : Int) ∧ y < m1 from fun k hk => by
    have h1 := g5 (k + 1) (by rw [g1]; omega)
    obtain ⟨y, hy⟩ := Int.eq_ofNat_of_zero_le h1.1
    exact ⟨y, hy, by have := HN1.out; omega⟩)
  have H6 := Lib.hid (show ∀ k, k < r.fb.length → ∃ x : Nat, r.fb[k]?.getD 0 = (x : Int) ∧ x < 14 from fun k hk => by
    have h1 := g6 k hk
    obtain ⟨x, hx⟩ := Int.eq_ofNat_of_zero_le h1.1
    exact ⟨x, hx, by omega⟩)
  have HG1 := Lib.hid g1
  have HST := Lib.hid (show ∀ k, stpL n r.fb nd (k + 1) = stpL n r.fb nd k ++ ([46] ++ digs (r.fb[k]?.getD 0).toNat ++ [46] ++ nmL n (nd[k + 1]?.getD 0)) from fun _ => rfl)
  have HNM := Lib.hid (show ∀ y : Nat, nmL n (y : Int) = (n.ns[y]?.getD nilS).data.toList from fun _ => rfl)
  have HSZ := Lib.hid (show ∀ y : Nat, (n.ns[y]?.getD nilS).size ≤ 8 from fun y => HSM.out y)
  rw [HN3.out] at HSL H5 H6 HG1
  have h10 : m3 ≤ 1100000 := by have := HN3.out; omega
  have HCN := Lib.hid hcN
  have HA3 := Lib.hid ha3
  obtain ⟨bx, bc, blt, -⟩ := box_facts w #[.slice (some ⟨bN, oN, none⟩) m1 c1, .slice a2 m2 c2] 38
  obtain ⟨by', bd, bmt, -⟩ := box_facts (w.alloc (.cells #[.slice (some ⟨bN, oN, none⟩) m1 c1, .slice a2 m2 c2] 38)) #[.int .i64 r.st, .slice a3 m3 c3] 94
  have q0 := (by'.cell (p := ⟨w.heap.size, 0, none⟩) blt).trans (bc 0 _ rfl)
  have q1 := (by'.cell (p := ⟨w.heap.size, 1, none⟩) blt).trans (bc 1 _ rfl)
  have q2 := bd 0 _ rfl
  have q3 := bd 1 _ rfl
  have hs1 : (w.alloc (.cells #[.slice (some ⟨bN, oN, none⟩) m1 c1, .slice a2 m2 c2] 38)).heap.size = w.heap.size + 1 := by simp
  rw [hs1] at q2 q3 bmt
  have HBX := Lib.hid (bx.trans (by'.mono bx.size))
  have blt2 := Nat.lt_of_lt_of_le blt by'.size
  rw [show rouL n r nd r.fb.length = rouL n r nd m3 by rw [HN3.out]]
  have HST0 := Lib.hid hs0
  clear hs0
  clear bc bd bx by' hs1 ha1 ha3 hcN r1 r2 blt hr g1 g2 g3 g4 g5 g6 hnd hsm h14 h2 hl
  go_enter Tryz.func102, Tryz.ntmps102
  go_wp2_with fail
  generalize (w.alloc (.cells #[.slice (some ⟨bN, oN, none⟩) m1 c1, .slice a2 m2 c2] 38)).alloc (.cells #[.int .i64 r.st, .slice a3 m3 c3] 94) = w2 at *
  refine (HVS.out w2 HBX.out).mono ?_
  rintro e w3 ⟨v, rfl, ho, b3⟩
  have HO := Lib.hid ho
  obtain ⟨aR, cR, nR, HNR, rfl, hcR, hnR, haR⟩ := HO.out.rd.opn
  have hnR1 : nR = m3 + 1 := by have := HNR.out; have := HG1.out; omega
  subst hnR1
  obtain ⟨bR, oR, rfl, hbR, hcsR⟩ := haR (by omega)
  have hbN2 : bN < w3.heap.size := Nat.lt_of_lt_of_le hbN (Nat.le_trans HBX.out.size b3.size)
  have y0 := (b3.cell (p := ⟨w.heap.size, 0, none⟩) blt2).trans q0
  have y3 := (b3.cell (p := ⟨w.heap.size + 1, 1, none⟩) bmt).trans q3
  have y2 := (b3.cell (p := ⟨w.heap.size + 1, 0, none⟩) bmt).trans q2
  have blt3 := Nat.lt_of_lt_of_le blt2 b3.size
  have bmt3 := Nat.lt_of_lt_of_le bmt b3.size
  have HB3 := Lib.hid (HBX.out.trans (b3.mono HBX.out.size))
  have HCR := Lib.hid hcsR
  have HC3 := Lib.hid (show ∀ i, i < m1 → w3.cell? ⟨bN, oN + i, none⟩ = some (.string (n.ns[i]?.getD nilS)) from fun i hi => by
    have := HCN.out i hi 0 (.string (n.ns[i]?.getD nilS)) rfl
    rw [Nat.mul_one, Nat.add_zero] at this
    exact (HB3.out.cell (p := ⟨bN, oN + i, none⟩) hbN).trans this)
  have e0 := HC3.out s0 hs0N
  have i0 := hcsR 0 (by omega)
  rw [HG4.out, Nat.add_zero] at i0
  have hR1 : (0 : Int) < ((m3 + 1 : Nat) : Int) := by omega
  clear b3 q0 q1 q2 q3 haR hcsR
  rw [HST0.out] at y2
  go_wp2
  go_loopw [6, 7] (fun s6 i wr => ∃ (k : Nat) (X : ByteArray), k ≤ m3 ∧ i = .int .i64 k ∧ s6 = .string X ∧ Hid (X.data.toList = rouL n r nd k) ∧ Hid (Below w3.heap.size w3 wr)) (fun _ i _ => m3 - (intOf i).toNat)
  case atStart => exact ⟨0, _, Nat.zero_le _, rfl, rfl, by show Hid (_ = _); unfold Hid; rw [HRL.out, HS0.out]; simp [stpL], Below.refl _ _⟩
  case round =>
    obtain ⟨k, X, hk, rfl, rfl, HX, HB⟩ := hrel
    have t3 := (HB.out.cell (p := ⟨w.heap.size + 1, 1, none⟩) bmt3).trans y3
    by_cases hlt : k < m3
    · have hltI : (k : Int) < (m3 : Int) := by omega
      obtain ⟨y, hy, hyN⟩ := H5.out k (by omega)
      obtain ⟨x, hx, hx14⟩ := H6.out k hlt
      have hyI : (y : Int) < (m1 : Int) := by omega
      obtain ⟨bF, oF, rfl, hbF, hcF⟩ := HA3.out (by omega)
      have f0 := (HB.out.cell (p := ⟨bF, oF + k, none⟩) (Nat.lt_of_lt_of_le hbF HB3.out.size)).trans ((HB3.out.cell (p := ⟨bF, oF + k, none⟩) hbF).trans (hcF k hlt))
      have f1 := (HB.out.cell (p := ⟨bR, oR + (k + 1), none⟩) hbR).trans (HCR.out (k + 1) (by omega))
      have f2 := (HB.out.cell (p := ⟨bN, oN + y, none⟩) hbN2).trans (HC3.out y hyN)
      have t0 := (HB.out.cell (p := ⟨w.heap.size, 0, none⟩) blt3).trans y0
      rw [hx] at f0
      rw [hy] at f1
      have hst := HST.out k
      rw [hx, hy, Int.toNat_natCast, HNM.out] at hst
      have hsz := HSZ.out y
      have hsl := HSL.out k (by omega)
      have hs0s := HSZ.out s0
      have hxs : X.size ≤ 8 + 12 * k := by
        rw [size_data, HX.out, HRL.out, List.length_append, HS0.out, ← size_data]; omega
      have hdl := digs_len 1 x (by omega)
      have HI := Lib.hid (fun w => numB x (by omega) w)
      have hrl := HRL.out (k + 1)
      rw [hst] at hrl
      have hrl0 := HRL.out k
      generalize n.ns[y]?.getD nilS = s at *
      generalize digs x = ds at *
      have HX2 := Lib.hid (show (X ++ mk [46] ++ mk ds ++ mk [46] ++ s).data.toList = rouL n r nd (k + 1) from by
        rw [hrl]
        simp only [data_append, data_mk, HX.out, hrl0, List.append_assoc])
      have z1 : ¬ 9223372036854775807 < X.size + 1 := by omega
      have z2 : ¬ 9223372036854775807 < X.size + 1 + ds.length := by omega
      have z3 : ¬ 9223372036854775807 < X.size + 1 + ds.length + 1 := by omega
      have z4 : ¬ 9223372036854775807 < X.size + 1 + ds.length + 1 + s.size := by omega
      have k1 : IntKind.i64.wrap ((k : Int) + 1) = ((k + 1 : Nat) : Int) := by rw [IntWalk.i64_in _ (by omega)]; omega
      have k2 : ((k + 1 : Nat) : Int) < ((m3 + 1 : Nat) : Int) := by omega
      clear hst hsl hs0s hxs hdl hrl hrl0 hcF hx hy hsz
      go_wp2
      have j0 := rg f0
      have j1 := rg f1
      have j2 := rg f2
      have j3 := rg t0
      have j4 := rg t3
      clear f0 f1 f2 t0 t3
      refine wp_region_quiet_below (by kernel_rfl) (by kernel_rfl) ?_
      repeat (go_big_quiet_step (first | (go_at_call 101; exact Calls.regrown_of (HI.out _))))
      refine wpQuiet_nil ?_
      rintro _ ⟨⟨dq, osq⟩, rfl⟩
      have b5 := below_regrown wr dq osq
      have HB5 := Lib.hid (HB.out.trans (b5.mono HB.out.size))
      generalize grow (redrawn wr dq) osq = w5 at *
      clear j0 j1 j2 j3 z1 z2 z3 z4 k1 k2 b5 j4
      go_wp2
      go_roundw
      case rel => exact ⟨k + 1, _, hlt, by go_num, rfl, HX2.out, HB5.out⟩
      case measure => simp [intOf]; omega
    · obtain rfl : m3 = k := by omega
      go_wp2
      go_ret
      exact ⟨by rw [show X = mk (rouL n r nd m3) from ba_ext (by rw [data_mk]; exact HX.out)]; rfl, HB3.out.trans (HB.out.mono HB3.out.size)⟩
end Go.Proofs.YtonpcgdnfclidaaGreatDoor
namespace Go.Proofs.YtonpcgdnfclidaaGreatDoor
open Go.RowKit Go.Sort
set_option maxRecDepth 100000

theorem fb_nat {n : Net} (h : netOk n = true) {k : Nat} (hk : k < n.fs.length) : ∃ a b l r : Nat, fbA n k = ⟨a, b, l, r⟩ ∧ a < n.ns.length ∧ b < n.ns.length ∧ l ≤ 5000 ∧ r ≤ 9 := by
  have hp := fibOk_parts (fb_at h hk)
  generalize fbA n k = f at *
  obtain ⟨a, b, l, r⟩ := f
  dsimp only at hp
  obtain ⟨a, rfl⟩ := Int.eq_ofNat_of_zero_le hp.1
  obtain ⟨b, rfl⟩ := Int.eq_ofNat_of_zero_le (show 0 ≤ b by omega)
  obtain ⟨l, rfl⟩ := Int.eq_ofNat_of_zero_le (show 0 ≤ l by omega)
  obtain ⟨r, rfl⟩ := Int.eq_ofNat_of_zero_le (show 0 ≤ r by omega)
  exact ⟨a, b, l, r, rfl, by omega, by omega, by omega, by omega⟩
theorem fibL_nat (n : Net) (a b l r : Nat) : fibL n ⟨a, b, l, r⟩ = [102, 105, 98, 101, 114, 32] ++ (n.ns[a]?.getD nilS).data.toList ++ [32] ++ (n.ns[b]?.getD nilS).data.toList ++ [32] ++ digs l ++ (if 0 < r then [32, 114, 105, 115, 107, 32] ++ digs r else []) ++ [10] := by
  unfold fibL rskL nmL nmA
  simp
set_option maxHeartbeats 6400000 in
theorem l3Network_any (u1 u2 : Value) (n : Net) (w : World) (h : NetR w (.agg #[u1, u2]) n) (hok : netOk n = true) :
    Calls Tryz.prog 72 #[.agg #[u1, u2]] w fun e w' => e = .returned (.string (mk (netL n n.fs.length))) ∧ Below w.heap.size w w' := by
  obtain ⟨hn2, hn8, hn14, -, -⟩ := netOk_yes hok
  have HFB := Lib.hid (fun k (hk : k < n.fs.length) => fb_nat hok hk)
  have HSM := Lib.hid (fun i : Nat => nm_len hok (i : Int))
  have HLN := Lib.hid (netL_len hok)
  have HND := Lib.hid (ndsL_len hok)
  obtain ⟨x1, x2, e, r1, r2, hsm⟩ := h
  simp only [Value.agg.injEq, Array.mk.injEq, List.cons.injEq, and_true] at e
  obtain ⟨rfl, rfl⟩ := e
  obtain ⟨a1, m1, c1, rfl, HN1, hc1, hm1, ha1⟩ := flt_opn (m := 1) (enc := strE) (fun _ => rfl) (by omega) nilS r1
  obtain ⟨a2, m2, c2, rfl, HN2, hc2, hm2, ha2⟩ := flt_opn (m := 4) (enc := fibE) (fun _ => rfl) (by omega) nilB r2
  obtain ⟨bN, oN, rfl, hbN, hcN⟩ := ha1 (by have := HN1.out; omega)
  have hm14 : m2 ≤ 14 := by have := HN2.out; omega
  have hm8 : m1 ≤ 8 := by have := HN1.out; omega
  have HA2 := Lib.hid ha2
  have HCN := Lib.hid (show ∀ i, i < m1 → w.cell? ⟨bN, oN + i, none⟩ = some (.string (n.ns[i]?.getD nilS)) from fun i hi => by
    have := hcN i hi 0 (.string (n.ns[i]?.getD nilS)) rfl
    rwa [Nat.mul_one, Nat.add_zero] at this)
  have HNM := Lib.hid (show ∀ y : Nat, nmL n (y : Int) = (n.ns[y]?.getD nilS).data.toList from fun _ => rfl)
  have HSZ := Lib.hid (show ∀ y : Nat, (n.ns[y]?.getD nilS).size ≤ 8 from fun y => HSM.out y)
  have HST := Lib.hid (fun k (hk : k < n.fs.length) => netL_step hk)
  have HFL := Lib.hid (show ∀ a b l r : Nat, fibL n ⟨a, b, l, r⟩ = [102, 105, 98, 101, 114, 32] ++ (n.ns[a]?.getD nilS).data.toList ++ [32] ++ (n.ns[b]?.getD nilS).data.toList ++ [32] ++ digs l ++ (if 0 < r then [32, 114, 105, 115, 107, 32] ++ digs r else []) ++ [10] from fun a b l r => fibL_nat n a b l r)
  have HNS := Lib.hid (fun k (hk : k < n.ns.length) => ndsL_step hk)
  have HN0 := Lib.hid (show netL n 0 = [110, 111, 100, 101, 115] ++ ndsL n m1 ++ [10] by rw [← HN1.out]; unfold netL fbsL; simp)
  have HD0 := Lib.hid (show ndsL n 0 = [] from rfl)
  obtain ⟨bx, bc, blt, -⟩ := box_facts w #[.slice (some ⟨bN, oN, none⟩) m1 c1, .slice a2 m2 c2] 38
  have q0 := bc 0 _ rfl
  have q1 := bc 1 _ rfl
  have HBX := Lib.hid bx
  rw [HN1.out] at HNS
  rw [HN2.out] at HFB HST
  rw [show netL n n.fs.length = netL n m2 by rw [HN2.out]]
  clear bc bx ha1 ha2 hcN r1 r2 hsm hn2 hn8 hn14 hok
  go_enter Tryz.func72, Tryz.ntmps72
  go_wp2
  generalize w.alloc (.cells #[.slice (some ⟨bN, oN, none⟩) m1 c1, .slice a2 m2 c2] 38) = w1 at *
  obtain ⟨w3, hw3⟩ : ∃ w3, w3 = w1 := ⟨_, rfl⟩
  subst hw3
  have HB3 := HBX
  have blt3 := blt
  go_loopw [3, 4] (fun s3 i wr => ∃ (k : Nat) (X : ByteArray), k ≤ m1 ∧ i = .int .i64 k ∧ s3 = .string X ∧ Hid (X.data.toList = [110, 111, 100, 101, 115] ++ ndsL n k) ∧ Hid (Below w3.heap.size w3 wr)) (fun _ i _ => m1 - (intOf i).toNat)
  case atStart => exact ⟨0, _, Nat.zero_le _, rfl, rfl, by show Hid (_ = _); unfold Hid; rw [HD0.out]; rfl, Below.refl _ _⟩
  case round =>
    obtain ⟨k, X, hk, rfl, rfl, HX, HB⟩ := hrel
    have t0 := (HB.out.cell (p := ⟨w.heap.size, 0, none⟩) blt3).trans q0
    have hxs : X.size ≤ 80 := by
      have := HND.out k
      rw [size_data, HX.out, List.length_append]; simp; omega
    by_cases hlt : k < m1
    · have hltI : (k : Int) < (m1 : Int) := by omega
      have f2 := (HB.out.cell (p := ⟨bN, oN + k, none⟩) (Nat.lt_of_lt_of_le hbN HB3.out.size)).trans ((HB3.out.cell (p := ⟨bN, oN + k, none⟩) hbN).trans (HCN.out k hlt))
      have hsz := HSZ.out k
      have hst := HNS.out k hlt
      unfold nmA at hst
      generalize n.ns[k]?.getD nilS = s at *
      have HX2 := Lib.hid (show (X ++ mk [32] ++ s).data.toList = [110, 111, 100, 101, 115] ++ ndsL n (k + 1) from by
        rw [hst]
        simp [data_append, HX.out])
      have z1 : ¬ 9223372036854775807 < X.size + 1 := by omega
      have z2 : ¬ 9223372036854775807 < X.size + 1 + s.size := by omega
      clear hsz hst hxs
      go_wp2
      go_roundw
      case rel => exact ⟨k + 1, _, hlt, by go_num, rfl, HX2.out, HB.out⟩
      case measure => simp [intOf]; omega
    · obtain rfl : m1 = k := by omega
      have hmm : ¬ (m1 : Int) < (m1 : Int) := by omega
      have z1 : ¬ 9223372036854775807 < X.size + 1 := by omega
      have HX0 := Lib.hid (show (X ++ mk [10]).data.toList = netL n 0 from by
        rw [HN0.out]
        simp [data_append, HX.out])
      have HBW := Lib.hid (HB3.out.trans (HB.out.mono HB3.out.size))
      have q0w := (HB.out.cell (p := ⟨w.heap.size, 0, none⟩) blt3).trans q0
      have q1w := (HB.out.cell (p := ⟨w.heap.size, 1, none⟩) blt3).trans q1
      have bltw := Nat.lt_of_lt_of_le blt3 HB.out.size
      obtain ⟨w4, hw4⟩ : ∃ w4, w4 = wr := ⟨_, rfl⟩
      subst hw4
      clear hxs hlt t0
      go_wp2
      go_loopw [3, 5, 6] (fun s4 i _ wr => ∃ (k : Nat) (X : ByteArray), k ≤ m2 ∧ i = .int .i64 k ∧ s4 = .string X ∧ Hid (X.data.toList = netL n k) ∧ Hid (Below w4.heap.size w4 wr)) (fun _ i _ _ => m2 - (intOf i).toNat)
      case atStart => exact ⟨0, _, Nat.zero_le _, rfl, rfl, HX0.out, Below.refl _ _⟩
      case round =>
        obtain ⟨k, X, hk, rfl, rfl, HX, HB⟩ := hrel
        have t0 := (HB.out.cell (p := ⟨w.heap.size, 0, none⟩) bltw).trans q0w
        have t1 := (HB.out.cell (p := ⟨w.heap.size, 1, none⟩) bltw).trans q1w
        have hxs : X.size ≤ 1000 := by rw [size_data, HX.out]; exact HLN.out k
        by_cases hlt : k < m2
        · have hltI : (k : Int) < (m2 : Int) := by omega
          obtain ⟨a, b, l, r, hf, haN, hbN1, hl5, hr9⟩ := HFB.out k hlt
          rw [HN1.out] at haN hbN1
          have haI : (a : Int) < (m1 : Int) := by omega
          have hbI : (b : Int) < (m1 : Int) := by omega
          obtain ⟨bF, oF, rfl, hbF, hcF⟩ := HA2.out (by omega)
          have hck := hcF k hlt
          unfold fbA at hf
          rw [hf] at hck
          have HW := Lib.hid (HBW.out.trans (HB.out.mono HBW.out.size))
          have f0 := (HW.out.cell (p := ⟨bF, oF + k * 4 + 0, none⟩) hbF).trans (hck 0 (.int .i64 (a : Int)) rfl)
          have f1 := (HW.out.cell (p := ⟨bF, oF + k * 4 + 1, none⟩) hbF).trans (hck 1 (.int .i64 (b : Int)) rfl)
          have f2 := (HW.out.cell (p := ⟨bF, oF + k * 4 + 2, none⟩) hbF).trans (hck 2 (.int .i64 (l : Int)) rfl)
          have f3 := (HW.out.cell (p := ⟨bF, oF + k * 4 + 3, none⟩) hbF).trans (hck 3 (.int .i64 (r : Int)) rfl)
          simp only [Nat.add_zero] at f0
          have e0 := (HW.out.cell (p := ⟨bN, oN + a, none⟩) hbN).trans (HCN.out a haN)
          have e1 := (HW.out.cell (p := ⟨bN, oN + b, none⟩) hbN).trans (HCN.out b hbN1)
          obtain ⟨bx, bc, bl4, -⟩ := box_facts wr #[.int .i64 (a : Int), .int .i64 (b : Int), .int .i64 (l : Int), .int .i64 (r : Int)] 110
          have s0 := bc 0 _ rfl
          have s1 := bc 1 _ rfl
          have s2 := bc 2 _ rfl
          have s3 := bc 3 _ rfl
          have g0 := (bx.cell (p := ⟨w.heap.size, 0, none⟩) (World.block_lt_of_cell? _ _ t0)).trans t0
          have g1 := (bx.cell (p := ⟨bN, oN + a, none⟩) (World.block_lt_of_cell? _ _ e0)).trans e0
          have g2 := (bx.cell (p := ⟨bN, oN + b, none⟩) (World.block_lt_of_cell? _ _ e1)).trans e1
          have HB5 := Lib.hid (HB.out.trans (bx.mono HB.out.size))
          have hst := HST.out k hlt
          unfold fbA at hst
          rw [hf, HFL.out] at hst
          have hsa := HSZ.out a
          have hsb := HSZ.out b
          have hd5 := digs_len 3 l (by omega)
          have hdr := digs_len 0 r (by omega)
          have HI := Lib.hid (fun w => numB l (by omega) w)
          have HR := Lib.hid (fun w => numB r (by omega) w)
          have hrb : decide ((0 : Int) < (r : Int)) = decide (0 < r) := by
            by_cases h0 : 0 < r
            · rw [decide_eq_true h0]; exact decide_eq_true (by omega)
            · rw [decide_eq_false h0]; exact decide_eq_false (by omega)
          have HRB := Lib.hid hrb
          clear bx bc hck hcF hf hrb
          generalize n.ns[a]?.getD nilS = sa at *
          generalize n.ns[b]?.getD nilS = sb at *
          generalize digs l = dl at *
          generalize digs r = dr at *
          have z0 : ¬ 9223372036854775807 < X.size + 6 := by omega
          have z1 : ¬ 9223372036854775807 < X.size + 6 + sa.size := by omega
          have z2 : ¬ 9223372036854775807 < X.size + 6 + sa.size + 1 := by omega
          have z3 : ¬ 9223372036854775807 < X.size + 6 + sa.size + 1 + sb.size := by omega
          have z4 : ¬ 9223372036854775807 < X.size + 6 + sa.size + 1 + sb.size + 1 := by omega
          have z5 : ¬ 9223372036854775807 < X.size + 6 + sa.size + 1 + sb.size + 1 + dl.length := by omega
          clear e0 e1
          by_cases hr0 : 0 < r
          · have hrI : (0 : Int) < (r : Int) := by omega
            have hrd : decide (0 < r) = true := decide_eq_true hr0
            have HX2 := Lib.hid (show (X ++ mk [102, 105, 98, 101, 114, 32] ++ sa ++ mk [32] ++ sb ++ mk [32] ++ mk dl ++ mk [32, 114, 105, 115, 107, 32] ++ mk dr ++ mk [10]).data.toList = netL n (k + 1) from by
              rw [hst, if_pos hr0]
              simp [data_append, HX.out])
            have y0 : ¬ 9223372036854775807 < X.size + 6 + sa.size + 1 + sb.size + 1 + dl.length + 6 := by omega
            have y1 : ¬ 9223372036854775807 < X.size + 6 + sa.size + 1 + sb.size + 1 + dl.length + 6 + dr.length := by omega
            have y2 : ¬ 9223372036854775807 < X.size + 6 + sa.size + 1 + sb.size + 1 + dl.length + 6 + dr.length + 1 := by omega
            clear hst hsa hsb hd5 hdr hxs HRB
            go_wp2
            clear f0 f1 f2 f3
            generalize wr.alloc (.cells #[.int .i64 (a : Int), .int .i64 (b : Int), .int .i64 (l : Int), .int .i64 (r : Int)] 110) = w5 at *
            have j0 := rg s0
            have j1 := rg s1
            have j2 := rg s2
            have j3 := rg s3
            have j4 := rg g0
            have j5 := rg g1
            have j6 := rg g2
            clear s0 s1 s2 s3 g0 g1 g2 t0 t1
            refine wp_region_quiet_below (by kernel_rfl) (by kernel_rfl) ?_
            repeat (go_big_quiet_step (first | (go_at_call 101; exact Calls.regrown_of (HI.out _))))
            refine wpQuiet_nil ?_
            rintro _ ⟨⟨dq, osq⟩, rfl⟩
            have b6 := below_regrown w5 dq osq
            have s3 := j3 dq osq
            have HB6 := Lib.hid (HB5.out.trans (b6.mono HB5.out.size))
            generalize grow (redrawn w5 dq) osq = w6 at *
            clear j0 j1 j2 j3 j4 j5 j6 b6 z0 z1 z2 z3 z4 z5
            go_wp2_with fail
            refine (HR.out _).mono ?_
            rintro e w7 ⟨rfl, b7⟩
            have HB7 := Lib.hid (HB6.out.trans (b7.mono HB6.out.size))
            clear b7 s3
            go_wp2
            go_roundw
            case rel => exact ⟨k + 1, _, hlt, by go_num, rfl, HX2.out, HB7.out⟩
            case measure => simp [intOf]; omega
          · have hrI : ¬ (0 : Int) < (r : Int) := by omega
            have hrd : decide (0 < r) = false := decide_eq_false hr0
            have HX2 := Lib.hid (show (X ++ mk [102, 105, 98, 101, 114, 32] ++ sa ++ mk [32] ++ sb ++ mk [32] ++ mk dl ++ mk [10]).data.toList = netL n (k + 1) from by
              rw [hst, if_neg hr0]
              simp [data_append, HX.out])
            have y0 : ¬ 9223372036854775807 < X.size + 6 + sa.size + 1 + sb.size + 1 + dl.length + 1 := by omega
            clear hst hsa hsb hd5 hdr hxs HRB
            go_wp2
            clear f0 f1 f2 f3
            generalize wr.alloc (.cells #[.int .i64 (a : Int), .int .i64 (b : Int), .int .i64 (l : Int), .int .i64 (r : Int)] 110) = w5 at *
            have j0 := rg s0
            have j1 := rg s1
            have j2 := rg s2
            have j3 := rg s3
            have j4 := rg g0
            have j5 := rg g1
            have j6 := rg g2
            clear s0 s1 s2 s3 g0 g1 g2 t0 t1
            refine wp_region_quiet_below (by kernel_rfl) (by kernel_rfl) ?_
            repeat (go_big_quiet_step (first | (go_at_call 101; exact Calls.regrown_of (HI.out _))))
            refine wpQuiet_nil ?_
            rintro _ ⟨⟨dq, osq⟩, rfl⟩
            have b6 := below_regrown w5 dq osq
            have s3 := j3 dq osq
            have HB6 := Lib.hid (HB5.out.trans (b6.mono HB5.out.size))
            generalize grow (redrawn w5 dq) osq = w6 at *
            clear j0 j1 j2 j3 j4 j5 j6 b6 z0 z1 z2 z3 z4 z5
            go_wp2
            go_roundw
            case rel => exact ⟨k + 1, _, hlt, by go_num, rfl, HX2.out, HB6.out⟩
            case measure => simp [intOf]; omega
        · obtain rfl : m2 = k := by omega
          go_wp2
          go_ret
          exact ⟨by rw [show X = mk (netL n m2) from ba_ext (by rw [data_mk]; exact HX.out)]; rfl, HBW.out.trans (HB.out.mono HBW.out.size)⟩
end Go.Proofs.YtonpcgdnfclidaaGreatDoor
namespace Go.Proofs.YtonpcgdnfclidaaGreatDoor
open Go.RowKit Go.Sort
set_option maxRecDepth 100000

set_option maxHeartbeats 3200000 in
theorem l3Light_any (u1 u2 v : Value) (n : Net) (x : Lgt) (w : World) (h : NetR w (.agg #[u1, u2]) n) (hok : netOk n = true) (hr : Rd w v x.fb) (hl : x.fb.length ≤ 1100000) (hx : lgtOk n x = true) :
    Calls Tryz.prog 73 #[.agg #[u1, u2], .agg #[.int .i64 x.id, .int .i64 x.st, v, .int .i64 x.fi, .int .i64 x.ct]] w fun e w' => e = .returned (.string (mk (lgtL n x))) ∧ Below w.heap.size w w' := by
  obtain ⟨i, f, c, hi, hf, hc, i9, f9, c9, nd, hnd⟩ := lgt_nat hx
  obtain ⟨id, st, fb, fi, ct⟩ := x
  dsimp only at hi hf hc hnd hl hr
  subst hi hf hc
  have HR := Lib.hid (fun w' (hb : Below w.heap.size w w') => l3Route_any u1 u2 v n ⟨st, fb⟩ nd w' (h.behind hb) hok (hr.belowAll hb) hl hnd)
  have HN := Lib.hid (fun w => numB i (by omega) w)
  have HK := Lib.hid (fun w => l3Block_any f c f9 c9 w)
  have hrl : (rouL n ⟨st, fb⟩ nd fb.length).length ≤ 13200008 := rouL_len hok hnd hl
  have hd1 := digs_len 2 i (by omega)
  have hd2 := digs_len 1 f (by omega)
  have hd3 := digs_len 1 c (by omega)
  have hbl : (digs f ++ [43] ++ digs c).length ≤ 5 := by simp only [List.length_append, List.length_cons, List.length_nil]; omega
  have HE := Lib.hid (show (mk (digs i) ++ mk [32] ++ mk (rouL n ⟨st, fb⟩ nd fb.length) ++ mk [32] ++ mk (digs f ++ [43] ++ digs c)) = mk (lgtL n ⟨i, st, fb, f, c⟩) from by
    rw [lgtL_nat hnd]
    simp only [mk_append])
  obtain ⟨x1, x2, e, r1, r2, hsm⟩ := h
  simp only [Value.agg.injEq, Array.mk.injEq, List.cons.injEq, and_true] at e
  obtain ⟨rfl, rfl⟩ := e
  obtain ⟨a1, m1, c1, rfl⟩ := Rdt.slice (show Rdt w (.rows _ _) u1 from r1)
  obtain ⟨a2, m2, c2, rfl⟩ := Rdt.slice (show Rdt w (.rows _ _) u2 from r2)
  obtain ⟨a3, c3, m3, -, rfl, -, -, -⟩ := hr.opn
  obtain ⟨bx, bc, blt, -⟩ := box_facts w #[.slice a1 m1 c1, .slice a2 m2 c2] 38
  obtain ⟨by', bd, bmt, -⟩ := box_facts (w.alloc (.cells #[.slice a1 m1 c1, .slice a2 m2 c2] 38)) #[.int .i64 (i : Int), .int .i64 st, .slice a3 m3 c3, .int .i64 (f : Int), .int .i64 (c : Int)] 98
  have q0 := (by'.cell (p := ⟨w.heap.size, 0, none⟩) blt).trans (bc 0 _ rfl)
  have q1 := (by'.cell (p := ⟨w.heap.size, 1, none⟩) blt).trans (bc 1 _ rfl)
  have p0 := bd 0 _ rfl
  have p1 := bd 1 _ rfl
  have p2 := bd 2 _ rfl
  have p3 := bd 3 _ rfl
  have p4 := bd 4 _ rfl
  have hs1 : (w.alloc (.cells #[.slice a1 m1 c1, .slice a2 m2 c2] 38)).heap.size = w.heap.size + 1 := by simp
  rw [hs1] at p0 p1 p2 p3 p4
  have HBX := Lib.hid (bx.trans (by'.mono bx.size))
  generalize lgtL n ⟨i, st, fb, f, c⟩ = LL at *
  generalize rouL n ⟨st, fb⟩ nd fb.length = RL at *
  generalize digs f ++ [43] ++ digs c = BL at *
  generalize digs i = di at *
  have z1 : ¬ 9223372036854775807 < di.length + 1 := by omega
  have z2 : ¬ 9223372036854775807 < di.length + 1 + RL.length := by omega
  have z3 : ¬ 9223372036854775807 < di.length + 1 + RL.length + 1 := by omega
  have z4 : ¬ 9223372036854775807 < di.length + 1 + RL.length + 1 + BL.length := by omega
  clear bc bd bx by' hs1 hr r1 r2 hsm hd1 hd2 hd3 hbl hrl hl hnd hok hx blt bmt
  go_enter Tryz.func73, Tryz.ntmps73
  go_wp2
  generalize (w.alloc (.cells #[.slice a1 m1 c1, .slice a2 m2 c2] 38)).alloc (.cells #[.int .i64 (i : Int), .int .i64 st, .slice a3 m3 c3, .int .i64 (f : Int), .int .i64 (c : Int)] 98) = w1 at *
  have j0 := rg q0
  have j1 := rg q1
  have k0 := rg p0
  have k1 := rg p1
  have k2 := rg p2
  have k3 := rg p3
  have k4 := rg p4
  clear q0 q1 p0 p1 p2 p3 p4
  refine wp_region_quiet_below (by kernel_rfl) (by kernel_rfl) ?_
  repeat (go_big_quiet_step (first | (go_at_call 101; exact Calls.regrown_of (HN.out _)) | (go_at_call 103; exact Calls.regrown_of (HK.out _)) | (go_at_call 102; exact Calls.regrown_of (HR.out _ (HBX.out.trans ((below_regrown _ _ _).mono HBX.out.size))))))
  refine wpQuiet_nil ?_
  rintro _ ⟨⟨dq, osq⟩, rfl⟩
  have b3 := below_regrown w1 dq osq
  generalize grow (redrawn w1 dq) osq = w3 at *
  go_wp2
  go_ret
  exact ⟨by rw [← HE.out]; rfl, HBX.out.trans (b3.mono HBX.out.size)⟩
set_option maxHeartbeats 6400000 in
theorem l3Plan_any (v : Value) (p : Pln) (w : World) (h : PlnR w v p) (hok : plnOk p = true) (hfb : ∀ i : Nat, (lgA p i).fb.length ≤ 1100000) :
    Calls Tryz.prog 50 #[v] w fun e w' => e = .returned (.string (mk (plnL p p.ls.length))) ∧ Below w.heap.size w w' := by
  obtain ⟨hno, h12, hlo⟩ := plnOk_ls hok
  obtain ⟨u1, u2, u3, rfl, r1, r2, r3, hsm⟩ := h
  have hnet : NetR w (.agg #[u1, u2]) p.n := ⟨u1, u2, rfl, r1, r2, hsm⟩
  obtain ⟨⟨a1, m1, c1, rfl⟩, a2, m2, c2, rfl⟩ := slice_of_net hnet
  obtain ⟨a3, m3, c3, rfl, HN3, hc3, hm3, ha3⟩ := lgt_opn r3
  have HNT := Lib.hid (fun w' (hb : Below w.heap.size w w') => l3Network_any _ _ p.n w' (hnet.behind hb) hno)
  have HLI := Lib.hid (fun k (hk : k < p.ls.length) v w' (hb : Below w.heap.size w w') (hr : Rd w' v (lgA p k).fb) => l3Light_any _ _ v p.n (lgA p k) w' (hnet.behind hb) hno hr (hfb k) (hlo k hk))
  have HA := Lib.hid ha3
  have HFB := Lib.hid hfb
  have HLN := Lib.hid (plnL_len hok hfb)
  have HLL := Lib.hid (fun k (hk : k < p.ls.length) => lnL_len hno (hlo k hk) (hfb k))
  have HST := Lib.hid (fun k (hk : k < p.ls.length) => plnL_step hk)
  have HP0 := Lib.hid (show plnL p 0 = netL p.n p.n.fs.length by unfold plnL lnsL; simp)
  have hm12 : m3 ≤ 12 := by have := HN3.out; omega
  obtain ⟨bx, bc, blt, -⟩ := box_facts w #[.slice a1 m1 c1, .slice a2 m2 c2, .slice a3 m3 c3] 41
  have q0 := bc 0 _ rfl
  have q1 := bc 1 _ rfl
  have q2 := bc 2 _ rfl
  have HBX := Lib.hid bx
  rw [show plnL p p.ls.length = plnL p m3 by rw [HN3.out]]
  rw [HN3.out] at HLI HLN HLL HST
  clear bc bx ha3 r1 r2 r3 hsm hnet hfb hlo hno h12 hok
  go_enter Tryz.func50, Tryz.ntmps50
  go_wp2_with fail
  generalize w.alloc (.cells #[.slice a1 m1 c1, .slice a2 m2 c2, .slice a3 m3 c3] 41) = w1 at *
  refine (HNT.out _ HBX.out).mono ?_
  rintro e w3 ⟨rfl, b3⟩
  have t0 := (b3.cell (p := ⟨w.heap.size, 0, none⟩) blt).trans q0
  have t1 := (b3.cell (p := ⟨w.heap.size, 1, none⟩) blt).trans q1
  have t2 := (b3.cell (p := ⟨w.heap.size, 2, none⟩) blt).trans q2
  have HB3 := Lib.hid (HBX.out.trans (b3.mono HBX.out.size))
  have blt3 := Nat.lt_of_lt_of_le blt b3.size
  clear b3 q0 q1 q2
  obtain ⟨q0, q1, q2⟩ := And.intro t0 (And.intro t1 t2)
  clear t0 t1 t2
  go_wp2
  go_loopw [3, 4] (fun s4 i wr => ∃ (k : Nat) (X : ByteArray), k ≤ m3 ∧ i = .int .i64 k ∧ s4 = .string X ∧ Hid (X.data.toList = plnL p k) ∧ Hid (Below w3.heap.size w3 wr)) (fun _ i _ => m3 - (intOf i).toNat)
  case atStart => exact ⟨0, _, Nat.zero_le _, rfl, rfl, by show Hid (_ = _); unfold Hid; rw [HP0.out, data_mk], Below.refl _ _⟩
  case round =>
    obtain ⟨k, X, hk, rfl, rfl, HX, HB⟩ := hrel
    have t0 := (HB.out.cell (p := ⟨w.heap.size, 0, none⟩) blt3).trans q0
    have t1 := (HB.out.cell (p := ⟨w.heap.size, 1, none⟩) blt3).trans q1
    have t2 := (HB.out.cell (p := ⟨w.heap.size, 2, none⟩) blt3).trans q2
    have hxs : X.size ≤ 1000 + 13300000 * k := by rw [size_data, HX.out]; exact HLN.out k hk
    by_cases hlt : k < m3
    · have hltI : (k : Int) < (m3 : Int) := by omega
      obtain ⟨b, off, rfl, hbs, hcs⟩ := HA.out (by omega)
      obtain ⟨u, e0, e1, e2, e3, e4, hru⟩ := hcs k hlt
      have HW := Lib.hid (HB3.out.trans (HB.out.mono HB3.out.size))
      have f0 := (HW.out.cell (p := ⟨b, off + k * 5, none⟩) hbs).trans e0
      have f1 := (HW.out.cell (p := ⟨b, off + k * 5 + 1, none⟩) hbs).trans e1
      have f2 := (HW.out.cell (p := ⟨b, off + k * 5 + 2, none⟩) hbs).trans e2
      have f3 := (HW.out.cell (p := ⟨b, off + k * 5 + 3, none⟩) hbs).trans e3
      have f4 := (HW.out.cell (p := ⟨b, off + k * 5 + 4, none⟩) hbs).trans e4
      have hst := HST.out k hlt
      have hll := HLL.out k hlt
      obtain ⟨aU, cU, nU, -, rfl, -, -, -⟩ := hru.opn
      have HRU := Lib.hid hru
      have HL := Lib.hid (fun w' (hb : Below w.heap.size w w') => HLI.out k hlt (.slice aU nU cU) w' hb (HRU.out.belowAll hb))
      unfold lnL at hst hll
      simp only [List.length_append, List.length_cons, List.length_nil] at hll
      generalize lgtL p.n (lgA p k) = LL at *
      generalize hx : lgA p k = x at *
      unfold lgA at hx
      rw [hx] at f0 f1 f3 f4
      have HX2 := Lib.hid (show (X ++ mk [108, 105, 103, 104, 116, 32] ++ mk LL ++ mk [10]).data.toList = plnL p (k + 1) from by
        rw [hst]
        simp [data_append, HX.out])
      have z0 : ¬ 9223372036854775807 < X.size + 6 := by omega
      have z1 : ¬ 9223372036854775807 < X.size + 6 + LL.length := by omega
      have z2 : ¬ 9223372036854775807 < X.size + 6 + LL.length + 1 := by omega
      clear hst hll hxs hru hcs e0 e1 e2 e3 e4 hx
      go_wp2
      have j0 := rg t0
      have j1 := rg t1
      have j2 := rg t2
      have k0 := rg f0
      have k1 := rg f1
      have k2 := rg f2
      have k3 := rg f3
      have k4 := rg f4
      clear t0 t1 t2 f0 f1 f2 f3 f4
      refine wp_region_quiet_below (by kernel_rfl) (by kernel_rfl) ?_
      repeat (go_big_quiet_step (first | (go_at_call 73; exact Calls.regrown_of (HL.out _ (HW.out.trans ((below_regrown _ _ _).mono HW.out.size))))))
      refine wpQuiet_nil ?_
      rintro _ ⟨⟨dq, osq⟩, rfl⟩
      have b6 := below_regrown wr dq osq
      have HB6 := Lib.hid (HB.out.trans (b6.mono HB.out.size))
      generalize grow (redrawn wr dq) osq = w6 at *
      clear j0 j1 j2 k0 k1 k2 k3 k4 b6 z0 z1 z2
      go_wp2
      go_roundw
      case rel => exact ⟨k + 1, _, hlt, by go_num, rfl, HX2.out, HB6.out⟩
      case measure => simp [intOf]; omega
    · obtain rfl : m3 = k := by omega
      go_wp2
      go_ret
      exact ⟨by rw [show X = mk (plnL p m3) from ba_ext (by rw [data_mk]; exact HX.out)]; rfl, HB3.out.trans (HB.out.mono HB3.out.size)⟩
end Go.Proofs.YtonpcgdnfclidaaGreatDoor
