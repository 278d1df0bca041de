/- Walk: solved. -/
import Derived.Test.YtlemielobmbadaaSolB
namespace Go.Proofs.Ytlemielobmbadaa
open Go.RowKit

def solR (ps : List Int) (want : Vec) : List Int := if solOk ps want then sol ps want else []
/-- The four numbers of the right side, in a block of their own. -/
def WantB (w : World) (A : Nat) (s0 s1 s2 s3 : Int) : Prop := ∃ T, w.heap[A]? = some (.cells #[.int .i64 s0, .int .i64 s1, .int .i64 s2, .int .i64 s3] T (0, 0))
theorem WantB.cell {w : World} {A : Nat} {s0 s1 s2 s3 : Int} (h : WantB w A s0 s1 s2 s3) {j : Nat} (hj : j < 4) : w.cell? ⟨A, j, none⟩ = some (.int .i64 (wv s0 s1 s2 s3 j)) := by
  obtain ⟨T, hT⟩ := h
  rw [cell_of_row w A j _ _ _ hT]
  rcases j with _ | _ | _ | _ | j <;> first | rfl | omega
theorem WantB.kept {w w' : World} {A : Nat} {s0 s1 s2 s3 : Int} (h : WantB w A s0 s1 s2 s3) (e : w'.heap[A]? = w.heap[A]?) : WantB w' A s0 s1 s2 s3 := by
  obtain ⟨T, hT⟩ := h
  exact ⟨T, e.trans hT⟩
theorem WantB.lt {w : World} {A : Nat} {s0 s1 s2 s3 : Int} (h : WantB w A s0 s1 s2 s3) : A < w.heap.size := by
  obtain ⟨T, hT⟩ := h
  exact (Array.getElem?_eq_some_iff.1 hT).1

/-- What stands at every point of the walk: the matrix, the right side, and that nothing older has turned. -/
structure St (w wr : World) (s0 s1 s2 s3 : Int) (M : Mat) : Prop where
  mat : MatB wr w.heap.size (w.heap.size + 1) M
  want : WantB wr w.heap.size s0 s1 s2 s3
  bel : Below w.heap.size w wr
theorem St.set {w wr : World} {s0 s1 s2 s3 : Int} {M : Mat} (h : St w wr s0 s1 s2 s3 M) {j c : Nat} (hj : j < 4) (hc : c < 5) (v : Int) : St w (wr.setCell ⟨w.heap.size + 1, j * 5 + c, none⟩ (.int .i64 v)) s0 s1 s2 s3 (upd M j c v) := by
  have h1 := h.mat.set hj hc v
  exact ⟨h1.1, h.want.kept (h1.2.block _ h.want.lt (by simp)), h.bel.grown h1.2 h.bel.size (fun k hk => by simp at hk; omega)⟩
theorem St.drew {w wr : World} {s0 s1 s2 s3 : Int} {M : Mat} (h : St w wr s0 s1 s2 s3 M) : St w wr.drew s0 s1 s2 s3 M := ⟨h.mat, h.want, h.bel.drew⟩
theorem St.drewN {w wr : World} {s0 s1 s2 s3 : Int} {M : Mat} (h : St w wr s0 s1 s2 s3 M) (n : Nat) : St w (wr.drewN n) s0 s1 s2 s3 M := ⟨h.mat, h.want, Dr.below ⟨n, rfl⟩ h.bel⟩
theorem St.congr {w wr : World} {s0 s1 s2 s3 : Int} {M M' : Mat} (h : St w wr s0 s1 s2 s3 M) (e : ∀ j, j < 4 → ∀ c, c < 5 → M j c = M' j c) : St w wr s0 s1 s2 s3 M' := ⟨h.mat.congr e, h.want, h.bel⟩

/-- Row j as an array's value. -/
def rowL (M : Mat) (j : Nat) : List Value := [.int .i64 (M j 0), .int .i64 (M j 1), .int .i64 (M j 2), .int .i64 (M j 3), .int .i64 (M j 4)]
theorem rowL_one (M : Mat) (j : Nat) : ∀ v ∈ rowL M j, v.oneCell' = true := by intro v hv; simp [rowL] at hv; rcases hv with rfl | rfl | rfl | rfl | rfl <;> rfl
theorem St.range {w wr : World} {s0 s1 s2 s3 : Int} {M : Mat} (h : St w wr s0 s1 s2 s3 M) {j : Nat} (hj : j < 4) : wr.rangeAt (w.heap.size + 1) (j * 5) (rowL M j) := by
  intro c v hv
  rcases c with _ | _ | _ | _ | _ | c
  all_goals first | (simp [rowL] at hv; subst hv; exact h.mat.cell hj (by omega)) | (simp [rowL] at hv)
theorem St.there {w wr : World} {s0 s1 s2 s3 : Int} {M : Mat} (h : St w wr s0 s1 s2 s3 M) {j : Nat} (hj : j < 4) : wr.there (w.heap.size + 1) (j * 5) 5 := by
  intro c hc
  exact ⟨by rw [h.mat.cell hj hc]; rfl, h.mat.frozen _⟩
/-- A whole row stored. -/
theorem St.row {w wr : World} {s0 s1 s2 s3 : Int} {M N : Mat} (h : St w wr s0 s1 s2 s3 M) {j i : Nat} (hj : j < 4) : St w (wr.setCells (w.heap.size + 1) (j * 5) (rowL N i)) s0 s1 s2 s3 (fun j' c' => if j' = j ∧ c' < 5 then N i c' else M j' c') := by
  have h1 := ((((h.set hj (c := 0) (by omega) (N i 0)).set hj (c := 1) (by omega) (N i 1)).set hj (c := 2) (by omega) (N i 2)).set hj (c := 3) (by omega) (N i 3)).set hj (c := 4) (by omega) (N i 4)
  have h2 := h1.congr (M' := fun j' c' => if j' = j ∧ c' < 5 then N i c' else M j' c') (fun j' _ c' hc' => by
    unfold upd
    rcases c' with _ | _ | _ | _ | _ | c'
    all_goals first | omega | (by_cases e : j' = j <;> simp [e]))
  exact h2

set_option maxHeartbeats 6400000 in
set_option maxRecDepth 100000 in
theorem solved_any (v : Value) (ps : List Int) (s0 s1 s2 s3 : Int) (w : World) (h : Rd w v ps) (hp : Pl ps) (h0 : Sym s0) (h1 : Sym s1) (h2 : Sym s2) (h3 : Sym s3) :
    Calls Try.prog 78 #[v, .agg #[.int .i64 s0, .int .i64 s1, .int .i64 s2, .int .i64 s3]] w fun e w' =>
      ∃ v', e = .returned (.tuple #[v', .bool (solOk ps (wv s0 s1 s2 s3))]) ∧ Own w' w.heap.size v' (solR ps (wv s0 s1 s2 s3)) ∧ Below w.heap.size w w' := by
  obtain ⟨a, cap, n, HX, rfl, _, _, ha⟩ := h.opn
  have hn4 : n ≤ 4 := by rw [← HX.out]; exact hp.len
  have hws := wv_sym h0 h1 h2 h3
  have HP := Lib.hid hp
  have HWS := Lib.hid hws
  clear hp hws
  go_enter Try.func78, Try.ntmps78
  go_wp2_with (refine mat_new 107 22 7 rfl rfl rfl rfl rfl rfl rfl rfl rfl (by decide) (by simp) (by simp) (by kernel_rfl) (by kernel_rfl) ?_)
  have hSt : St w ((w.alloc (.cells #[.int .i64 s0, .int .i64 s1, .int .i64 s2, .int .i64 s3] 89)).alloc (.cells (zer 20) 107)) s0 s1 s2 s3 (fillTo ps (wv s0 s1 s2 s3) 0 0) := by
    refine ⟨?_, ⟨_, heap_alloc2_old w _ _⟩, ((Below.refl _ _).alloc (Nat.le_refl _) _).alloc (by simp) _⟩
    unfold MatB; rw [fill_zero]
    refine .inr ⟨w.heap.size + 1, 0, 20, zer 20, by simp, by omega, ⟨_, heap_alloc2_new w _ _⟩, by simp, by unfold maxLen; omega, by simp [zer], by simp [zer]⟩
  generalize ((w.alloc (.cells #[.int .i64 s0, .int .i64 s1, .int .i64 s2, .int .i64 s3] 89)).alloc (.cells (zer 20) 107)) = w1 at *
  go_loopw [23] (fun i wr => ∃ j : Nat, j ≤ 4 ∧ i = .int .i64 j ∧ St w wr s0 s1 s2 s3 (fillTo ps (wv s0 s1 s2 s3) j 0)) (fun i _ => 4 - (intOf i).toNat)
  case atStart => exact ⟨0, by omega, rfl, hSt⟩
  case round =>
    obtain ⟨j, hj, rfl, hst⟩ := hrel
    by_cases hlt : j < 4
    · have hd : decide ((j : Int) < 4) = true := by simp; omega
      have hji : (j : Int) < 4 := by omega
      go_wp2
      go_loopw [28] (fun i wr => ∃ k : Nat, k ≤ n ∧ i = .int .i64 k ∧ St w wr s0 s1 s2 s3 (fillTo ps (wv s0 s1 s2 s3) j k)) (fun i _ => n - (intOf i).toNat)
      case atStart => exact ⟨0, by omega, rfl, hst⟩
      case round =>
        obtain ⟨k, hk, rfl, hst⟩ := hrel
        by_cases hlt2 : k < n
        · obtain ⟨b, off, rfl, hbs, hc⟩ := ha (by omega)
          have hcell0 := hc _ hlt2
          rw [← hst.bel.cell (p := ⟨b, off + k, none⟩) hbs] at hcell0
          obtain ⟨p, hp15, hpe⟩ := place_nat HP.out (i := k) (by rw [HX.out]; exact hlt2)
          have hk5 : (k : Int) < 5 := by omega
          have hcell := hst.mat.cell hlt (c := k) (by omega)
          have hfr := hst.mat.frozen (j * 5 + k)
          have hnew := hst.set hlt (c := k) (by omega) (V ps k j)
          rw [fill_step, show V ps k j = powI (((j : Int) + 1) * (p : Int)) from by unfold V; rw [hpe]] at hnew
          have HN := Lib.hid hnew.drew
          clear hnew hc hst
          have m1 : ((j : Int) + 1) * (p : Int) ≤ 4 * 15 := Int.mul_le_mul (by omega) (by omega) (by omega) (by omega)
          have m2 : 0 ≤ ((j : Int) + 1) * (p : Int) := Int.mul_nonneg (by omega) (by omega)
          have f1 : IntKind.i64.wrap ((j : Int) + 1) = (j : Int) + 1 := IntWalk.i64_in _ (by omega)
          have f2 : IntKind.i64.wrap (((j : Int) + 1) * (p : Int)) = ((j : Int) + 1) * (p : Int) := IntWalk.i64_in _ (by omega)
          go_wp2
          go_still_tail 9, (by kernel_rfl)
          still_call ((power_any _ _ m2).mono fun _ _ h => ⟨h.1, h.2.symm⟩)
          repeat still_step
          refine wpStill_nil ?_
          go_wp2
          go_roundw
          case rel => exact ⟨k + 1, by omega, by go_num, HN.out⟩
          case measure => simp [intOf]; omega
        · obtain rfl : k = n := by omega
          have hn5 : (k : Int) < 5 := by omega
          have hcell := hst.mat.cell hlt (c := k) (by omega)
          have hfr := hst.mat.frozen (j * 5 + k)
          have hwc := hst.want.cell hlt
          have hnew := hst.set hlt (c := k) (by omega) (wv s0 s1 s2 s3 j)
          rw [← HX.out, fill_next, HX.out] at hnew
          have HN := Lib.hid hnew.drew
          clear hnew hst
          generalize wv s0 s1 s2 s3 j = wj at *
          go_wp2
          go_still_tail 7, (by kernel_rfl)
          go_wp2
          go_roundw
          case rel => exact ⟨j + 1, by omega, by go_num, HN.out⟩
          case measure => simp [intOf]; omega
    · have hj4 : j = 4 := by omega
      have hjge : ¬ ((j : Int) < 4) := by omega
      have hst := hst.congr (M' := elims n (vand ps (wv s0 s1 s2 s3)) 0) (fun j' hj' c hc => by rw [hj4]; exact fill_all j' hj' c hc)
      clear hSt hn4 hj4
      go_wp2
      go_loopw [52] (fun i wr => ∃ k : Nat, k ≤ n ∧ i = .int .i64 k ∧ St w wr s0 s1 s2 s3 (elims n (vand ps (wv s0 s1 s2 s3)) k)) (fun i _ => n - (intOf i).toNat)
      case atStart => exact ⟨0, by omega, rfl, hst⟩
      case round =>
        obtain ⟨k, hk, rfl, hst⟩ := hrel
        by_cases hlt : k < n
        · have hn4 : n ≤ 4 := by rw [← HX.out]; exact HP.out.len
          obtain ⟨hsym, p1, p2, p3, p4⟩ := elims_pivot HP.out HWS.out (k := k) (by rw [HX.out]; exact hlt)
          have hE : elims n (vand ps (wv s0 s1 s2 s3)) (k + 1) = clr (scl (swp (elims n (vand ps (wv s0 s1 s2 s3)) k) k (piv (elims n (vand ps (wv s0 s1 s2 s3)) k) k)) n k) n k := rfl
          rw [HX.out] at hsym p1 p2 p3 p4
          have HE := Lib.hid hE
          clear hE
          generalize piv (elims n (vand ps (wv s0 s1 s2 s3)) k) k = p at *
          generalize elims n (vand ps (wv s0 s1 s2 s3)) k = M at *
          have hk5 : (k : Int) < 5 := by omega
          have hk4 : (k : Int) < 4 := by omega
          have HZ := Lib.hid p4
          have HNE := Lib.hid p3
          have HSY := Lib.hid hsym
          clear p3 p4 hsym
          go_wp2
          go_loop [12] (fun i => ∃ q : Nat, k ≤ q ∧ q ≤ p ∧ i = .int .i64 q) (fun i => 4 - (intOf i).toNat)
          case atStart => exact ⟨k, by omega, by omega, rfl⟩
          case round =>
            obtain ⟨q, hq1, hq2, rfl⟩ := hrel
            by_cases hlq : q < p
            · have hq4 : (q : Int) < 4 := by omega
              have hcell := hst.mat.cell (j := q) (c := k) (by omega) (by omega)
              rw [HZ.out q hq1 hlq] at hcell
              have HST := Lib.hid hst
              clear hst
              go_wp2
              go_round
              case rel => exact ⟨q + 1, by omega, by omega, by go_num⟩
              case measure => simp [intOf]; omega
            · obtain rfl : q = p := by omega
              have hq4 : (q : Int) < 4 := by omega
              have hcell := hst.mat.cell (j := q) (c := k) (by omega) (by omega)
              have hne : (M q k == 0) = false := by rw [beq_eq_false_iff_ne]; exact HNE.out
              have hqB : q < 4 := by omega
              have hkB : k < 4 := by omega
              have aq0 := hst.mat.cell (j := q) (c := 0) (by omega) (by omega)
              have aq1 := hst.mat.cell (j := q) (c := 1) (by omega) (by omega)
              have aq2 := hst.mat.cell (j := q) (c := 2) (by omega) (by omega)
              have aq3 := hst.mat.cell (j := q) (c := 3) (by omega) (by omega)
              have aq4 := hst.mat.cell (j := q) (c := 4) (by omega) (by omega)
              have ak0 := hst.mat.cell (j := k) (c := 0) (by omega) (by omega)
              have ak1 := hst.mat.cell (j := k) (c := 1) (by omega) (by omega)
              have ak2 := hst.mat.cell (j := k) (c := 2) (by omega) (by omega)
              have ak3 := hst.mat.cell (j := k) (c := 3) (by omega) (by omega)
              have ak4 := hst.mat.cell (j := k) (c := 4) (by omega) (by omega)
              simp only [Nat.add_zero] at aq0 ak0
              have fr := fun o => hst.mat.frozen o
              have e1 := hst.row (N := M) (i := q) (j := k) hkB
              simp only [rowL, World.setCells, Nat.add_assoc, Nat.reduceAdd] at e1
              have e2 := e1.row (N := M) (i := k) (j := q) hqB
              simp only [rowL, World.setCells, Nat.add_assoc, Nat.reduceAdd] at e2
              have d0 := e1.mat.cell (j := q) (c := 0) hqB (by omega)
              have d1 := e1.mat.cell (j := q) (c := 1) hqB (by omega)
              have d2 := e1.mat.cell (j := q) (c := 2) hqB (by omega)
              have d3 := e1.mat.cell (j := q) (c := 3) hqB (by omega)
              have d4 := e1.mat.cell (j := q) (c := 4) hqB (by omega)
              simp only [ite_self, Nat.add_zero] at d0 d1 d2 d3 d4
              have HST := Lib.hid e2
              clear hst e1 e2
              go_wp2
              go_region
              have hst := HST.out.drew.congr (M' := swp M k q) (fun j _ c hc => by
                unfold swp
                by_cases e1 : j = q
                · by_cases e2 : j = k
                  · subst e1; subst e2; simp [hc]
                  · simp [hc, e1]; intro e3; exact absurd (e1.trans e3) e2
                · by_cases e2 : j = k
                  · simp [hc, e1, e2]; intro e3; exact absurd (e2.trans e3) e1
                  · simp [e1, e2])
              clear HST aq0 aq1 aq2 aq3 aq4 ak0 ak1 ak2 ak3 ak4 d0 d1 d2 d3 d4 fr hcell hne
              generalize World.drew _ = w2 at hst ⊢
              have hsy1 : SymM (swp M k q) := fun j c => by unfold swp; split; exact HSY.out _ _; split <;> exact HSY.out _ _
              have hne1 : swp M k q k k ≠ 0 := by unfold swp; rw [if_pos rfl]; exact HNE.out
              clear HSY HNE HZ
              generalize swp M k q = M1 at *
              have hs1 := hsy1 k k
              obtain ⟨u0, u1⟩ := hs1
              have u2 : 1 ≤ M1 k k := by omega
              have hcell := hst.mat.cell (j := k) (c := k) hkB (by omega)
              have HST := Lib.hid hst
              clear hst
              go_wp2_with (go_at_call 118; refine (inverse_any _ _ u2 u1).mono ?_; rintro e w' ⟨rfl, rfl⟩)
              have hst := HST.out
              clear HST hcell
              rw [← scl_zero M1 k (invI (M1 k k))] at hst
              have hinv := invI_bd u2 u1
              have hS2 : SymM (scl M1 n k) := fun j c => by
                unfold scl; split
                · exact (hsy1 _ _).mul ((hsy1 _ _).inv hne1)
                · exact hsy1 _ _
              have HS2 := Lib.hid hS2
              have HSC := Lib.hid (scl_all (M := M1) (n := n) (k := k))
              have HS1 := Lib.hid hsy1
              clear hS2 hsy1 hne1 u0
              generalize invI (M1 k k) = s at *
              go_loopw [82] (fun i wr => ∃ c : Nat, c ≤ n + 1 ∧ i = .int .i64 c ∧ St w wr s0 s1 s2 s3 (sclTo M1 k s c)) (fun i _ => n + 1 - (intOf i).toNat)
              case atStart => exact ⟨0, by omega, rfl, hst⟩
              case round =>
                obtain ⟨c, hc, rfl, hst⟩ := hrel
                by_cases hlc : c < n + 1
                · have hc5 : (c : Int) < 5 := by omega
                  have hcI : (c : Int) < (n : Int) + 1 := by omega
                  have hcell := hst.mat.cell (j := k) (c := c) hkB (by omega)
                  rw [scl_at] at hcell
                  have hfr := hst.mat.frozen (k * 5 + c)
                  obtain ⟨x0, x1⟩ := HS1.out k c
                  have hnew := hst.set hkB (c := c) (by omega) (mulI (M1 k c) s)
                  rw [scl_step] at hnew
                  have HN := Lib.hid hnew.drew
                  clear hnew hst
                  go_wp2
                  go_still_tail 11, (by kernel_rfl)
                  still_call ((product_any _ _ _ x0 x1 (by omega) hinv.2).mono fun _ _ h => ⟨h.1, h.2.symm⟩)
                  repeat still_step
                  refine wpStill_nil ?_
                  go_wp2
                  go_roundw
                  case rel => exact ⟨c + 1, by omega, by go_num, HN.out⟩
                  case measure => simp [intOf]; omega
                · have hcE : c = n + 1 := by omega
                  have hcge : ¬ ((c : Int) < (n : Int) + 1) := by omega
                  rw [hcE] at hst
                  clear hcE
                  rw [HSC.out, ← clr_zero (scl M1 n k) n k] at hst
                  clear HSC HS1 u1 u2 hinv
                  generalize scl M1 n k = M2 at *
                  go_wp2
                  go_loopw [97] (fun i wr => ∃ j : Nat, j ≤ 4 ∧ i = .int .i64 j ∧ St w wr s0 s1 s2 s3 (clrTo M2 n k j 0)) (fun i _ => 4 - (intOf i).toNat)
                  case atStart => exact ⟨0, by omega, rfl, hst⟩
                  case round =>
                    obtain ⟨j, hj, rfl, hst⟩ := hrel
                    by_cases hlj : j < 4
                    · have hjd : decide ((j : Int) < 4) = true := by simp; omega
                      have hjI : (j : Int) < 4 := by omega
                      have hcellf := hst.mat.cell (j := j) (c := k) hlj (by omega)
                      rw [clr_first] at hcellf
                      have HST := Lib.hid hst
                      clear hst
                      by_cases hjk : j = k
                      · subst hjk
                        have hne2 : ((j : Int) != (j : Int)) = false := by simp
                        have h0n : decide ((0 : Int) ≤ (n : Int)) = true := by simp
                        go_wp2
                        go_loop [17] (fun i => i = .int .i64 0) (fun _ => 0)
                        case atStart => rfl
                        case round =>
                          subst hrel
                          go_wp2
                          go_roundw
                          case rel => exact ⟨j + 1, by omega, by go_num, by rw [← clr_skip]; exact HST.out⟩
                          case measure => simp [intOf]; omega
                      · have hne2 : ((j : Int) != (k : Int)) = true := by rw [bne_iff_ne]; omega
                        have hst := HST.out
                        clear HST
                        go_wp2
                        go_loopw [17] (fun i wr => ∃ c : Nat, c ≤ n + 1 ∧ i = .int .i64 c ∧ St w wr s0 s1 s2 s3 (clrTo M2 n k j c)) (fun i _ => n + 1 - (intOf i).toNat)
                        case atStart => exact ⟨0, by omega, rfl, hst⟩
                        case round =>
                          obtain ⟨c, hc, rfl, hst⟩ := hrel
                          by_cases hlc : c < n + 1
                          · have hc5 : (c : Int) < 5 := by omega
                            have hcI : decide ((c : Int) ≤ (n : Int)) = true := by simp; omega
                            have hc1 := hst.mat.cell (j := j) (c := c) hlj (by omega)
                            rw [clr_at] at hc1
                            have hc2 := hst.mat.cell (j := k) (c := c) hkB (by omega)
                            rw [clr_row] at hc2
                            have hfr := hst.mat.frozen (j * 5 + c)
                            obtain ⟨x0, x1⟩ := HS2.out j k
                            obtain ⟨y0, y1⟩ := HS2.out k c
                            obtain ⟨z0, z1⟩ := HS2.out j c
                            have hnew := hst.set hlj (c := c) (by omega) (xr (M2 j c) (mulI (M2 j k) (M2 k c)))
                            rw [clr_step hjk (by omega)] at hnew
                            have HN := Lib.hid hnew.drew
                            clear hnew hst
                            go_wp2
                            go_still_tail 15, (by kernel_rfl)
                            still_call ((product_any _ _ _ x0 x1 y0 y1).mono fun _ _ h => ⟨h.1, h.2.symm⟩)
                            repeat still_step
                            refine wpStill_nil ?_
                            go_wp2
                            go_roundw
                            case rel => exact ⟨c + 1, by omega, by go_num, HN.out⟩
                            case measure => simp [intOf]; omega
                          · obtain rfl : c = n + 1 := by omega
                            have hcI : decide (((n + 1 : Nat) : Int) ≤ (n : Int)) = false := by simp; omega
                            have hcI2 : ¬ ((n : Int) + 1 ≤ (n : Int)) := by omega
                            rw [clr_next hjk] at hst
                            go_wp2
                            go_roundw
                            case rel => exact ⟨j + 1, by omega, by go_num, hst⟩
                            case measure => simp [intOf]; omega
                    · obtain rfl : j = 4 := by omega
                      have hst := hst.congr (M' := elims n (vand ps (wv s0 s1 s2 s3)) (k + 1)) (fun j hj c hc => by rw [HE.out]; exact clr_all j hj c hc)
                      clear HE
                      go_wp2
                      go_roundw
                      case rel => exact ⟨k + 1, by omega, by go_num, hst⟩
                      case measure => simp [intOf]; omega
        · obtain rfl : k = n := by omega
          have hn4 : k ≤ 4 := by rw [← HX.out]; exact HP.out.len
          have HF := Lib.hid (show ∀ j, elims k (vand ps (wv s0 s1 s2 s3)) k j k = fin ps (wv s0 s1 s2 s3) j from fun j => by unfold fin; rw [HX.out])
          have HOK := Lib.hid (show (∀ j, j < 4 → k ≤ j → fin ps (wv s0 s1 s2 s3) j = 0) → solOk ps (wv s0 s1 s2 s3) = true from fun h => solOk_iff.2 fun j hj hl => h j hj (by rw [← HX.out]; exact hl))
          have HNO := Lib.hid (show ∀ j, j < 4 → k ≤ j → fin ps (wv s0 s1 s2 s3) j ≠ 0 → solOk ps (wv s0 s1 s2 s3) = false from fun j hj hl hne => by
            cases e : solOk ps (wv s0 s1 s2 s3)
            · rfl
            · exact absurd (solOk_iff.1 e j hj (by rw [HX.out]; exact hl)) hne)
          have HR1 := Lib.hid (show solOk ps (wv s0 s1 s2 s3) = true → solR ps (wv s0 s1 s2 s3) = (List.range k).map (fin ps (wv s0 s1 s2 s3)) from fun e => by unfold solR sol; rw [if_pos e, HX.out])
          have HR0 := Lib.hid (show solOk ps (wv s0 s1 s2 s3) = false → solR ps (wv s0 s1 s2 s3) = [] from fun e => by unfold solR; rw [e]; rfl)
          generalize fin ps (wv s0 s1 s2 s3) = F at *
          generalize elims k (vand ps (wv s0 s1 s2 s3)) k = ME at *
          go_wp2
          have hown0 : (wr.alloc (.cells #[] 3)).ownsRow wr.heap.size 3 1 (.slice (some ⟨wr.heap.size, 0, none⟩) 0 0) (min 0 k) (ints ((List.range (min 0 k)).map F)) := by
            have := World.ownsRow_lit (base := wr.heap.size) (e := 3) (size := 1) wr #[] 0 (Nat.le_refl _) (by simp) rfl
            simpa using this
          have hb0 : Below wr.heap.size wr (wr.alloc (.cells #[] 3)) := (Below.refl _ _).alloc (Nat.le_refl _) _
          have hBw := hst.mat.lt
          have hbl := hst.bel
          have hm0 := fun j (hj : j < 4) => hst.mat.cell (j := j) (c := k) hj (by omega)
          have HM := Lib.hid hm0
          clear hm0 hst
          generalize wr.alloc (.cells #[] 3) = w4 at *
          obtain ⟨w3, rfl⟩ : ∃ w3, w3 = wr := ⟨_, rfl⟩
          go_loopw [18, 133] (fun o i wr => ∃ j : Nat, j ≤ 4 ∧ i = .int .i64 j ∧ wr.ownsRow w3.heap.size 3 1 o (min j k) (ints ((List.range (min j k)).map F)) ∧ Hid (∀ q, q < j → k ≤ q → F q = 0) ∧ Below w3.heap.size w3 wr) (fun _ i _ => 4 - (intOf i).toNat)
          case atStart => exact ⟨0, by omega, rfl, hown0, fun q hq => absurd hq (by omega), hb0⟩
          case round =>
            obtain ⟨j, hj, rfl, hown, HQ, hbel⟩ := hrel
            by_cases hlj : j < 4
            · have hjI : (j : Int) < 4 := by omega
              have hk5 : (k : Int) < 5 := by omega
              have hcell := HM.out j hlj
              rw [HF.out] at hcell
              rw [← hbel.cell (p := ⟨w.heap.size + 1, j * 5 + k, none⟩) hBw.2] at hcell
              have hsz := hbel.size
              by_cases hjk : j < k
              · have hjkI : (j : Int) < (k : Int) := by omega
                have hm1 : min j k = j := by omega
                have hm2 : min (j + 1) k = j + 1 := by omega
                rw [hm1] at hown
                have HM2 := Lib.hid hm2
                clear hm1 hm2
                go_wp2_with (at_builtin; refine wpList_push rfl (.tmp 139) (.tmp 145) 24 rfl Try.underlying24 Try.infoInt w3.heap.size _ j ((List.range j).map F) rfl hown rfl (by omega) hsz ?_; intro v' w5 hown1 hgrow1)
                have hb1 := below_push hbel hown hgrow1 (Nat.le_refl _) hsz
                have e : (List.range j).map F ++ [F j] = (List.range (j + 1)).map F := by rw [List.range_succ]; simp
                rw [e] at hown1
                clear e hown hgrow1 hbel hcell
                go_wp2
                go_roundw
                case rel => exact ⟨j + 1, by omega, by go_num, by rw [HM2.out]; exact hown1, fun q hq hkq => absurd hkq (by omega), hb1⟩
                case measure => simp [intOf]; omega
              · have hjkI : ¬ (j : Int) < (k : Int) := by omega
                by_cases hz : F j = 0
                · rw [hz] at hcell
                  have hm1 : min j k = k := by omega
                  have hm2 : min (j + 1) k = k := by omega
                  rw [hm1] at hown
                  have HM2 := Lib.hid hm2
                  have HZ := Lib.hid hz
                  clear hm1 hm2 hz
                  go_wp2
                  go_roundw
                  case rel => exact ⟨j + 1, by omega, by go_num, by rw [HM2.out]; exact hown, fun q hq hkq => by rcases Nat.lt_or_ge q j with h | h; · exact HQ.out q h hkq
                                                                                                                 · rw [show q = j from by omega]; exact HZ.out, hbel⟩
                  case measure => simp [intOf]; omega
                · have hne : (F j != 0) = true := by rw [bne_iff_ne]; exact hz
                  have hok := HNO.out j hlj (by omega) hz
                  have hR := HR0.out hok
                  have HK := Lib.hid hok
                  have HR := Lib.hid hR
                  clear hok hR hz
                  go_wp2
                  go_ret2
                  exact ⟨_, by rw [HK.out]; rfl, by rw [HR.out]; exact own_nil, hbl.trans (hbel.mono hbl.size)⟩
            · have hj4 : j = 4 := by omega
              have hjge : ¬ ((j : Int) < 4) := by omega
              have hok := HOK.out fun q hq hkq => HQ.out q (by omega) hkq
              have hR := HR1.out hok
              have HK := Lib.hid hok
              have HR := Lib.hid hR
              have hmin : min j k = k := by omega
              rw [hmin] at hown
              clear hok hR hj4 hmin
              go_wp2
              go_ret2
              exact ⟨_, by rw [HK.out]; rfl, by rw [HR.out]; exact (own_of_row hown).mono hbl.size, hbl.trans (hbel.mono hbl.size)⟩
end Go.Proofs.Ytlemielobmbadaa
