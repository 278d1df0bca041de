/- Walks of the laws' own functions on slices of integers: copy, compare, mark, look for marks. -/
import Derived.Test.YtphhenlokbodnaaInt
namespace Go.Proofs.Ytphhenlokbodnaa
open Go.RowKit

/-- What came in: nil, or a row of cells, the first 'len' of which are the elements. -/
def Raw (w : World) (a : Option Addr) (len cap : Nat) (zs : List Int) : Prop :=
  (a = none ∧ len = 0 ∧ cap = 0 ∧ zs = []) ∨
  ∃ x, a = some x ∧ len ≤ cap ∧ cap ≤ maxLen ∧ zs.length = cap ∧ (∀ i, i < zs.length → w.cell? (x.add i) = some (.int .i64 (zs.getD i 0))) ∧ ∀ n ∈ zs, (Lit.int .i64 n).wf = true

theorem Raw.at {w : World} {a : Option Addr} {len cap : Nat} {zs : List Int} (h : Raw w a len cap zs) (hl : 0 < len) :
    ∃ b off, a = some ⟨b, off, none⟩ ∧ ∀ j, j < len → w.cell? ⟨b, off + j, none⟩ = some (.int .i64 ((zs[j]?.getD 0))) := by
  rcases h with ⟨rfl, rfl, rfl, rfl⟩ | ⟨x, rfl, h1, h2, h3, h4, h5⟩
  · omega
  · obtain ⟨b, off, spot⟩ := x
    have hc := h4 0 (by omega)
    have hspot : spot = none := by simpa [Addr.add] using World.cell?_spot hc
    subst hspot
    refine ⟨b, off, rfl, fun j hj => ?_⟩
    have := h4 j (by omega)
    rw [show (zs[j]?.getD 0) = zs.getD j 0 from by simp [List.getD], ← this]
    by_cases h0 : j = 0 <;> simp [Addr.add, h0]
theorem Raw.le {w : World} {a : Option Addr} {len cap : Nat} {zs : List Int} (h : Raw w a len cap zs) : len ≤ zs.length ∧ len ≤ maxLen := by
  rcases h with ⟨rfl, rfl, rfl, rfl⟩ | ⟨x, rfl, h1, h2, h3, h4, h5⟩
  · simp
  · omega

theorem set_rep (zs : List Int) (n k : Nat) (hn : n ≤ zs.length) (hk : k < n) :
    (zs.take k ++ List.replicate (n - k) 0).set k ((zs[k]?.getD 0)) = zs.take (k + 1) ++ List.replicate (n - (k + 1)) 0 := by
  have hl : (zs.take k).length = k := by simp; omega
  rw [List.set_append_right _ _ (by omega), hl, Nat.sub_self]
  obtain ⟨m, hm⟩ : ∃ m, n - k = m + 1 := ⟨n - k - 1, by omega⟩
  rw [hm, show n - (k + 1) = m from by omega, List.replicate_succ, List.set_cons_zero, take_succ' _ _ (by omega)]
  simp [List.getD]

set_option maxHeartbeats 800000 in
theorem eqIntS_any (va vb : Value) (xs ys : List Int) (w : World) (ha : Rd w va xs) (hb : Rd w vb ys) :
    Calls Try.prog 17 #[va, vb] w fun e w' => e = .returned (.bool (eqL xs ys)) ∧ Dr w w' := by
  obtain ⟨a, capa, n, HX, rfl, _, hla, ha⟩ := ha.opn
  obtain ⟨b, capb, m, HY, rfl, _, hlb, hb⟩ := hb.opn
  by_cases hn : n = m
  · subst hn
    have hne : ((n : Int) != (n : Int)) = false := by simp
    have HR := Lib.hid (show xs = ys → eqL xs ys = true from eqL_of)
    have HN := Lib.hid (show xs ≠ ys → eqL xs ys = false from fun h => by simp [eqL, h])
    generalize eqL xs ys = r at *
    go_enter Try.func17, Try.ntmps17
    go_wp2
    go_loopw [5] (fun i wr => ∃ k : Nat, k ≤ n ∧ i = .int .i64 k ∧ Hid (xs.take k = ys.take k) ∧ Dr w wr) (fun i _ => n - (intOf i).toNat)
    case atStart => exact ⟨0, by omega, rfl, by simp [Hid], Dr.refl _⟩
    case round =>
      obtain ⟨k, hk, rfl, HT, m, rfl⟩ := hrel
      by_cases hlt : k < n
      · obtain ⟨b1, o1, rfl, hs1, hc1⟩ := ha (by omega)
        obtain ⟨b2, o2, rfl, hs2, hc2⟩ := hb (by omega)
        have c1 := hc1 k hlt
        have c2 := hc2 k hlt
        clear hc1 hc2
        by_cases he : (xs[k]?.getD 0) = (ys[k]?.getD 0)
        · have hne2 : ((xs[k]?.getD 0) != (ys[k]?.getD 0)) = false := by simpa using he
          have HE := Lib.hid he
          clear he
          go_wp2
          go_quiet (fail)
          go_wp2
          go_roundw
          case rel => exact ⟨k + 1, by omega, by go_num, take_eq_step (by rw [HX.out]; exact hlt) (by rw [HY.out]; exact hlt) HT.out HE.out, ⟨_, rfl⟩⟩
          case measure => simp [intOf]; omega
        · have hne2 : ((xs[k]?.getD 0) != (ys[k]?.getD 0)) = true := by simpa using he
          have HE := Lib.hid he
          clear he
          go_wp2
          go_quiet (fail)
          go_wp2
          go_ret
          exact ⟨by rw [HN.out (fun h => HE.out (by rw [h]))]; rfl, Dr.drewN ⟨_, rfl⟩ _⟩
      · obtain rfl : k = n := by omega
        go_wp2
        go_ret
        have hh := HT.out
        rw [← HX.out, List.take_length, HX.out, ← HY.out, List.take_length] at hh
        exact ⟨by rw [HR.out hh]; rfl, ⟨_, rfl⟩⟩
  · have hne : ((n : Int) != (m : Int)) = true := by rw [bne_iff_ne]; omega
    have he : eqL xs ys = false := by simp only [eqL, decide_eq_false_iff_not]; exact fun h => hn (by rw [← HX.out, ← HY.out, h])
    have HE := Lib.hid he
    clear he
    go_enter Try.func17, Try.ntmps17
    go_wp2
    go_ret
    exact ⟨by rw [HE.out]; rfl, Dr.refl _⟩

theorem mark_step (xs : List Int) (q : Int) (k : Nat) (hk : k < xs.length) : (cnt q k ++ xs.drop k).set k (q + k) = cnt q (k + 1) ++ xs.drop (k + 1) := by
  have hl : (cnt q k).length = k := cnt_len _ _
  rw [List.set_append_right _ _ (by omega), hl, Nat.sub_self]
  have : xs.drop k = xs[k] :: xs.drop (k + 1) := List.drop_eq_getElem_cons hk
  rw [this, List.set_cons_zero]
  simp [cnt, List.range_succ]

set_option maxHeartbeats 800000 in
theorem markIntS_any (v : Value) (xs : List Int) (q : Int) (base : Nat) (w : World) (h : Own w base v xs) (hq : 0 ≤ q) (hq2 : q + xs.length ≤ 4611686018427387904) :
    Calls Try.prog 20 #[v, .int .i64 q] w fun e w' => e = .returned (.int .i64 (q + xs.length)) ∧ Own w' base v (cnt q xs.length) ∧ w.grownBy w' v.ownBlock := by
  obtain ⟨a, cap, n, HX, hv, _, hla, ha⟩ := h.rd.opn
  have hx : xs.length = n := HX.out
  rw [hx] at hq2
  rw [hx]
  have hown : Own w base v (cnt q 0 ++ xs.drop 0) := by simpa [cnt] using h
  have hgr : w.grownBy w v.ownBlock := World.grownBy.refl _ _
  subst hv
  clear hx h
  go_enter Try.func20, Try.ntmps20
  go_wp2
  go_loopw [1, 5] (fun x i wr => ∃ k : Nat, k ≤ n ∧ i = .int .i64 k ∧ x = .int .i64 (q + k) ∧ Own wr base (.slice a n cap) (cnt q k ++ xs.drop k) ∧ w.grownBy wr (Value.slice a n cap).ownBlock) (fun _ i _ => n - (intOf i).toNat)
  case atStart => exact ⟨0, by omega, rfl, by simp, hown, hgr⟩
  case round =>
    obtain ⟨k, hk, rfl, rfl, hown, hgr⟩ := hrel
    by_cases hlt : k < n
    · obtain ⟨b, off, rfl, _, hc⟩ := ha (by omega)
      have hlen : (cnt q k ++ xs.drop k).length = n := by have := HX.out; simp [cnt_len]; omega
      have hcell := (hown.cellAt rfl).2 k (by omega)
      have hfr := hown.frozenAt rfl (off + k)
      have hst := hown.stored rfl k (by omega) (q + k)
      rw [mark_step xs q k (by rw [HX.out]; exact hlt)] at hst
      have HS := Lib.hid hst
      have HG := Lib.hid hgr
      clear hst hown hlen hgr
      go_wp2
      go_roundw
      case rel => exact ⟨k + 1, by omega, by go_num, int_eq (by omega), HS.out.1, HG.out.trans' HS.out.2⟩
      case measure => simp [intOf]; omega
    · obtain rfl : k = n := by omega
      go_wp2
      go_ret
      exact ⟨rfl, by have e := HX.out; rw [List.drop_of_length_le (by omega), List.append_nil] at hown; exact hown, hgr⟩

theorem cnt_step (xs : List Int) (q : Int) (k : Nat) (hk : k < xs.length) (h : xs.take k = cnt q k) (e : xs[k]?.getD 0 = q + k) : xs.take (k + 1) = cnt q (k + 1) := by
  rw [take_succ' _ _ hk, h, e]
  simp [cnt, List.range_succ]

set_option maxHeartbeats 800000 in
/-- Marks that stand: the next number. -/
theorem heldIntS_yes (v : Value) (q : Int) (n : Nat) (w : World) (h : Rd w v (cnt q n)) (hq : 0 ≤ q) (hq2 : q + n ≤ 4611686018427387904) :
    Calls Try.prog 21 #[v, .int .i64 q] w fun e w' => e = .returned (.int .i64 (q + n)) ∧ Dr w w' := by
  obtain ⟨a, cap, n', HX, hv, _, hla, ha⟩ := h.opn
  have hx : n = n' := by rw [← HX.out, cnt_len]
  subst hx
  subst hv
  go_enter Try.func21, Try.ntmps21
  go_wp2
  go_loopw [1, 5] (fun x i wr => ∃ k : Nat, k ≤ n ∧ i = .int .i64 k ∧ x = .int .i64 (q + k) ∧ Dr w wr) (fun _ i _ => n - (intOf i).toNat)
  case atStart => exact ⟨0, by omega, rfl, by simp, Dr.refl _⟩
  case round =>
    obtain ⟨k, hk, rfl, rfl, m, rfl⟩ := hrel
    by_cases hlt : k < n
    · obtain ⟨b, off, rfl, _, hc⟩ := ha (by omega)
      have hcell := hc k hlt
      have hcc := cnt_getD q n k hlt
      rw [hcc] at hcell
      clear hc hcc
      have hne : ((q + k : Int) != (q + k : Int)) = false := by simp
      go_wp2
      go_roundw
      case rel => exact ⟨k + 1, by omega, by go_num, int_eq (by omega), ⟨_, rfl⟩⟩
      case measure => simp [intOf]; omega
    · obtain rfl : k = n := by omega
      go_wp2
      go_ret
      exact ⟨rfl, ⟨_, rfl⟩⟩

theorem Raw.below {B : Nat} {w w' : World} {a : Option Addr} {len cap : Nat} {zs : List Int} (h : Raw w a len cap zs) (hb : Below B w w') (hB : w.heap.size ≤ B) : Raw w' a len cap zs := by
  rcases h with h | ⟨x, rfl, h1, h2, h3, h4, h5⟩
  · exact .inl h
  · refine .inr ⟨x, rfl, h1, h2, h3, fun i hi => ?_, h5⟩
    have hc := h4 i hi
    have hlt := World.block_lt_of_cell? w _ hc
    rw [hb.cell (p := x.add i) (by omega)]
    exact hc
theorem Below.of_dr {B : Nat} {a w w' : World} (h : Below B a w) (hd : Dr w w') : Below B a w' := hd.below h
theorem Rd.dr {w w' : World} {v : Value} {xs : List Int} (h : Rd w v xs) (hd : Dr w w') : Rd w' v xs := by
  obtain ⟨n, rfl⟩ := hd; exact h
theorem Own.dr {w w' : World} {base : Nat} {v : Value} {xs : List Int} (h : Own w base v xs) (hd : Dr w w') : Own w' base v xs := by
  obtain ⟨n, rfl⟩ := hd; exact h
theorem Dr.size {w w' : World} (hd : Dr w w') : w'.heap.size = w.heap.size := by
  obtain ⟨n, rfl⟩ := hd; rfl
theorem Own.grown {w w' : World} {base : Nat} {v : Value} {xs : List Int} {row : Option Nat} (h : Own w base v xs) (hg : w.grownBy w' row) (hne : ∀ k, v.ownBlock = some k → row ≠ some k) : Own w' base v xs :=
  h.kept fun k hk => hg.block k (h.lt k hk).2 fun e => hne k hk e.symm
/-- Two slices of which one lies below, the other from there on, are apart. -/
theorem Own.apart {w w' : World} {B base base' : Nat} {v v' : Value} {xs xs' : List Int} (h : Own w base v xs) (h' : Own w' base' v' xs') (hB : w.heap.size ≤ B) (hB' : B ≤ base') : ∀ k, v.ownBlock = some k → v'.ownBlock ≠ some k := by
  intro k hk e
  have := (h.lt k hk).2
  have := (h'.lt k e).1
  omega
end Go.Proofs.Ytphhenlokbodnaa
