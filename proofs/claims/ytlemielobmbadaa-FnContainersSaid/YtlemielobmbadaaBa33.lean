/- Joined: XCgpW XCur XFieldL. -/
import Derived.Test.YtlemielobmbadaaBa26
import Derived.Test.YtlemielobmbadaaRdcW
import Derived.Test.YtlemielobmbadaaInt
import Derived.Test.YtlemielobmbadaaBa05
import Derived.Test.YtlemielobmbadaaBa08
namespace Go.Proofs.Ytlemielobmbadaa
open Go.RowKit
set_option maxRecDepth 100000

def GapP (w : World) (e : Ending) (w' : World) : Prop := ∃ (a : Option Addr) (c : Nat), e = .returned (.tuple #[.slice a 0 c, .bool true]) ∧ Below w.heap.size w w'
set_option maxHeartbeats 3200000 in
theorem gaps_any (v : Value) (fs : List Frm) (w : World) (h : Rdt w (frD fs) v) (hok : frsOk fs = true) (hc : ∀ k, k < fs.length → (fs[k]?.getD nilF).c = (k : Int)) :
    Calls Try.prog 53 #[v] w (GapP w) := by
  have HF := Lib.hid (show Calls Try.prog 104 #[v] w (fun e w' => e = .returned (.bool true) ∧ Below w.heap.size w w') from by
    have := areFrames_any v fs w h
    unfold FrsP at this
    rw [hok] at this; exact this)
  have h12 := (frsOk_parts hok).1
  obtain ⟨a, n, cap, rfl, HN, _, hn, ha⟩ := frD_opn h
  rw [HN.out] at h12
  have HA := Lib.hid ha
  have HC := Lib.hid hc
  clear ha h hok hc
  go_enter Try.func53, Try.ntmps53
  go_wp2_with fail
  refine HF.out.mono ?_
  rintro e w2 ⟨rfl, b2⟩
  have HB := Lib.hid (b2.alloc b2.size (.cells #[] 3))
  clear b2
  go_wp2
  generalize w2.alloc (.cells #[] 3) = w3 at *
  go_loopw [4, 5] (fun ov iv wr => ∃ (k : Nat) (ao : Option Addr) (co : Nat), k ≤ 12 ∧ ov = .slice ao 0 co ∧ iv = .int .i64 ((k : Int) + 1) ∧ Hid (Below w.heap.size w wr)) (fun _ iv _ => 100 - (intOf iv).toNat)
  case atStart => exact ⟨0, _, _, by omega, rfl, rfl, HB.out⟩
  case round =>
    clear HB
    obtain ⟨k, ao, co, hk, rfl, rfl, HB⟩ := hrel
    by_cases hlt : k + 1 < n
    · have hltI : (k : Int) + 1 < (n : Int) := by omega
      have hltb : decide ((k : Int) + 1 < (n : Int)) = true := decide_eq_true hltI
      obtain ⟨b, off, rfl, hbs, hcs⟩ := HA.out (by omega)
      obtain ⟨u1, p1, -, -, -⟩ := hcs k (by omega)
      obtain ⟨u2, p2, -, -, -⟩ := hcs (k + 1) (by omega)
      rw [HC.out k (by rw [HN.out]; omega)] at p1
      rw [HC.out (k + 1) (by rw [HN.out]; omega)] at p2
      have d1 := (HB.out.cell (p := ⟨b, off + k * 3, none⟩) hbs).trans p1
      have d2 := (HB.out.cell (p := ⟨b, off + (k + 1) * 3, none⟩) hbs).trans p2
      have e1 : ((k : Int) + 1).tmod 256 = (k : Int) + 1 := by rw [Int.tmod_eq_emod_of_nonneg (by omega)]; omega
      have HB2 := Lib.hid HB.out.drew
      clear hcs p1 p2
      go_wp2
      go_quiet (fail)
      go_wp2
      go_roundw
      case rel => exact ⟨k + 1, _, _, by omega, rfl, by go_num, ((Dr.refl wr).drewN _).below HB.out⟩
      case measure => simp only [intOf]; omega
    · have hltI : ¬ (k : Int) + 1 < (n : Int) := by omega
      have hltb : decide ((k : Int) + 1 < (n : Int)) = false := decide_eq_false hltI
      go_wp2
      refine bodyPost_ret (results_tmp2 rfl _ _ _) rfl ?_
      exact ⟨_, _, rfl, HB.out⟩
end Go.Proofs.Ytlemielobmbadaa
namespace Go.Proofs.Ytlemielobmbadaa
open Go.RowKit

/-- A slice of bytes that can be read. -/
def RdB (w : World) (v : Value) : Prop :=
  ∃ a len cap, v = .slice a len cap ∧ len ≤ cap ∧ len ≤ 281474976710656 ∧ (0 < len → ∃ b off, a = some ⟨b, off, none⟩ ∧ b < w.heap.size ∧ ∀ j, j < len → ∃ x : Int, 0 ≤ x ∧ x ≤ 255 ∧ w.cell? ⟨b, off + j, none⟩ = some (.int .u8 x))
/-- The block in which a slice that is not empty lies. -/
def bb : Value → Option Nat
  | .slice (some a) (_ + 1) _ => some a.block
  | _ => none
theorem bb_some {b off len cap : Nat} (h : 0 < len) : bb (.slice (some ⟨b, off, none⟩) len cap) = some b := by
  obtain ⟨n, rfl⟩ : ∃ n, len = n + 1 := ⟨len - 1, by omega⟩
  rfl
theorem RdB.lt {w : World} {v : Value} (h : RdB w v) : ∀ j, bb v = some j → j < w.heap.size := by
  obtain ⟨a, len, cap, rfl, h1, h2, h3⟩ := h
  intro j hj
  rcases Nat.eq_zero_or_pos len with h0 | h0
  · subst h0; cases a <;> simp [bb] at hj
  · obtain ⟨b, off, rfl, hb, _⟩ := h3 h0
    rw [bb_some h0] at hj
    simp at hj; omega
theorem RdB.kept {w w' : World} {v : Value} (h : RdB w v) (hs : w.heap.size ≤ w'.heap.size) (hk : ∀ k, bb v = some k → w'.heap[k]? = w.heap[k]?) : RdB w' v := by
  obtain ⟨a, len, cap, rfl, h1, h2, h3⟩ := h
  refine ⟨a, len, cap, rfl, h1, h2, fun hl => ?_⟩
  obtain ⟨b, off, rfl, hb, hc⟩ := h3 hl
  refine ⟨b, off, rfl, by omega, fun j hj => ?_⟩
  obtain ⟨x, x1, x2, x3⟩ := hc j hj
  exact ⟨x, x1, x2, by rw [World.cell?_of_block (w := w) (hk b (bb_some hl))]; exact x3⟩

/-- Block B is a cursor over the bytes c, at place k. -/
def Cur (w : World) (B : Nat) (c : Value) (k : Nat) : Prop :=
  RdB w c ∧ (∀ j, bb c = some j → j ≠ B) ∧ ∃ s : Int, 0 ≤ s ∧ s < 18446744073709551616 ∧ w.heap[B]? = some (.cells #[c, .int .i64 k, .int .u64 s] 76 (0, 0))

/-- The answer lies in a range; the cursor has moved on; nothing else is changed. -/
def CurPost (w : World) (B : Nat) (c : Value) (k m : Nat) (lo hi : Int) (e : Ending) (w' : World) : Prop :=
  ∃ (x : Int) (k' : Nat), lo ≤ x ∧ x ≤ hi ∧ e = .returned (.int .i64 x) ∧ k' ≤ k + m ∧ Cur w' B c k' ∧ w.grownBy w' (some B) ∧ w'.heap.size = w.heap.size

theorem u64_bd (n : Int) : 0 ≤ IntKind.u64.wrap n ∧ IntKind.u64.wrap n < 18446744073709551616 := by
  have : IntKind.u64.wrap n = n % 18446744073709551616 := by simp [IntKind.wrap, IntKind.bits, IntKind.signed]
  rw [this]; omega
theorem and255_bd (y : Int) (h0 : 0 ≤ y) (h1 : y < 18446744073709551616) : 0 ≤ wrap64 (bits BinOp.and .u64 y 255) ∧ wrap64 (bits BinOp.and .u64 y 255) ≤ 255 := by
  rw [u64_and y 255 h0 h1 (by omega) (by omega)]
  have : y.toNat &&& (255 : Int).toNat ≤ 255 := Nat.and_le_right
  rw [IntWalk.wrap64_in _ (by omega)]; omega
theorem cur_after {w : World} {B k : Nat} {c : Value} {s s2 : Int} (hB : w.heap[B]? = some (.cells #[c, .int .i64 k, .int .u64 s] 76 (0, 0))) (hne : ∀ j, bb c = some j → j ≠ B)
    (hs2 : 0 ≤ s2 ∧ s2 < 18446744073709551616) (hc : RdB w c) (m n : Nat) :
    let w' := (((w.drewN m).setCell ⟨B, 1, none⟩ (.int .i64 ((k : Int) + 1))).setCell ⟨B, 2, none⟩ (.int .u64 s2)).drewN n
    Cur w' B c (k + 1) ∧ w.grownBy w' (some B) ∧ w'.heap.size = w.heap.size := by
  intro w'
  have h1 : ((w.drewN m).setCell ⟨B, 1, none⟩ (.int .i64 ((k : Int) + 1))).heap[B]? = some (.cells #[c, .int .i64 ((k : Int) + 1), .int .u64 s] 76 (0, 0)) := by
    rw [heap_setCell_same (w.drewN m) B 1 _ _ _ hB]; rfl
  have h2 : w'.heap[B]? = some (.cells #[c, .int .i64 ((k : Int) + 1), .int .u64 s2] 76 (0, 0)) := by
    show (((w.drewN m).setCell ⟨B, 1, none⟩ (.int .i64 ((k : Int) + 1))).setCell ⟨B, 2, none⟩ (.int .u64 s2)).heap[B]? = _
    rw [heap_setCell_same _ B 2 _ _ _ h1]; rfl
  have ho : ∀ j, j ≠ B → w'.heap[j]? = w.heap[j]? := fun j hj => by
    show (((w.drewN m).setCell ⟨B, 1, none⟩ (.int .i64 ((k : Int) + 1))).setCell ⟨B, 2, none⟩ (.int .u64 s2)).heap[j]? = _
    rw [heap_setCell_other _ _ _ _ hj, heap_setCell_other _ _ _ _ hj]; rfl
  have hsz : w'.heap.size = w.heap.size := by simp [w']
  refine ⟨⟨hc.kept (by omega) fun j hj => ho j (hne j hj), hne, s2, hs2.1, hs2.2, ?_⟩, ⟨rfl, rfl, rfl, by omega, fun j _ hj => ho j fun e => hj (by rw [e])⟩, hsz⟩
  rw [h2]; rfl

set_option maxHeartbeats 1600000 in
theorem next_any (B : Nat) (c : Value) (k : Nat) (w : World) (h : Cur w B c k) (hk : k ≤ 4611686018427387904) :
    Calls Try.prog 106 #[.pointer (some ⟨B, 0, none⟩)] w (CurPost w B c k 1 0 255) := by
  obtain ⟨hc, hne, s, hs0, hs1, hB⟩ := h
  obtain ⟨a, len, cap, rfl, hlc, hlen, ha⟩ := hc
  have c0 : w.cell? ⟨B, 0, none⟩ = some (.slice a len cap) := by rw [cell_of_row w _ _ _ _ _ hB]; rfl
  have c1 : w.cell? ⟨B, 1, none⟩ = some (.int .i64 k) := by rw [cell_of_row w _ _ _ _ _ hB]; rfl
  have c2 : w.cell? ⟨B, 2, none⟩ = some (.int .u64 s) := by rw [cell_of_row w _ _ _ _ _ hB]; rfl
  have fr : ∀ j, w.frozen? ⟨B, j, none⟩ = false := fun j => frozen_of_row w _ j _ _ hB
  have HB := Lib.hid hB
  clear hB
  by_cases hlt : k < len
  · obtain ⟨b, off, rfl, hbs, hcc⟩ := ha (by omega)
    obtain ⟨x, x0, x1, hx⟩ := hcc k hlt
    clear hcc
    have hltI : (k : Int) < (len : Int) := by omega
    have hd : decide ((k : Int) < (len : Int)) = true := by simpa using hlt
    go_enter Try.func106, Try.ntmps106
    go_wp2
    go_quiet (fail)
    go_wp2
    go_quiet (fail)
    go_wp2
    have hs2 := u64_bd (IntKind.u64.wrap (IntKind.u64.wrap (s * 6364136223846793005) + x) + 897897)
    generalize IntKind.u64.wrap (IntKind.u64.wrap (IntKind.u64.wrap (s * 6364136223846793005) + x) + 897897) = s2 at *
    have hle : ((k : Int) + 1 ≤ (len : Int)) := by omega
    go_quiet (fail)
    go_wp2
    go_ret
    exact ⟨x, k + 1, x0, x1, rfl, Nat.le_refl _, cur_after HB.out hne hs2 ⟨_, len, cap, rfl, hlc, hlen, ha⟩ _ _⟩
  · have hd : decide ((k : Int) < (len : Int)) = false := by simpa using hlt
    have hltI : ¬ ((k : Int) < (len : Int)) := by omega
    go_enter Try.func106, Try.ntmps106
    go_wp2
    go_quiet (fail)
    go_wp2
    have hs2 := u64_bd (IntKind.u64.wrap (IntKind.u64.wrap (s * 6364136223846793005)) + 897897)
    generalize IntKind.u64.wrap (IntKind.u64.wrap (IntKind.u64.wrap (s * 6364136223846793005)) + 897897) = s2 at *
    obtain ⟨hs20, hs21⟩ := hs2
    have hle : decide ((k : Int) + 1 ≤ (len : Int)) = false := by simp; omega
    have hleI : ¬ ((k : Int) + 1 ≤ (len : Int)) := by omega
    go_quiet (fail)
    go_wp2
    have hy : 0 ≤ s2 / 1099511627776 ∧ s2 / 1099511627776 < 18446744073709551616 := by omega
    have hx := and255_bd (s2 / 1099511627776) hy.1 hy.2
    go_ret
    exact ⟨_, k + 1, hx.1, hx.2, rfl, Nat.le_refl _, cur_after HB.out hne ⟨hs20, hs21⟩ ⟨_, len, cap, rfl, hlc, hlen, ha⟩ _ _⟩

theorem CurPost.mono' {w : World} {B : Nat} {c : Value} {k m m' : Nat} {lo hi lo' hi' : Int} {e : Ending} {w' : World} (h : CurPost w B c k m lo hi e w') (hm : m ≤ m') (hl : lo' ≤ lo) (hh : hi ≤ hi') : CurPost w B c k m' lo' hi' e w' := by
  obtain ⟨x, k', h1, h2, h3, h4, h5⟩ := h
  exact ⟨x, k', by omega, by omega, h3, by omega, h5⟩

set_option maxHeartbeats 1600000 in
theorem pick_any (B : Nat) (c : Value) (k : Nat) (n : Int) (w : World) (h : Cur w B c k) (hk : k ≤ 4611686018427387000) (hn : 1 ≤ n) (hn2 : n ≤ 1073741824) :
    Calls Try.prog 61 #[.pointer (some ⟨B, 0, none⟩), .int .i64 n] w (CurPost w B c k 2 0 (n - 1)) := by
  by_cases h1 : n = 1
  · subst h1
    go_enter Try.func61, Try.ntmps61
    go_wp2
    go_ret
    exact ⟨0, k, by omega, by omega, rfl, by omega, h, World.grownBy.refl _ _, rfl⟩
  · have h2 : ¬ n ≤ 1 := by omega
    by_cases h3 : 200 < n
    · go_enter Try.func61, Try.ntmps61
      go_wp2_with fail
      refine (next_any B c k _ h (by omega)).mono ?_
      rintro e w1 ⟨x, k1, x0, x1, rfl, hk1, hc1, hg1, hs1⟩
      go_wp2_with fail
      refine (next_any B c k1 _ hc1 (by omega)).mono ?_
      rintro e w2 ⟨y, k2, y0, y1, rfl, hk2, hc2, hg2, hs2⟩
      go_wp2
      go_ret
      have := Int.emod_nonneg (x * 256 + y) (show n ≠ 0 by omega)
      have := Int.emod_lt_of_pos (x * 256 + y) (show 0 < n by omega)
      exact ⟨_, k2, by omega, by omega, rfl, by omega, hc2, hg1.trans' hg2, hs2.trans hs1⟩
    · go_enter Try.func61, Try.ntmps61
      go_wp2_with fail
      refine (next_any B c k _ h (by omega)).mono ?_
      rintro e w1 ⟨x, k1, x0, x1, rfl, hk1, hc1, hg1, hs1⟩
      go_wp2
      go_ret
      have := Int.emod_nonneg x (show n ≠ 0 by omega)
      have := Int.emod_lt_of_pos x (show 0 < n by omega)
      exact ⟨_, k1, by omega, by omega, rfl, by omega, hc1, hg1, hs1⟩
end Go.Proofs.Ytlemielobmbadaa
namespace Go.Proofs.Ytlemielobmbadaa
open Go.RowKit

/-- Bytes that came in. -/
def RawB (w : World) (a : Option Addr) (len cap : Nat) (zs : List Int) : Prop :=
  (a = none ∧ len = 0 ∧ cap = 0 ∧ zs = []) ∨
  ∃ x, a = some x ∧ len ≤ cap ∧ cap ≤ maxLen ∧ zs.length = cap ∧ (∀ i, i < zs.length → w.cell? (x.add i) = some (.int .u8 (zs.getD i 0))) ∧ ∀ n ∈ zs, (Lit.int .u8 n).wf = true

theorem RawB.rd {w : World} {a : Option Addr} {len cap : Nat} {zs : List Int} (h : RawB w a len cap zs) (hl : len ≤ 281474976710656) : RdB w (.slice a len cap) := by
  rcases h with ⟨rfl, rfl, rfl, rfl⟩ | ⟨x, rfl, h1, h2, h3, h4, h5⟩
  · exact ⟨none, 0, 0, rfl, by omega, by omega, by omega⟩
  · refine ⟨some x, len, cap, rfl, h1, hl, fun hp => ?_⟩
    obtain ⟨b, off, spot⟩ := x
    have hc := h4 0 (by omega)
    have hspot : spot = none := by simpa [Addr.add] using World.cell?_spot hc
    subst hspot
    refine ⟨b, off, rfl, World.block_lt_of_cell? w _ (show w.cell? ⟨b, off, none⟩ = some (.int .u8 (zs.getD 0 0)) by simpa [Addr.add] using hc), fun j hj => ?_⟩
    have hj2 : j < zs.length := by omega
    have hw := h5 (zs.getD j 0) (by simp [List.getD, hj2])
    have hb := bounds_u8 hw
    refine ⟨zs.getD j 0, hb.1, by omega, ?_⟩
    have := h4 j hj2
    rw [← this]
    by_cases h0 : j = 0 <;> simp [Addr.add, h0]

theorem cur_new {w : World} {v : Value} (h : RdB w v) : Cur (w.alloc (.cells #[v, .int .i64 0, .int .u64 0] 76)) w.heap.size v 0 :=
  ⟨h.kept (by simp) (fun j hj => heap_alloc_old w _ (h.lt j hj)), fun j hj => by have := h.lt j hj; omega, 0, by omega, by omega, heap_alloc_new w _⟩
theorem RdB.below {w w' : World} {v : Value} (h : RdB w v) (hb : Below w.heap.size w w') : RdB w' v :=
  h.kept hb.size (fun j hj => hb.block j (h.lt j hj))

theorem vBig_any (a : Option Addr) (len cap : Nat) (w : World) :
    Calls Try.prog 9 #[.slice a len cap] w fun e w' => e = .returned (.bool (decide (65536 < (len : Int)))) ∧ w = w' := by
  go_enter Try.func9, Try.ntmps9
  go_wp2
  go_ret
  exact ⟨rfl, rfl⟩

theorem vAt_any (v : Value) (i : Int) (w : World) (h : RdB w v) (hi : 0 ≤ i) (hi2 : i ≤ 1000000) :
    Calls Try.prog 18 #[v, .int .i64 i] w fun e w' => ∃ x : Int, e = .returned (.int .i64 x) ∧ (0 ≤ x ∧ x ≤ 255) ∧ w = w' := by
  obtain ⟨a, len, cap, rfl, h1, h2, h3⟩ := h
  obtain ⟨i, rfl⟩ := Int.eq_ofNat_of_zero_le hi
  by_cases hlt : i < len
  · obtain ⟨b, off, rfl, hb, hc⟩ := h3 (by omega)
    obtain ⟨x, x0, x1, hx⟩ := hc i hlt
    have hltI : (i : Int) < (len : Int) := by omega
    clear hc h3
    go_enter Try.func18, Try.ntmps18
    go_wp2
    go_ret
    exact ⟨x, rfl, ⟨x0, x1⟩, rfl⟩
  · have hltI : ¬ (i : Int) < (len : Int) := by omega
    go_enter Try.func18, Try.ntmps18
    go_wp2
    go_ret
    exact ⟨_, rfl, ⟨by omega, by omega⟩, rfl⟩

theorem mulOk_comm (a b : Int) : mulOk b a = mulOk a b := by simp [mulOk, Bool.and_comm]
theorem mulI_comm {a b : Int} (ha : 0 ≤ a) (ha2 : a ≤ 15) (hb : 0 ≤ b) (hb2 : b ≤ 15) : mulI b a = mulI a b := by
  unfold mulI
  rw [mul_comm0 a.toNat (by omega) b.toNat (by omega)]
theorem mulOk_parts {a b : Int} (h : mulOk a b = true) : (0 ≤ a ∧ a ≤ 15) ∧ 0 ≤ b ∧ b ≤ 15 := by
  simp only [mulOk, Bool.and_eq_true] at h
  exact ⟨inB_true h.1, inB_true h.2⟩
theorem mulS_comm (a b : Int) : mulS b a = mulS a b := by
  unfold mulS
  rw [mulOk_comm]
  by_cases h : mulOk a b = true
  · obtain ⟨⟨h1, h2⟩, h3, h4⟩ := mulOk_parts h
    rw [if_pos h, if_pos h, mulI_comm h1 h2 h3 h4]
  · rw [if_neg h, if_neg h]
theorem mulS_of {a b : Int} (ha : 0 ≤ a) (ha2 : a ≤ 15) (hb : 0 ≤ b) (hb2 : b ≤ 15) : mulS a b = mulI a b := by
  simp [mulS, mulOk, inB_mk ha ha2, inB_mk hb hb2]
theorem mulI_xr {a b c : Int} (ha : 0 ≤ a) (ha2 : a ≤ 15) (hb : 0 ≤ b) (hb2 : b ≤ 15) (hc : 0 ≤ c) (hc2 : c ≤ 15) : mulI a (xr b c) = xr (mulI a b) (mulI a c) := by
  have m1 := mulI_bd ha ha2 hb hb2
  have m2 := mulI_bd ha ha2 hc hc2
  rw [xr_nat hb hb2 hc hc2, xr_nat m1.1 m1.2 m2.1 m2.2]
  unfold mulI
  simp only [Int.toNat_natCast]
  rw [mul_xor0 a.toNat (by omega) b.toNat (by omega) c.toNat (by omega)]
theorem invOk_parts {a : Int} (h : invOk a = true) : 1 ≤ a ∧ a ≤ 15 := inB_true h

end Go.Proofs.Ytlemielobmbadaa
