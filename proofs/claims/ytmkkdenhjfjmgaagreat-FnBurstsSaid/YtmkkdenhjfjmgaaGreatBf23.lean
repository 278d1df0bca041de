/- Joined: XRaw XDrt XVin XFsL XFxP XAlbS. -/
import Derived.Test.YtmkkdenhjfjmgaaGreatBf01
import Derived.Test.YtmkkdenhjfjmgaaGreatBf22
import Derived.Test.YtmkkdenhjfjmgaaGreatBf07
import Derived.Test.YtmkkdenhjfjmgaaGreatBf08
import Derived.Test.YtmkkdenhjfjmgaaGreatBf12
import Derived.Test.YtmkkdenhjfjmgaaGreatBf11
import Derived.Deep.RegionHeld3
import Derived.Test.YtmkkdenhjfjmgaaGreatBf13
import Derived.Test.YtmkkdenhjfjmgaaGreatBf05
import Derived.Deep.RegionWith
namespace Go.Proofs.YtmkkdenhjfjmgaaGreat
open Go.RowKit

/-- Bytes that came in. -/
def RawB (w : World) (a : Option Addr) (len cap : Nat) (zs : List Int) : Prop :=
  (a = none ∧ len = 0 ∧ cap = 0 ∧ zs = []) ∨
  ∃ x, a = some x ∧ len ≤ cap ∧ cap ≤ maxLen ∧ zs.length = cap ∧ (∀ i, i < zs.length → w.cell? (x.add i) = some (.int .u8 (zs.getD i 0))) ∧ ∀ n ∈ zs, (Lit.int .u8 n).wf = true

theorem RawB.rd {w : World} {a : Option Addr} {len cap : Nat} {zs : List Int} (h : RawB w a len cap zs) (hl : len ≤ 281474976710656) : RdB w (.slice a len cap) := by
  rcases h with ⟨rfl, rfl, rfl, rfl⟩ | ⟨x, rfl, h1, h2, h3, h4, h5⟩
  · exact ⟨none, 0, 0, rfl, by omega, by omega, by omega⟩
  · refine ⟨some x, len, cap, rfl, h1, hl, fun hp => ?_⟩
    obtain ⟨b, off, spot⟩ := x
    have hc := h4 0 (by omega)
    have hspot : spot = none := by simpa [Addr.add] using World.cell?_spot hc
    subst hspot
    refine ⟨b, off, rfl, World.block_lt_of_cell? w _ (show w.cell? ⟨b, off, none⟩ = some (.int .u8 (zs.getD 0 0)) by simpa [Addr.add] using hc), fun j hj => ?_⟩
    have hj2 : j < zs.length := by omega
    have hw := h5 (zs.getD j 0) (by simp [List.getD, hj2])
    have hb := bounds_u8 hw
    refine ⟨zs.getD j 0, hb.1, by omega, ?_⟩
    have := h4 j hj2
    rw [← this]
    by_cases h0 : j = 0 <;> simp [Addr.add, h0]

theorem vBig_any (a : Option Addr) (len cap : Nat) (w : World) :
    Calls Tryz.prog 30 #[.slice a len cap] w fun e w' => e = .returned (.bool (decide (65536 < (len : Int)))) ∧ w = w' := by
  go_enter Tryz.func30, Tryz.ntmps30
  go_wp2
  go_ret
  exact ⟨rfl, rfl⟩
theorem RdB.behind {w w' : World} {v : Value} (h : RdB w v) (hb : Below w.heap.size w w') : RdB w' v := h.kept hb.size (fun j hj => hb.block j (h.lt j hj))
end Go.Proofs.YtmkkdenhjfjmgaaGreat
namespace Go.Proofs.YtmkkdenhjfjmgaaGreat
open Go.RowKit Go.Sort
set_option maxRecDepth 100000

/-- The draw's memory: the result's variable (block r), the cursor (block B), the plan's variable (block bP). -/
structure DrB (w wr : World) (B : Nat) (c : Value) (K bP : Nat) (u1 u2 u3 : Value) (n : Net) (ps : List (Lgt × Value)) : Prop where
  bel : Below w.heap.size w wr
  cs : Cs wr B c K
  hB : w.heap.size < B ∧ B < bP
  out : wr.heap[w.heap.size]? = some (.cells #[.slice none 0 0, .slice none 0 0, .slice none 0 0] 38 (0, 0))
  box : wr.heap[bP]? = some (.cells #[u1, u2, u3] 38 (0, 0))
  d : PlD wr (B + 1) u1 u2 u3 n ps
section
variable {w wr w' : World} {B K K' bP : Nat} {c u1 u2 u3 : Value} {n : Net} {ps : List (Lgt × Value)}
theorem DrB.call (h : DrB w wr B c K bP u1 u2 u3 n ps) (hc : CS wr B c K' w') : DrB w w' B c K' bP u1 u2 u3 n ps := by
  have hB := h.hB
  exact ⟨hc.belowAll h.bel (by omega), hc.st, h.hB, hc.blk h.out (by omega), hc.blk h.box (by omega), h.d.cs (by omega) hc⟩
theorem DrB.below (h : DrB w wr B c K bP u1 u2 u3 n ps) (hb : Below wr.heap.size wr w') : DrB w w' B c K bP u1 u2 u3 n ps :=
  ⟨h.bel.trans (hb.mono h.bel.size), (h.cs.here.below hb).st, h.hB, kept_o' h.out hb, kept_o' h.box hb, h.d.below hb⟩
/-- The plan is stored into the result. -/
theorem DrB.res (h : DrB w wr B c K bP u1 u2 u3 n ps) : PlD (((wr.setCell ⟨w.heap.size, 0, none⟩ u1).setCell ⟨w.heap.size, 1, none⟩ u2).setCell ⟨w.heap.size, 2, none⟩ u3) (B + 1) u1 u2 u3 n ps ∧ Below w.heap.size w (((wr.setCell ⟨w.heap.size, 0, none⟩ u1).setCell ⟨w.heap.size, 1, none⟩ u2).setCell ⟨w.heap.size, 2, none⟩ u3) := by
  have hB := h.hB
  refine ⟨h.d.kept fun g hg _ => ?_, ((h.bel.setCell (p := ⟨w.heap.size, 0, none⟩) (Nat.le_refl _) u1).setCell (p := ⟨w.heap.size, 1, none⟩) (Nat.le_refl _) u2).setCell (p := ⟨w.heap.size, 2, none⟩) (Nat.le_refl _) u3⟩
  rw [heap_setCell_other _ ⟨w.heap.size, 2, none⟩ g _ (show g ≠ w.heap.size by omega), heap_setCell_other _ ⟨w.heap.size, 1, none⟩ g _ (show g ≠ w.heap.size by omega), heap_setCell_other _ ⟨w.heap.size, 0, none⟩ g _ (show g ≠ w.heap.size by omega)]
end
end Go.Proofs.YtmkkdenhjfjmgaaGreat
namespace Go.Proofs.YtmkkdenhjfjmgaaGreat
open Go.RowKit
set_option maxRecDepth 100000

set_option maxHeartbeats 3200000 in
theorem vHas_any (v : Value) (xs : List Int) (x : Int) (w : World) (h : Rd w v xs) :
    Calls Tryz.prog 33 #[v, .int .i64 x] w fun e w' => e = .returned (.bool (xs.contains x)) ∧ w = w' := by
  obtain ⟨a, cap, n, HN, rfl, _, hnl, ha⟩ := h.opn
  have HA := Lib.hid ha
  have HP := Lib.hid (fun k (hk : k < xs.length) => @hasI_yes xs x k hk)
  have HM := Lib.hid (fun k (hk : k < xs.length) => @anyI_more xs x k hk)
  have HO := Lib.hid (@hasI_no xs x)
  clear ha h
  generalize xs.contains x = r at *
  go_enter Tryz.func33, Tryz.ntmps33
  go_wp2
  go_loop [5] (fun i => ∃ k : Nat, k ≤ n ∧ i = .int .i64 k ∧ Hid ((xs.take k).any (fun s => s == x) = false)) (fun i => n - (intOf i).toNat)
  case atStart => exact ⟨0, Nat.zero_le _, rfl, by simp [Hid]⟩
  case round =>
    obtain ⟨k, hk, rfl, HT⟩ := hrel
    by_cases hlt : k < n
    · have hltI : (k : Int) < (n : Int) := by omega
      have hkx : k < xs.length := by rw [HN.out]; exact hlt
      obtain ⟨b, off, rfl, hbs, hcs⟩ := HA.out (by omega)
      have hc0 := hcs k hlt
      have HP1 := Lib.hid (HP.out k hkx)
      have HM1 := Lib.hid (HM.out k hkx HT.out)
      clear hcs hkx
      generalize xs[k]?.getD 0 = y at *
      by_cases he : y = x
      · have HE := Lib.hid (HP1.out he)
        have hb2 : (y == x) = true := by simp [he]
        clear he
        go_wp2
        go_ret
        exact ⟨by rw [HE.out]; rfl, rfl⟩
      · have HE := Lib.hid (HM1.out he)
        have hb2 : (y == x) = false := by simp [he]
        clear he
        go_wp2
        go_round
        case rel => exact ⟨k + 1, by omega, by go_num, HE.out⟩
        case measure => simp [intOf]; omega
    · obtain rfl : k = n := by omega
      have hall := HT.out
      rw [← HN.out, List.take_length] at hall
      have HE := Lib.hid (HO.out hall)
      clear hall
      go_wp2
      go_ret
      exact ⟨by rw [HE.out]; rfl, rfl⟩
end Go.Proofs.YtmkkdenhjfjmgaaGreat
namespace Go.Proofs.YtmkkdenhjfjmgaaGreat
open Go.RowKit Go.Sort
set_option maxRecDepth 100000

/-- A plan in a law's variable. -/
structure Mm (w W : World) (bP : Nat) (u1 u2 u3 : Value) (p : Pln) : Prop where
  bel : Below w.heap.size w W
  box : W.heap[bP]? = some (.cells #[u1, u2, u3] 38 (0, 0))
  pr : PlnR W (.agg #[u1, u2, u3]) p
  fb : ∀ i : Nat, (lgA p i).fb.length ≤ 1100000
theorem Mm.below {w W W' : World} {bP : Nat} {u1 u2 u3 : Value} {p : Pln} (h : Mm w W bP u1 u2 u3 p) (hb : Below W.heap.size W W') : Mm w W' bP u1 u2 u3 p :=
  ⟨h.bel.trans (hb.mono h.bel.size), kept_o' h.box hb, h.pr.behind hb, h.fb⟩
theorem Mm.mk' {w w1 : World} {u1 u2 u3 : Value} {n : Net} {ps : List (Lgt × Value)} {b : Nat} (hd : PlD w1 b u1 u2 u3 n ps) (hb : Below w.heap.size w w1) : Mm w (w1.alloc (.cells #[u1, u2, u3] 38)) w1.heap.size u1 u2 u3 ⟨n, ps.map Prod.fst⟩ :=
  ⟨hb.alloc hb.size _, heap_alloc_new _ _, (hd.below ((Below.refl _ _).alloc (Nat.le_refl _) _)).rd, fun i => Nat.le_trans (hd.fbs i) (by omega)⟩
def LawP (w : World) (e : Ending) (w' : World) : Prop := e = .returned (.bool true) ∧ Below w.heap.size w w'
end Go.Proofs.YtmkkdenhjfjmgaaGreat
namespace Go.Proofs.YtmkkdenhjfjmgaaGreat

theorem frm_in {g : Nat → List (List Int)} {x : List Int} : ∀ {m f k : Nat}, f ≤ k → k < f + m → x ∈ g k → x ∈ frm g m f
  | 0, f, k, h1, h2, _ => by omega
  | m + 1, f, k, h1, h2, h => by
    show x ∈ g f ++ frm g m (f + 1)
    by_cases e : f = k
    · subst e; exact List.mem_append_left _ h
    · exact List.mem_append_right _ (frm_in (by omega) (by omega) h)
theorem sub_cons_at {y : Int} {s : List Int} : ∀ {L : List Int}, (y :: s).Sublist L → ∃ i, i < L.length ∧ L[i]?.getD 0 = y ∧ s.Sublist (L.drop (i + 1))
  | [], h => by cases h
  | a :: L, h => by
    cases h with
    | cons _ h =>
      obtain ⟨i, h1, h2, h3⟩ := sub_cons_at h
      exact ⟨i + 1, by simp; omega, by simpa using h2, by simpa using h3⟩
    | cons_cons _ h => exact ⟨0, by simp, by simp, by simpa using h⟩
theorem chv_sub {sus : List Int} : ∀ {c f : Nat} {l x : List Int}, x ∈ chv sus c f l → ∃ s : List Int, s.Sublist (sus.drop f) ∧ s.length = c ∧ x = l ++ s
  | 0, f, l, x, h => by
    have : x = l := by simpa [chv] using h
    exact ⟨[], List.nil_sublist _, rfl, by rw [this]; simp⟩
  | c + 1, f, l, x, h => by
    obtain ⟨k, h1, h2, h3⟩ := frm_mem (show x ∈ frm _ _ _ from h)
    obtain ⟨s, hs, hl, rfl⟩ := chv_sub h3
    have hk : k < sus.length := by omega
    refine ⟨sus[k]?.getD 0 :: s, ?_, by simp [hl], by simp⟩
    rw [List.getElem?_eq_getElem hk]
    have e1 : sus.drop k = sus[k] :: sus.drop (k + 1) := List.drop_eq_getElem_cons hk
    have e2 : (sus.drop k).Sublist (sus.drop f) := by
      have : sus.drop k = (sus.drop f).drop (k - f) := by rw [List.drop_drop]; congr 1; omega
      rw [this]; exact List.drop_sublist _ _
    refine List.Sublist.trans ?_ e2
    rw [e1]
    exact List.Sublist.cons_cons _ hs
theorem sub_chv {sus : List Int} : ∀ {c f : Nat} {l s : List Int}, s.Sublist (sus.drop f) → s.length = c → l ++ s ∈ chv sus c f l
  | 0, f, l, s, _, hl => by
    have : s = [] := List.eq_nil_of_length_eq_zero hl
    subst this; simp [chv]
  | c + 1, f, l, s, hs, hl => by
    cases s with
    | nil => simp at hl
    | cons y s =>
      obtain ⟨i, h1, h2, h3⟩ := sub_cons_at hs
      rw [List.length_drop] at h1
      rw [List.getElem?_drop] at h2
      rw [List.drop_drop] at h3
      show l ++ y :: s ∈ frm (fun k => chv sus c (k + 1) (l ++ [sus[k]?.getD 0])) (sus.length - f) f
      refine frm_in (k := f + i) (by omega) (by omega) ?_
      have := sub_chv (l := l ++ [sus[f + i]?.getD 0]) (s := s) (c := c) (f := f + i + 1) (by rw [Nat.add_assoc]; exact h3) (by simpa using hl)
      rw [h2] at this ⊢
      simpa using this
theorem exl_iff {p : Pln} {d x : List Int} {c : Nat} : x ∈ exl p d c ↔ x.Sublist (sps p d) ∧ x.length = c ∧ expB p d x = true := by
  unfold exl
  rw [List.mem_filter]
  constructor
  · rintro ⟨h1, h2⟩
    obtain ⟨s, hs, hl, rfl⟩ := chv_sub h1
    exact ⟨by simpa using hs, by simpa using hl, by simpa using h2⟩
  · rintro ⟨h1, h2, h3⟩
    exact ⟨by have := sub_chv (sus := sps p d) (c := c) (f := 0) (l := []) (s := x) (by simpa using h1) h2; simpa using this, h3⟩
theorem exA_iff {p : Pln} {d x : List Int} : x ∈ exA p d ↔ x.Sublist (sps p d) ∧ expB p d x = true := by
  unfold exA exTo
  rw [List.mem_flatMap]
  constructor
  · rintro ⟨k, -, h⟩
    obtain ⟨h1, -, h2⟩ := exl_iff.1 h
    exact ⟨h1, h2⟩
  · rintro ⟨h1, h2⟩
    exact ⟨x.length, List.mem_range.2 (by have := h1.length_le; omega), exl_iff.2 ⟨h1, rfl, h2⟩⟩
theorem sps_asc (p : Pln) (d : List Int) : (sps p d).Pairwise (· < ·) := rng_asc _ _
theorem setOk_of {xs : List Int} {m : Nat} (h : xs.Pairwise (· < ·)) (hb : ∀ y ∈ xs, ∃ k : Nat, y = (k : Int) ∧ k < m) : setOk xs m = true := setOk_all fun i hi => by
  unfold seAt inB
  obtain ⟨k, hk, hkm⟩ := hb _ (List.getElem_mem hi)
  rw [List.getElem?_eq_getElem hi]
  by_cases h0 : 0 < i
  · have hlt := (List.pairwise_iff_getElem.1 h) (i - 1) i (by omega) hi (by omega)
    rw [List.getElem?_eq_getElem (show i - 1 < xs.length by omega)]
    simp only [Option.getD_some]
    simp
    omega
  · simp only [Option.getD_some]
    simp
    omega
theorem sub_set {p : Pln} {d x : List Int} (h : x.Sublist (sps p d)) : setOk x (grps p.n).length = true :=
  setOk_of ((sps_asc p d).sublist h) fun y hy => by
    obtain ⟨k, rfl, hk, -⟩ := sps_mem (h.subset hy)
    exact ⟨k, rfl, hk⟩
theorem sub_ieOk {p : Pln} {d x : List Int} (hd : dwOk p d = true) (h : x.Sublist (sps p d)) : ieOk p d x = true ∧ gsetOk p x = true := by
  have hg : gsetOk p x = true := by unfold gsetOk; rw [(dwOk_parts hd).1, sub_set h]; rfl
  exact ⟨by unfold ieOk; rw [hd, hg]; rfl, hg⟩
theorem exTo_lt {p : Pln} {d x : List Int} {k : Nat} (h : x ∈ exTo p d k) : x.length < k := by
  unfold exTo at h
  obtain ⟨c, hc, hx⟩ := List.mem_flatMap.1 h
  have := (exl_iff.1 hx).2.1
  have := List.mem_range.1 hc
  omega
theorem exTo_head {p : Pln} {d : List Int} : ∀ {k : Nat} {x : List Int}, (exTo p d k).head? = some x → ∀ y ∈ exTo p d k, x.length ≤ y.length
  | 0, x, h, y, hy => by cases hy
  | k + 1, x, h, y, hy => by
    rw [exTo_succ] at h hy
    cases he : exTo p d k with
    | nil =>
      rw [he] at h hy
      simp only [List.nil_append] at h hy
      have h1 := (exl_iff.1 (List.mem_of_mem_head? h)).2.1
      have h2 := (exl_iff.1 hy).2.1
      omega
    | cons z zs =>
      rw [he] at h
      simp only [List.cons_append, List.head?_cons, Option.some.injEq] at h
      subst h
      have hh : (exTo p d k).head? = some z := by rw [he]; rfl
      rcases List.mem_append.1 hy with h | h
      · exact exTo_head hh y h
      · have h1 := exTo_lt (List.mem_of_mem_head? hh)
        have h2 := (exl_iff.1 h).2.1
        omega
theorem few_some {p : Pln} {d x : List Int} (h : fewO p d = some x) : x ∈ exA p d ∧ ∀ y ∈ exA p d, x.length ≤ y.length := ⟨List.mem_of_mem_head? h, exTo_head h⟩
theorem ieR_yes {p : Pln} {d x : List Int} (hd : dwOk p d = true) (h : x.Sublist (sps p d)) (he : expB p d x = true) : ieR p d x = true ∧ ieOk p d x = true := by
  have := (sub_ieOk hd h).1
  exact ⟨by unfold ieR; rw [this, he]; rfl, this⟩
theorem few_ie {p : Pln} {d : List Int} (hd : dwOk p d = true) (h : ¬ (fewL p d).length = 0) : ieR p d (fewL p d) = true ∧ ieOk p d (fewL p d) = true := by
  cases hf : fewO p d with
  | none => unfold fewL at h; rw [hf] at h; simp at h
  | some x =>
    have e : fewL p d = x := by unfold fewL; rw [hf]; rfl
    obtain ⟨h1, h2⟩ := exA_iff.1 (few_some hf).1
    rw [e]
    exact ieR_yes hd h1 h2
end Go.Proofs.YtmkkdenhjfjmgaaGreat
namespace Go.Proofs.YtmkkdenhjfjmgaaGreat
open Go.RowKit Go.Sort
set_option maxRecDepth 100000
theorem rwS_le (zs : List Alm) (gap : Int) (k : Nat) : (rwS zs gap k).length ≤ k := by rw [rwS_len]; exact rwA_len zs gap k
theorem rwS_pos (zs : List Alm) (gap : Int) (k : Nat) (h : 0 < k) : 0 < (rwS zs gap k).length := by rw [rwS_len]; exact rwA_pos zs gap k h
theorem made_inD (w : World) : Ofr (w.alloc (.cells #[] 3)) w.heap.size (inD []) (.slice (some ⟨w.heap.size, 0, none⟩) 0 0) := Ofr.of_row (us := []) (World.ownsRow_made (e := 3) (size := 1) w #[] 0 (Nat.le_refl _) (Nat.zero_le _) (by simp))
theorem grown_below {w w' : World} {r : Option Nat} (h : Below w.heap.size w w') : w.grownBy w' r := ⟨h.os, h.tape, h.output, h.size, fun k hk _ => h.block k hk⟩

set_option maxHeartbeats 3200000 in
theorem specAlb_any (v : Value) (zs : List Alm) (gap : Int) (w : World) (h : Rdt w (flt 2 almE zs) v) :
    Calls Tryz.prog 39 #[v, .int .i64 gap] w (AlbP zs gap w) := by
  obtain ⟨a0, n0, c0, rfl, HN, hc, hn, ha⟩ := flt_opn (m := 2) (enc := almE) (fun _ => rfl) (by omega) nilA h
  have HA := Lib.hid ha
  have HX := Lib.hid (fun w' v (o : Ofr w' w.heap.size (ssD []) v) (hb : Below w.heap.size w w') (e : albOk zs gap = false) => AlbP.no (zs := zs) (gap := gap) (w := w) (w' := w') e o hb)
  have HSZ := Lib.hid (@albOk_sz zs gap)
  have HGP := Lib.hid (@albOk_gap zs gap)
  have HAT := Lib.hid (fun i hi h => @albOk_at zs gap i hi h)
  have HAL := Lib.hid (@albOk_all zs gap)
  have HYE := Lib.hid (fun w' v e o b => @AlbP.yes zs gap w w' v e o b)
  rw [HN.out] at HSZ HAT HAL HYE
  clear ha h
  go_enter Tryz.func39, Tryz.ntmps39
  have HG0 := Lib.hid (Grw.start (w := w) (base := w.heap.size) (size := 1) 29 (Nat.le_refl _))
  have HB0 := Lib.hid ((Below.refl w.heap.size w).alloc (Nat.le_refl _) (.cells #[] 29))
  by_cases h40 : n0 ≤ 40
  case neg =>
    have hd : decide (40 < (n0 : Int)) = true := decide_eq_true (by omega)
    have hd2 : decide (40 < n0) = true := decide_eq_true (by omega)
    have HF := Lib.hid (HSZ.out h40)
    clear h40
    go_wp2
    go_ret2
    exact HX.out _ _ HG0.out.ofr HB0.out HF.out
  have hd : decide (40 < (n0 : Int)) = false := decide_eq_false (by omega)
  have hd2 : decide (40 < n0) = false := decide_eq_false (by omega)
  cases hin : inB gap 0 1000000
  · have HF := Lib.hid (HGP.out hin)
    go_wp2_with (go_at_call 86; refine (l1In_any _ _ _ _).mono ?_; rintro e w' ⟨rfl, rfl⟩; rw [hin])
    go_ret2
    exact HX.out _ _ HG0.out.ofr HB0.out HF.out
  have HAL2 := Lib.hid (HAL.out h40 hin)
  go_wp2_with (go_at_call 86; refine (l1In_any _ _ _ _).mono ?_; rintro e w' ⟨rfl, rfl⟩; rw [hin])
  generalize w.alloc (.cells #[] 29) = w1 at *
  clear hd hd2 hin HSZ HGP HAL
  go_loopw [6, 7, 8] (fun s6 i _ wr => ∃ k : Nat, k ≤ n0 ∧ i = .int .i64 k ∧ Hid (∀ i, i < k → alOk zs i = true) ∧ Hid (Below w.heap.size w wr) ∧ Hid (Grw wr w.heap.size 29 1 s6 (rwS zs gap k).length ((rwS zs gap k).map inD))) (fun _ i _ _ => n0 - (intOf i).toNat)
  case atStart => exact ⟨0, Nat.zero_le _, rfl, fun i hi => by omega, HB0.out, HG0.out⟩
  case round =>
    obtain ⟨k, hk, rfl, HK, HB, HG⟩ := hrel
    obtain ⟨-, aR, cR, rfl⟩ := HG.out.form
    by_cases hlt : k < n0
    · have hltI : (k : Int) < (n0 : Int) := by omega
      obtain ⟨b, off, rfl, hbs, hcs⟩ := HA.out (by omega)
      have HC := Lib.hid (fun i hi r u hu => (HB.out.cell (p := ⟨b, off + i * 2 + r, none⟩) hbs).trans (hcs i hi r u hu))
      have e0 := HC.out k hlt 0 _ rfl
      have e1 := HC.out k hlt 1 _ rfl
      simp only [Nat.add_zero] at e0
      have HNO := Lib.hid (HAT.out k hlt)
      have HST := Lib.hid (fun h => upto_succ HK.out (k := k) h)
      have HV := Lib.hid (show alOk zs k = (inB (zs[k]?.getD nilA).t 0 1000000 && (inB (zs[k]?.getD nilA).l 1 999 && !(decide (0 < k) && decide ((zs[k]?.getD nilA).t < (zs[k - 1]?.getD nilA).t)))) from rfl)
      have HNB := Lib.hid (show newB zs gap k = (decide (k = 0) || decide (gap < (zs[k]?.getD nilA).t - (zs[k - 1]?.getD nilA).t)) from rfl)
      have HNX := Lib.hid (show rwS zs gap (k + 1) = addL (rwB zs gap k (rwS zs gap k)) (putI (lastL (rwB zs gap k (rwS zs gap k))) (zs[k]?.getD nilA).l) from rfl)
      have HPT := Lib.hid (show ∀ j, j < k → 0 ≤ (zs[j]?.getD nilA).t ∧ (zs[j]?.getD nilA).t ≤ 1000000 from fun j hj => by
        have := HK.out j hj
        unfold alOk alA at this
        simp only [Bool.and_eq_true] at this
        exact inB_true this.1)
      have HRL := Lib.hid (rwS_le zs gap k)
      have HRP := Lib.hid (rwS_pos zs gap k)
      have HRR := Lib.hid (rwS_row zs gap k)
      generalize zs[k]?.getD nilA = z at *
      generalize rwS zs gap k = R at *
      obtain ⟨bx, bc, blt, -⟩ := box_facts wr #[.int .i64 z.t, .int .i64 z.l] 67
      have q0 := bc 0 _ rfl
      have q1 := bc 1 _ rfl
      have HB1 := Lib.hid (HB.out.trans (bx.mono HB.out.size))
      have HG1 := Lib.hid (HG.out.below bx)
      have HBX := Lib.hid bx
      have HC1 := Lib.hid (fun i hi r u hu => (bx.cell (p := ⟨b, off + i * 2 + r, none⟩) (Nat.lt_of_lt_of_le hbs HB.out.size)).trans (HC.out i hi r u hu))
      clear bx bc hcs
      have HI := Lib.hid (fun w => l1In_any z.t 0 1000000 w)
      have HJ := Lib.hid (fun w => l1In_any z.l 1 999 w)
      cases hti : inB z.t 0 1000000
      · have HF := Lib.hid (HNO.out (by rw [HV.out, hti]; rfl))
        rw [hti] at HI
        go_wp2
        generalize wr.alloc (.cells #[.int .i64 z.t, .int .i64 z.l] 67) = w2 at *
        have j0 := rg q0
        have j1 := rg q1
        clear q0 q1 e0 e1
        refine wp_region_quiet_below (by kernel_rfl) (by kernel_rfl) ?_
        repeat (go_big_quiet_step (first | (go_at_call 86; exact rg_same (HI.out _))))
        refine wpQuiet_nil ?_
        rintro _ ⟨⟨dq, osq⟩, rfl⟩
        have b3 := below_regrown w2 dq osq
        generalize grow (redrawn w2 dq) osq = w3 at *
        go_wp2
        go_ret2
        exact HX.out _ _ (Grw.start 29 (Nat.le_trans HB1.out.size b3.size)).ofr ((HB1.out.trans (b3.mono HB1.out.size)).alloc (Nat.le_trans HB1.out.size b3.size) _) HF.out
      rw [hti] at HI HV
      have hzt := inB_true hti
      clear hti
      cases hli : inB z.l 1 999
      · have HF := Lib.hid (HNO.out (by rw [HV.out, hli]; rfl))
        rw [hli] at HJ
        go_wp2
        generalize wr.alloc (.cells #[.int .i64 z.t, .int .i64 z.l] 67) = w2 at *
        have j0 := rg q0
        have j1 := rg q1
        clear q0 q1 e0 e1
        refine wp_region_quiet_below (by kernel_rfl) (by kernel_rfl) ?_
        repeat (go_big_quiet_step (first | (go_at_call 86; first | (with_reducible exact rg_same (HI.out _)) | (with_reducible exact rg_same (HJ.out _)))))
        refine wpQuiet_nil ?_
        rintro _ ⟨⟨dq, osq⟩, rfl⟩
        have b3 := below_regrown w2 dq osq
        generalize grow (redrawn w2 dq) osq = w3 at *
        go_wp2
        go_ret2
        exact HX.out _ _ (Grw.start 29 (Nat.le_trans HB1.out.size b3.size)).ofr ((HB1.out.trans (b3.mono HB1.out.size)).alloc (Nat.le_trans HB1.out.size b3.size) _) HF.out
      rw [hli] at HJ HV
      clear hli
      by_cases hk0 : k = 0
      · have hk0b : decide (0 < k) = false := decide_eq_false (by omega)
        have hk0c : decide (0 < (k : Int)) = false := decide_eq_false (by omega)
        have hk0d : decide ((k : Int) = 0) = true := decide_eq_true (by omega)
        have hk0e : decide (k = 0) = true := decide_eq_true (by omega)
        have hk0f : ((k : Int) == 0) = true := by rw [beq_iff_eq]; omega
        have HS := Lib.hid (HST.out (by rw [HV.out, hk0b]; rfl))
        have HN1 := Lib.hid (HNX.out)
        have HR1 := Lib.hid (show rwB zs gap k R = R ++ [[]] by unfold rwB; rw [HNB.out, hk0e]; rfl)
        clear hk0
        go_wp2
        generalize wr.alloc (.cells #[.int .i64 z.t, .int .i64 z.l] 67) = w2 at *
        have j0 := rg q0
        have j1 := rg q1
        have j0' := q0
        have j1' := q1
        clear q0 q1 e0 e1
        refine wp_region_quiet_below (by kernel_rfl) (by kernel_rfl) ?_
        repeat (go_big_quiet_step (first | (go_at_call 86; first | (with_reducible exact rg_same (HI.out _)) | (with_reducible exact rg_same (HJ.out _)))))
        refine wpQuiet_nil ?_
        rintro _ ⟨⟨dq, osq⟩, rfl⟩
        have b3 := below_regrown w2 dq osq
        have q0 := j0 dq osq
        have q1 := j1 dq osq
        generalize grow (redrawn w2 dq) osq = w3 at *
        clear j0 j1
        go_wp2
        have j0 := rg q0
        have j1 := rg q1
        refine wp_region_quiet_below (by kernel_rfl) (by kernel_rfl) ?_
        repeat (go_big_quiet_step (fail))
        refine wpQuiet_nil ?_
        rintro _ ⟨⟨dq2, osq2⟩, rfl⟩
        have b4 := below_regrown w3 dq2 osq2
        have q1 := j1 dq2 osq2
        generalize grow (redrawn w3 dq2) osq2 = w4 at *
        clear j0 j1 q0
        have HB4 := Lib.hid ((HB1.out.trans (b3.mono HB1.out.size)).trans (b4.mono (Nat.le_trans HB1.out.size b3.size)))
        have HG4 := Lib.hid ((HG1.out.below b3).below b4)
        go_wp2_with (at_builtin; refine StopAt.go ?_)
        unfold StopAt
        refine wpList_grow rfl (.tmp 70) (.tmp 72) 63 29 rfl Tryz.underlying63 (.slice none 0 0) 1 24 Tryz.infoRows rfl (by decide) (by decide) w.heap.size R.length (.slice aR R.length cR) _ _ (by rfl) HG4.out HB4.out.size ((Below.refl _ _).alloc (Nat.le_refl _) (.cells #[] 3)) [.slice (some ⟨w4.heap.size, 0, none⟩) 0 0] (Newd.one (d := inD []) (made_inD w4)) rfl (by simp [Value.oneCell']) (show Value.slice (some ⟨w4.heap.size + 1, 0, none⟩) 1 1 = Value.slice (some ⟨(w4.alloc (.cells #[] 3)).heap.size, 0, none⟩) 1 1 by simp) (by have := HRL.out; omega) ?_
        intro v5 w5 hG5 hgr5 hlie5
        have hgr5 := (World.grownBy_alloc w4 (.cells #[] 3) (Value.slice aR R.length cR).ownBlock).trans' hgr5
        have HG6 := Lib.hid (show Grw w5 w.heap.size 29 1 v5 (rwB zs gap k R).length ((rwB zs gap k R).map inD) by rw [HR1.out, List.map_append, List.length_append]; exact hG5)
        have HB6 := Lib.hid (HB4.out.grown hgr5 HB4.out.size (fun g hg => (HG4.out.own g hg).1))
        have hbx5 : wr.heap.size < w5.heap.size := Nat.lt_of_lt_of_le (Nat.lt_of_lt_of_le blt (Nat.le_trans b3.size b4.size)) hgr5.size
        have q5 := (hgr5.cell_far ⟨wr.heap.size, 1, none⟩ (World.block_lt_of_cell? _ _ q1) (fun e => by have := HG.out.own _ e.symm; exact Nat.lt_irrefl _ this.2)).trans q1
        have HRB := Lib.hid (show 0 < (rwB zs gap k R).length ∧ (rwB zs gap k R).length ≤ k + 1 by have h1 := HRL.out; rw [HR1.out, List.length_append]; simp only [List.length_cons, List.length_nil]; omega)
        have HRW := Lib.hid (show (lastL (rwB zs gap k R)).length ≤ k by rw [HR1.out]; simp [lastL])
        clear hG5 hgr5 hlie5 q1 b3 b4
        clear HN1 HR1 HNB HV HI HJ HRL HRP HRR hk0b hk0c hk0d hk0e hk0f HPT HC HC1
-- TAIL
        generalize rwB zs gap k R = RB at *
        obtain ⟨j, hj⟩ : ∃ j, RB.length = j + 1 := ⟨RB.length - 1, by have := HRB.out.1; omega⟩
        have hjk : j ≤ k := by have := HRB.out.2; omega
        have HJL := Lib.hid (show j < RB.length by omega)
        have HNX2 := Lib.hid (show rwS zs gap (k + 1) = RB.set j (putI (RB[j]?.getD []) z.l) by rw [HNX.out]; unfold addL lastL; rw [hj]; rfl)
        have HRW2 := Lib.hid (show (RB[j]?.getD []).length ≤ k by have := HRW.out; unfold lastL at this; rw [hj] at this; exact this)
        obtain ⟨g, cap, u, rfl, hu, hgl, ho, hne, hput⟩ := HG6.out.deepI HJL.out HB6.out.size HB6.out
        have HPUT := Lib.hid hput
        have HO := Lib.hid ho
        have HNE := Lib.hid hne
        generalize hM : RB.length = m at *
        have hm63 : m ≤ 9223372036854775807 := by omega
        have f1 : IntKind.i64.wrap ((m : Int) - 1) = (j : Int) := by rw [IntWalk.i64_in _ (by omega)]; omega
        have f2 : (j : Int) < (m : Int) := by omega
        have hjm : j < m := by omega
        have HM := Lib.hid hM
        have HJM := Lib.hid hj
        have HSZ1 := Lib.hid HB6.out.size
        clear hj hM
        clear HRB HRW HNX hput ho hne
        go_wp2
        go_region_with (first | (go_at_call 87; refine (l1Put_any u (RB[j]?.getD []) z.l w.heap.size _ (HO.out.belowAll (Below.refl _ _).drew) HSZ1.out (by have := HRW2.out; omega)).mono ?_; rintro e w7 ⟨v7, rfl, ho7, hlie7, b7⟩; obtain ⟨⟨u0, hs0⟩, hs1, hG7, hB7⟩ := HPUT.out w7 v7 _ ho7 hlie7 (grown_drew (grown_below b7)); obtain ⟨a7, n7, c7, -, rfl, -⟩ := ho7.rd.opn; have HG7 := Lib.hid hG7; have HB7 := Lib.hid hB7; clear hG7 hB7 ho7 hlie7 b7))
        all_goals
          generalize w7.setCell ⟨g, j, none⟩ (.slice a7 n7 c7) = w8 at *
          go_wp2
          go_roundw
          case rel => exact ⟨k + 1, hlt, by go_num, HS.out, HB7.out, by rw [HNX2.out, List.length_set, HM.out]; exact HG7.out⟩
          case measure => simp [intOf]; omega
      obtain ⟨k', hk'⟩ : ∃ k', k = k' + 1 := ⟨k - 1, by omega⟩
      have hkk : k - 1 = k' := by omega
      have hk0b : decide (0 < k) = true := decide_eq_true (by omega)
      have hk0c : decide (0 < (k : Int)) = true := decide_eq_true (by omega)
      have hk0d : decide ((k : Int) = 0) = false := decide_eq_false (by omega)
      have hk0e : decide (k = 0) = false := decide_eq_false (by omega)
      have hk0f : ((k : Int) == 0) = false := by rw [beq_eq_false_iff_ne]; omega
      have hkp : (0 : Int) < (k : Int) := by omega
      have f1w : IntKind.i64.wrap ((k : Int) - 1) = (k' : Int) := by rw [IntWalk.i64_in _ (by omega)]; omega
      have f2w : (k' : Int) < (n0 : Int) := by omega
      have f3w : k' < n0 := by omega
      have p0 := HC1.out k' f3w 0 _ rfl
      simp only [Nat.add_zero] at p0
      have hpt := HPT.out k' (by omega)
      have hv := HV.out
      have hnb := HNB.out
      rw [hkk, hk0b] at hv
      rw [hkk, hk0e] at hnb
      generalize (zs[k']?.getD nilA).t = tp at *
      obtain ⟨dd, hdd⟩ : ∃ dd, z.t - tp = dd := ⟨_, rfl⟩
      rw [hdd] at hnb
      have f4w : IntKind.i64.wrap (z.t - tp) = dd := by rw [← hdd]; exact IntWalk.i64_in _ (by omega)
      have f5w : wrap64 (z.t - tp) = dd := by rw [← hdd]; exact IntWalk.wrap64_in _ (by omega)
      have HV2 := Lib.hid hv
      have HNB2 := Lib.hid hnb
      clear hv hnb hdd hk' hkk hk0 HV HNB hpt HPT
      cases hgt : decide (z.t < tp)
      case true =>
        have HF := Lib.hid (HNO.out (by rw [HV2.out, hgt]; rfl))
        go_wp2
        generalize wr.alloc (.cells #[.int .i64 z.t, .int .i64 z.l] 67) = w2 at *
        have j0 := rg q0
        have j1 := rg q1
        have j2 := rg p0
        clear q0 q1 e0 e1 p0
        refine wp_region_quiet_below (by kernel_rfl) (by kernel_rfl) ?_
        repeat (go_big_quiet_step (first | (go_at_call 86; first | (with_reducible exact rg_same (HI.out _)) | (with_reducible exact rg_same (HJ.out _)))))
        refine wpQuiet_nil ?_
        rintro _ ⟨⟨dq, osq⟩, rfl⟩
        have b3 := below_regrown w2 dq osq
        generalize grow (redrawn w2 dq) osq = w3 at *
        go_wp2
        go_ret2
        exact HX.out _ _ (Grw.start 29 (Nat.le_trans HB1.out.size b3.size)).ofr ((HB1.out.trans (b3.mono HB1.out.size)).alloc (Nat.le_trans HB1.out.size b3.size) _) HF.out
      have HS := Lib.hid (HST.out (by rw [HV2.out, hgt]; rfl))
      cases hnw : decide (gap < dd)
      · have HR1 := Lib.hid (show rwB zs gap k R = R by unfold rwB; rw [HNB2.out, hnw]; rfl)
        have HN1 := Lib.hid (HNX.out)
        rw [HR1.out] at HN1
        have hR0 := HRP.out (by omega)
        go_wp2
        generalize wr.alloc (.cells #[.int .i64 z.t, .int .i64 z.l] 67) = w2 at *
        have j0 := rg q0
        have j1 := rg q1
        have j2 := rg p0
        clear q0 q1 e0 e1 p0
        refine wp_region_quiet_below (by kernel_rfl) (by kernel_rfl) ?_
        repeat (go_big_quiet_step (first | (go_at_call 86; first | (with_reducible exact rg_same (HI.out _)) | (with_reducible exact rg_same (HJ.out _)))))
        refine wpQuiet_nil ?_
        rintro _ ⟨⟨dq, osq⟩, rfl⟩
        have b3 := below_regrown w2 dq osq
        have q0 := j0 dq osq
        have q1 := j1 dq osq
        have p0 := j2 dq osq
        generalize grow (redrawn w2 dq) osq = w3 at *
        clear j0 j1 j2
        go_wp2
        have j0 := rg q0
        have j1 := rg q1
        have j2 := rg p0
        clear q0 p0
        refine wp_region_quiet_below (by kernel_rfl) (by kernel_rfl) ?_
        repeat (go_big_quiet_step (fail))
        refine wpQuiet_nil ?_
        rintro _ ⟨⟨dq2, osq2⟩, rfl⟩
        have b4 := below_regrown w3 dq2 osq2
        have q1 := j1 dq2 osq2
        generalize grow (redrawn w3 dq2) osq2 = w4 at *
        clear j0 j1 j2
        have HB4 := Lib.hid ((HB1.out.trans (b3.mono HB1.out.size)).trans (b4.mono (Nat.le_trans HB1.out.size b3.size)))
        have HG4 := Lib.hid ((HG1.out.below b3).below b4)
        have HG6 := HG4
        have HB6 := HB4
        have hbx5 : wr.heap.size < w4.heap.size := Nat.lt_of_lt_of_le blt (Nat.le_trans b3.size b4.size)
        have q5 := q1
        have HRB := Lib.hid (show 0 < R.length ∧ R.length ≤ k + 1 by have h1 := HRL.out; omega)
        have HRW := Lib.hid (show (lastL R).length ≤ k from HRR.out _)
        clear q1 b3 b4 hR0 HNX
        have HNX := HN1
        clear HN1 HR1 HNB2 HV2 HI HJ HRL HRP HRR hk0b hk0c hk0d hk0e hk0f HC HC1 hgt hnw f1w f2w f3w f4w f5w
        obtain ⟨j, hj⟩ : ∃ j, R.length = j + 1 := ⟨R.length - 1, by have := HRB.out.1; omega⟩
        have hjk : j ≤ k := by have := HRB.out.2; omega
        have HJL := Lib.hid (show j < R.length by omega)
        have HNX2 := Lib.hid (show rwS zs gap (k + 1) = R.set j (putI (R[j]?.getD []) z.l) by rw [HNX.out]; unfold addL lastL; rw [hj]; rfl)
        have HRW2 := Lib.hid (show (R[j]?.getD []).length ≤ k by have := HRW.out; unfold lastL at this; rw [hj] at this; exact this)
        obtain ⟨g, cap, u, hv6, hu, hgl, ho, hne, hput⟩ := HG6.out.deepI HJL.out HB6.out.size HB6.out
        simp only [Value.slice.injEq] at hv6
        obtain ⟨rfl, -, rfl⟩ := hv6
        have HPUT := Lib.hid hput
        have HO := Lib.hid ho
        have HNE := Lib.hid hne
        generalize hM : R.length = m at *
        have hm63 : m ≤ 9223372036854775807 := by omega
        have f1 : IntKind.i64.wrap ((m : Int) - 1) = (j : Int) := by rw [IntWalk.i64_in _ (by omega)]; omega
        have f2 : (j : Int) < (m : Int) := by omega
        have hjm : j < m := by omega
        have HM := Lib.hid hM
        have HJM := Lib.hid hj
        have HSZ1 := Lib.hid HB6.out.size
        clear hj hM
        clear HRB HRW HNX hput ho hne
        go_wp2
        go_region_with (first | (go_at_call 87; refine (l1Put_any u (R[j]?.getD []) z.l w.heap.size _ (HO.out.belowAll (Below.refl _ _).drew) HSZ1.out (by have := HRW2.out; omega)).mono ?_; rintro e w7 ⟨v7, rfl, ho7, hlie7, b7⟩; obtain ⟨⟨u0, hs0⟩, hs1, hG7, hB7⟩ := HPUT.out w7 v7 _ ho7 hlie7 (grown_drew (grown_below b7)); obtain ⟨a7, n7, c7, -, rfl, -⟩ := ho7.rd.opn; have HG7 := Lib.hid hG7; have HB7 := Lib.hid hB7; clear hG7 hB7 ho7 hlie7 b7))
        all_goals
          generalize w7.setCell ⟨g, j, none⟩ (.slice a7 n7 c7) = w8 at *
          go_wp2
          go_roundw
          case rel => exact ⟨k + 1, hlt, by go_num, HS.out, HB7.out, by rw [HNX2.out, List.length_set, HM.out]; exact HG7.out⟩
          case measure => simp [intOf]; omega
      · have HR1 := Lib.hid (show rwB zs gap k R = R ++ [[]] by unfold rwB; rw [HNB2.out, hnw]; rfl)
        have hR0 := HRP.out (by omega)
        go_wp2
        generalize wr.alloc (.cells #[.int .i64 z.t, .int .i64 z.l] 67) = w2 at *
        have j0 := rg q0
        have j1 := rg q1
        have j2 := rg p0
        clear q0 q1 e0 e1 p0
        refine wp_region_quiet_below (by kernel_rfl) (by kernel_rfl) ?_
        repeat (go_big_quiet_step (first | (go_at_call 86; first | (with_reducible exact rg_same (HI.out _)) | (with_reducible exact rg_same (HJ.out _)))))
        refine wpQuiet_nil ?_
        rintro _ ⟨⟨dq, osq⟩, rfl⟩
        have b3 := below_regrown w2 dq osq
        have q0 := j0 dq osq
        have q1 := j1 dq osq
        have p0 := j2 dq osq
        generalize grow (redrawn w2 dq) osq = w3 at *
        clear j0 j1 j2
        go_wp2
        have j0 := rg q0
        have j1 := rg q1
        have j2 := rg p0
        clear q0 p0
        refine wp_region_quiet_below (by kernel_rfl) (by kernel_rfl) ?_
        repeat (go_big_quiet_step (fail))
        refine wpQuiet_nil ?_
        rintro _ ⟨⟨dq2, osq2⟩, rfl⟩
        have b4 := below_regrown w3 dq2 osq2
        have q1 := j1 dq2 osq2
        generalize grow (redrawn w3 dq2) osq2 = w4 at *
        clear j0 j1 j2
        have HB4 := Lib.hid ((HB1.out.trans (b3.mono HB1.out.size)).trans (b4.mono (Nat.le_trans HB1.out.size b3.size)))
        have HG4 := Lib.hid ((HG1.out.below b3).below b4)
        go_wp2_with (at_builtin; refine StopAt.go ?_)
        unfold StopAt
        refine wpList_grow rfl (.tmp 70) (.tmp 72) 63 29 rfl Tryz.underlying63 (.slice none 0 0) 1 24 Tryz.infoRows rfl (by decide) (by decide) w.heap.size R.length (.slice aR R.length cR) _ _ (by rfl) HG4.out HB4.out.size ((Below.refl _ _).alloc (Nat.le_refl _) (.cells #[] 3)) [.slice (some ⟨w4.heap.size, 0, none⟩) 0 0] (Newd.one (d := inD []) (made_inD w4)) rfl (by simp [Value.oneCell']) (show Value.slice (some ⟨w4.heap.size + 1, 0, none⟩) 1 1 = Value.slice (some ⟨(w4.alloc (.cells #[] 3)).heap.size, 0, none⟩) 1 1 by simp) (by have := HRL.out; omega) ?_
        intro v5 w5 hG5 hgr5 hlie5
        have hgr5 := (World.grownBy_alloc w4 (.cells #[] 3) (Value.slice aR R.length cR).ownBlock).trans' hgr5
        have HG6 := Lib.hid (show Grw w5 w.heap.size 29 1 v5 (rwB zs gap k R).length ((rwB zs gap k R).map inD) by rw [HR1.out, List.map_append, List.length_append]; exact hG5)
        have HB6 := Lib.hid (HB4.out.grown hgr5 HB4.out.size (fun g hg => (HG4.out.own g hg).1))
        have hbx5 : wr.heap.size < w5.heap.size := Nat.lt_of_lt_of_le (Nat.lt_of_lt_of_le blt (Nat.le_trans b3.size b4.size)) hgr5.size
        have q5 := (hgr5.cell_far ⟨wr.heap.size, 1, none⟩ (World.block_lt_of_cell? _ _ q1) (fun e => by have := HG.out.own _ e.symm; exact Nat.lt_irrefl _ this.2)).trans q1
        have HRB := Lib.hid (show 0 < (rwB zs gap k R).length ∧ (rwB zs gap k R).length ≤ k + 1 by have h1 := HRL.out; rw [HR1.out, List.length_append]; simp only [List.length_cons, List.length_nil]; omega)
        have HRW := Lib.hid (show (lastL (rwB zs gap k R)).length ≤ k by rw [HR1.out]; simp [lastL])
        clear hG5 hgr5 hlie5 q1 b3 b4
        clear HR1 HNB2 HV2 HI HJ HRL HRP HRR hk0b hk0c hk0d hk0e hk0f HC HC1 hgt hnw f1w f2w f3w f4w f5w hR0
        generalize rwB zs gap k R = RB at *
        obtain ⟨j, hj⟩ : ∃ j, RB.length = j + 1 := ⟨RB.length - 1, by have := HRB.out.1; omega⟩
        have hjk : j ≤ k := by have := HRB.out.2; omega
        have HJL := Lib.hid (show j < RB.length by omega)
        have HNX2 := Lib.hid (show rwS zs gap (k + 1) = RB.set j (putI (RB[j]?.getD []) z.l) by rw [HNX.out]; unfold addL lastL; rw [hj]; rfl)
        have HRW2 := Lib.hid (show (RB[j]?.getD []).length ≤ k by have := HRW.out; unfold lastL at this; rw [hj] at this; exact this)
        obtain ⟨g, cap, u, rfl, hu, hgl, ho, hne, hput⟩ := HG6.out.deepI HJL.out HB6.out.size HB6.out
        have HPUT := Lib.hid hput
        have HO := Lib.hid ho
        have HNE := Lib.hid hne
        generalize hM : RB.length = m at *
        have hm63 : m ≤ 9223372036854775807 := by omega
        have f1 : IntKind.i64.wrap ((m : Int) - 1) = (j : Int) := by rw [IntWalk.i64_in _ (by omega)]; omega
        have f2 : (j : Int) < (m : Int) := by omega
        have hjm : j < m := by omega
        have HM := Lib.hid hM
        have HJM := Lib.hid hj
        have HSZ1 := Lib.hid HB6.out.size
        clear hj hM
        clear HRB HRW HNX hput ho hne
        go_wp2
        go_region_with (first | (go_at_call 87; refine (l1Put_any u (RB[j]?.getD []) z.l w.heap.size _ (HO.out.belowAll (Below.refl _ _).drew) HSZ1.out (by have := HRW2.out; omega)).mono ?_; rintro e w7 ⟨v7, rfl, ho7, hlie7, b7⟩; obtain ⟨⟨u0, hs0⟩, hs1, hG7, hB7⟩ := HPUT.out w7 v7 _ ho7 hlie7 (grown_drew (grown_below b7)); obtain ⟨a7, n7, c7, -, rfl, -⟩ := ho7.rd.opn; have HG7 := Lib.hid hG7; have HB7 := Lib.hid hB7; clear hG7 hB7 ho7 hlie7 b7))
        all_goals
          generalize w7.setCell ⟨g, j, none⟩ (.slice a7 n7 c7) = w8 at *
          go_wp2
          go_roundw
          case rel => exact ⟨k + 1, hlt, by go_num, HS.out, HB7.out, by rw [HNX2.out, List.length_set, HM.out]; exact HG7.out⟩
          case measure => simp [intOf]; omega
    · obtain rfl : n0 = k := by omega
      have HE := Lib.hid (HAL2.out HK.out)
      have HY := Lib.hid (HYE.out)
      go_wp2
      go_ret2
      exact HY.out _ _ HE.out HG.out.ofr HB.out
end Go.Proofs.YtmkkdenhjfjmgaaGreat
