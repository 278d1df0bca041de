/- Joined: XLpa XOfl XLpb. -/
import Derived.Test.YtmkkdenhjfjmgaaGreatBz05
import Derived.Test.YtmkkdenhjfjmgaaGreatBz03
import Derived.Test.YtmkkdenhjfjmgaaGreatBz07
import Derived.Test.YtmkkdenhjfjmgaaGreatBz06
import Derived.Test.YtmkkdenhjfjmgaaGreatBz10
namespace Go.Proofs.YtmkkdenhjfjmgaaGreat
open Go.RowKit Go.Sort
set_option maxRecDepth 100000

theorem szIntS_w (v : Value) (xs : List Int) (l : Int) (w : World) (h : Rw w v xs) (h0 : 0 ≤ l) (h1 : l ≤ 1048576) :
    Calls Tryz.prog 190 #[v, .int .i64 l] w fun e w' => e = .returned (.int .i64 (if l < xs.length then -1 else l - xs.length)) ∧ w' = w := by
  obtain ⟨a, cap, n, HX, rfl, hla, _⟩ := h
  rw [HX.out]
  by_cases hc : l - n < 0
  · have hb : decide (l - n < 0) = true := by simpa using hc
    have e : (if l < (n : Int) then (-1 : Int) else l - n) = -1 := if_pos (by omega)
    rw [e]
    go_enter Tryz.func190, Tryz.ntmps190
    go_wp2
    go_ret
    exact ⟨rfl, rfl⟩
  · have hb : decide (l - n < 0) = false := by simpa using hc
    have e : (if l < (n : Int) then (-1 : Int) else l - n) = l - n := if_neg (by omega)
    rw [e]
    go_enter Tryz.func190, Tryz.ntmps190
    go_wp2
    go_ret
    exact ⟨rfl, rfl⟩
set_option maxHeartbeats 800000 in
theorem toIntS_w (v : Value) (zs : List Int) (w : World) (h : Rw w v zs) (hr : zs.length ≤ 1048576) :
    Calls Tryz.prog 17 #[v] w fun e w' => ∃ v', e = .returned v' ∧ Own w' w.heap.size v' zs ∧ Below w.heap.size w w' := by
  obtain ⟨i0, hi, hz0, hz1, hz2⟩ := info_parts Tryz.infoI
  obtain ⟨a, cap, len, HX, rfl, hla, ha⟩ := h
  rw [HX.out] at hr
  go_enter Tryz.func17, Tryz.ntmps17
  go_wp2_with (refine wpList_make_full _ rfl _ _ 29 rfl w.heap.size 3 i0 (.int .i64 0) 1 Tryz.underlying29 hi hz0 hz1 _ _ _ _ len rfl rfl rfl rfl (by rw [hz2]; omega) (by unfold maxLen; omega) (Nat.le_refl _) ?_; intro w1 hown1 hgrow1)
  have hown2 : Own w1 w.heap.size (.slice (some ⟨w.heap.size, 0, none⟩) len len) (zs.take 0 ++ List.replicate (len - 0) 0) := by
    refine own_of_row (n := len) ?_
    have e : (madeCells (Value.int .i64 0).cells (len * 1)).toList = ints (zs.take 0 ++ List.replicate (len - 0) 0) := by
      rw [Nat.mul_one]
      have := toList_madeCells_one (.int .i64 0) len
      simpa [ints, Value.cells] using this
    rw [← e]; exact hown1
  have hb1 : Below w.heap.size w w1 := (Below.refl _ _).grown hgrow1 (Nat.le_refl _) (by simp)
  clear hown1 hgrow1
  have hsz : w.heap.size < w1.heap.size := (hown2.lt w.heap.size rfl).2
  go_loopw [4] (fun i wr => ∃ k : Nat, k ≤ len ∧ i = .int .i64 k ∧ Own wr w.heap.size (.slice (some ⟨w.heap.size, 0, none⟩) len len) (zs.take k ++ List.replicate (len - k) 0) ∧ Below w.heap.size w wr) (fun i _ => len - (intOf i).toNat)
  case atStart => exact ⟨0, by omega, rfl, hown2, hb1⟩
  case round =>
    obtain ⟨k, hk, rfl, hown, hbel⟩ := hrel
    by_cases hlt : k < len
    · obtain ⟨b, off, rfl, hbs, hc⟩ := ha (show 0 < len by omega)
      have hck : wr.cell? ⟨b, off + k, none⟩ = some (.int .i64 ((zs[k]?.getD 0))) := (hbel.cell (p := ⟨b, off + k, none⟩) hbs).trans (hc k hlt)
      have hlen : (zs.take k ++ List.replicate (len - k) 0).length = len := by have := HX.out; simp; omega
      have hcell := (hown.cellAt rfl).2 k (by omega)
      have hfr := hown.frozenAt rfl k
      have hst := hown.stored rfl k (by omega) ((zs[k]?.getD 0))
      rw [set_rep zs len k (by have := HX.out; omega) hlt] at hst
      rw [Nat.zero_add] at hcell hst
      have HS := Lib.hid hst
      have HB := Lib.hid hbel
      have HO := Lib.hid hown
      clear hst hown hlen hbel
      go_wp2
      go_roundw
      case rel => exact ⟨k + 1, by omega, by go_num, HS.out.1, HB.out.grown HS.out.2 (by have := HB.out.size; omega) (by simp)⟩
      case measure => simp [intOf]; omega
    · obtain rfl : k = len := by omega
      have hz : zs.take k ++ List.replicate (k - k) 0 = zs := by rw [Nat.sub_self, List.replicate_zero, List.append_nil, ← HX.out, List.take_length]
      go_wp2
      go_ret
      exact ⟨_, rfl, by rw [hz] at hown; exact hown, hbel⟩

structure Blk where
  f : Int
  c : Int
def blkV (z : Blk) : Value := .agg #[.int .i64 z.f, .int .i64 z.c]
theorem toBlock_any (z : Blk) (w : World) :
    Calls Tryz.prog 149 #[blkV z] w fun e w' => e = .returned (blkV z) ∧ Below w.heap.size w w' := by
  unfold blkV
  go_enter Tryz.func149, Tryz.ntmps149
  go_wp2
  exact bodyPost_ret (v := .agg #[.int .i64 z.f, .int .i64 z.c]) (by simp [results, Tryz.results149, go_sem]) rfl ⟨rfl, (((Below.refl _ _).alloc (Nat.le_refl _) _).alloc (by simp) _).alloc (by simp; omega) _⟩
theorem eqBlock_same (z : Blk) (w : World) :
    Calls Tryz.prog 152 #[blkV z, blkV z] w fun e w' => e = .returned (.bool true) ∧ Below w.heap.size w w' := by
  have n0 : (z.f != z.f) = false := by simp
  have n1 : (z.c != z.c) = false := by simp
  have HB := Lib.hid (((Below.refl w.heap.size w).alloc (Nat.le_refl _) (.cells #[.int .i64 z.f, .int .i64 z.c] 92)).alloc (by simp) (.cells #[.int .i64 z.f, .int .i64 z.c] 92))
  unfold blkV
  go_enter Tryz.func152, Tryz.ntmps152
  go_wp2
  go_ret
  exact ⟨rfl, HB.out⟩

def RouO (w : World) (r : Rou) (v : Value) (fp : List Nat) : Prop := ∃ u, v = .agg #[.int .i64 r.st, u] ∧ Odt w (inD r.fb) u fp
def LgtO (w : World) (x : Lgt) (v : Value) (fp : List Nat) : Prop := ∃ u, v = .agg #[.int .i64 x.id, .int .i64 x.st, u, .int .i64 x.fi, .int .i64 x.ct] ∧ Odt w (inD x.fb) u fp
theorem Own.fp {w : World} {base : Nat} {v : Value} {xs : List Int} (h : Own w base v xs) : ∃ fp, Odt w (inD xs) v fp ∧ fp.Nodup ∧ ∀ k ∈ fp, base ≤ k := by
  obtain ⟨fp, h1, h2, h3⟩ := h.tree
  exact ⟨fp, h1, h2, fun k hk => (h.lt k (h3 k hk)).1⟩
theorem Rw.shape {w : World} {v : Value} {xs : List Int} (h : Rw w v xs) : ∃ a n cap, v = .slice a n cap := by
  obtain ⟨a, cap, n, _, rfl, _⟩ := h; exact ⟨a, n, cap, rfl⟩
/-- Three blocks of a copying function: the argument's box, the result, the local. -/
theorem three_boxes (w : World) (a b c : Array Value) (S T U : TypeId) :
    Below w.heap.size w (((w.alloc (.cells a S)).alloc (.cells b T)).alloc (.cells c U)) ∧
    (((w.alloc (.cells a S)).alloc (.cells b T)).alloc (.cells c U)).heap[w.heap.size]? = some (.cells a S (0, 0)) ∧
    (((w.alloc (.cells a S)).alloc (.cells b T)).alloc (.cells c U)).heap[w.heap.size + 1]? = some (.cells b T (0, 0)) ∧
    (((w.alloc (.cells a S)).alloc (.cells b T)).alloc (.cells c U)).heap[w.heap.size + 1 + 1]? = some (.cells c U (0, 0)) ∧
    (((w.alloc (.cells a S)).alloc (.cells b T)).alloc (.cells c U)).heap.size = w.heap.size + 1 + 1 + 1 := by
  have b1 := (Below.refl w.heap.size w).alloc (Nat.le_refl _) (.cells a S)
  have b2 := b1.alloc b1.size (.cells b T)
  have b3 := b2.alloc b2.size (.cells c U)
  have k1 := heap_alloc_new w (.cells a S)
  have k2 := heap_alloc_new (w.alloc (.cells a S)) (.cells b T)
  have k3 := heap_alloc_new ((w.alloc (.cells a S)).alloc (.cells b T)) (.cells c U)
  have k1' := (heap_alloc_old _ (.cells c U) (Array.getElem?_eq_some_iff.1 ((heap_alloc_old _ (.cells b T) (Array.getElem?_eq_some_iff.1 k1).1).trans k1)).1).trans ((heap_alloc_old _ (.cells b T) (Array.getElem?_eq_some_iff.1 k1).1).trans k1)
  have k2' := (heap_alloc_old _ (.cells c U) (Array.getElem?_eq_some_iff.1 k2).1).trans k2
  rw [show (w.alloc (.cells a S)).heap.size = w.heap.size + 1 by simp] at k2'
  rw [show ((w.alloc (.cells a S)).alloc (.cells b T)).heap.size = w.heap.size + 1 + 1 by simp] at k3
  exact ⟨b3, k1', k2', k3, by simp⟩
theorem szRoute_any (u : Value) (r : Rou) (l : Int) (w : World) (h : Rw w u r.fb) (h0 : 0 ≤ l) (h1 : l ≤ 1048576) :
    Calls Tryz.prog 146 #[.agg #[.int .i64 r.st, u], .int .i64 l] w fun e w' => e = .returned (.int .i64 (if l < r.fb.length then -1 else l - r.fb.length)) ∧ Below w.heap.size w w' := by
  have hal := (Below.refl w.heap.size w).alloc (Nat.le_refl _) (.cells #[.int .i64 r.st, u] 128)
  have HS := Lib.hid (szIntS_w u r.fb l _ (h.behind hal) h0 h1)
  have HB := Lib.hid hal
  obtain ⟨a, n, cap, rfl⟩ := h.shape
  clear hal h
  by_cases hx : l < (r.fb.length : Int)
  · rw [if_pos hx] at HS ⊢
    go_enter Tryz.func146, Tryz.ntmps146
    go_wp2_with fail
    refine HS.out.mono ?_
    rintro e w2 ⟨rfl, rfl⟩
    go_wp2
    go_ret
    exact ⟨rfl, HB.out⟩
  · rw [if_neg hx] at HS ⊢
    have hnn : ¬ l - (r.fb.length : Int) < 0 := by omega
    have hnb : decide (l - (r.fb.length : Int) < 0) = false := by simpa using hnn
    go_enter Tryz.func146, Tryz.ntmps146
    go_wp2_with fail
    refine HS.out.mono ?_
    rintro e w2 ⟨rfl, rfl⟩
    go_wp2
    go_ret
    exact ⟨rfl, HB.out⟩
theorem szLight_any (u : Value) (x : Lgt) (l : Int) (w : World) (h : Rw w u x.fb) (h0 : 0 ≤ l) (h1 : l ≤ 1048576) :
    Calls Tryz.prog 103 #[.agg #[.int .i64 x.id, .int .i64 x.st, u, .int .i64 x.fi, .int .i64 x.ct], .int .i64 l] w fun e w' => e = .returned (.int .i64 (if l < x.fb.length then -1 else l - x.fb.length)) ∧ Below w.heap.size w w' := by
  have hal := (Below.refl w.heap.size w).alloc (Nat.le_refl _) (.cells #[.int .i64 x.id, .int .i64 x.st, u, .int .i64 x.fi, .int .i64 x.ct] 131)
  have HS := Lib.hid (szRoute_any u ⟨x.st, x.fb⟩ l _ (h.behind hal) h0 h1)
  have HB := Lib.hid hal
  obtain ⟨a, n, cap, rfl⟩ := h.shape
  clear hal h
  by_cases hx : l < (x.fb.length : Int)
  · rw [if_pos hx] at HS ⊢
    go_enter Tryz.func103, Tryz.ntmps103
    go_wp2_with fail
    refine HS.out.mono ?_
    rintro e w2 ⟨rfl, b2⟩
    have HB2 := Lib.hid (HB.out.trans (b2.mono HB.out.size))
    clear b2
    go_wp2
    go_ret
    exact ⟨rfl, HB2.out⟩
  · rw [if_neg hx] at HS ⊢
    have hnn : ¬ l - (x.fb.length : Int) < 0 := by omega
    have hnb : decide (l - (x.fb.length : Int) < 0) = false := by simpa using hnn
    go_enter Tryz.func103, Tryz.ntmps103
    go_wp2_with fail
    refine HS.out.mono ?_
    rintro e w2 ⟨rfl, b2⟩
    have HB2 := Lib.hid (HB.out.trans (b2.mono HB.out.size))
    clear b2
    go_wp2
    go_ret
    exact ⟨rfl, HB2.out⟩

theorem blk2r {X : World} {b : Nat} {u v : Value} {T : TypeId} (h : X.heap[b]? = some (.cells #[u, v] T (0, 0))) :
    X.cell? ⟨b, 0, none⟩ = some u ∧ X.cell? ⟨b, 1, none⟩ = some v ∧ X.frozen? ⟨b, 0, none⟩ = false ∧ X.frozen? ⟨b, 1, none⟩ = false ∧ b < X.heap.size :=
  ⟨blkc h rfl, blkc h rfl, frozen_of_row _ _ _ _ _ h, frozen_of_row _ _ _ _ _ h, (Array.getElem?_eq_some_iff.1 h).1⟩
theorem Odt.setO {w : World} {b j : Nat} {d : Dt} {v u : Value} {fp : List Nat} (h : Odt w d v fp) (hb : ∀ k ∈ fp, b < k) : Odt (w.setCell ⟨b, j, none⟩ u) d v fp :=
  h.kept fun k hk => heap_setCell_other w ⟨b, j, none⟩ k u (fun e => by have h1 := hb k hk; have e2 : k = b := e; omega)
set_option maxHeartbeats 1600000 in
theorem toRoute_any (u : Value) (r : Rou) (w : World) (h : Rw w u r.fb) (hl : r.fb.length ≤ 1048576) :
    Calls Tryz.prog 148 #[.agg #[.int .i64 r.st, u]] w (ToP (fun w' => RouO w' r) w) := by
  obtain ⟨a, n, cap, rfl⟩ := h.shape
  obtain ⟨b3, -, k2, k3, hz⟩ := three_boxes w #[.int .i64 r.st, .slice a n cap] #[.int .i64 0, .slice none 0 0] #[.int .i64 r.st, .slice none 0 0] 128 90 90
  have HB := Lib.hid b3
  have K2 := Lib.hid k2
  have K3 := Lib.hid k3
  have HZ := Lib.hid hz
  have HT := Lib.hid (toIntS_w _ r.fb _ (h.behind b3) hl)
  unfold ToP
  clear b3 k2 k3 hz h hl
  go_enter Tryz.func148, Tryz.ntmps148
  go_wp2_with fail
  refine HT.out.mono ?_
  rintro e w4 ⟨u4, rfl, o4, b4⟩
  obtain ⟨a5, c5, n5, -, rfl, -⟩ := o4.rd.opn
  obtain ⟨y0, y1, y2, y3, y4⟩ := blk2r (kept_o' K2.out b4)
  obtain ⟨z0, z1, z2, z3, z4⟩ := blk2r (kept_o' K3.out b4)
  have HB4 := Lib.hid (HB.out.trans (b4.mono HB.out.size))
  obtain ⟨fp, o1, o2, o3⟩ := o4.fp
  have HO4 := Lib.hid o1
  have HN4 := Lib.hid o2
  have HL4 := Lib.hid (show ∀ k ∈ fp, w.heap.size + 1 + 1 < k from fun k hk => by have := o3 k hk; have := HZ.out; omega)
  clear b4 o4 o1 o2 o3 K2 K3
  go_wp2
  exact bodyPost_ret (v := .agg #[.int .i64 r.st, .slice a5 n5 c5]) (by simp [results, Tryz.results148, go_sem, y0, y1, z0, z1]) rfl ⟨_, fp, rfl, ⟨_, rfl, ((HO4.out.setO (fun k hk => by have := HL4.out k hk; omega)).setO (fun k hk => by have := HL4.out k hk; omega)).setO (fun k hk => by have := HL4.out k hk; omega)⟩, HN4.out, fun k hk => by have := HL4.out k hk; omega, (((HB4.out.setCell (p := ⟨w.heap.size + 1 + 1, 1, none⟩) (by show w.heap.size ≤ w.heap.size + 1 + 1; omega) _).setCell (p := ⟨w.heap.size + 1, 0, none⟩) (Nat.le_succ _) _).setCell (p := ⟨w.heap.size + 1, 1, none⟩) (Nat.le_succ _) _)⟩
set_option maxHeartbeats 1600000 in
theorem toLight_any (u : Value) (x : Lgt) (w : World) (h : Rw w u x.fb) (hl : x.fb.length ≤ 1048576) :
    Calls Tryz.prog 108 #[.agg #[.int .i64 x.id, .int .i64 x.st, u, .int .i64 x.fi, .int .i64 x.ct]] w (ToP (fun w' => LgtO w' x) w) := by
  obtain ⟨a, n, cap, rfl⟩ := h.shape
  obtain ⟨b3, k1, k2, k3, hz⟩ := three_boxes w #[.int .i64 x.id, .int .i64 x.st, .slice a n cap, .int .i64 x.fi, .int .i64 x.ct] #[.int .i64 0, .int .i64 0, .slice none 0 0, .int .i64 0, .int .i64 0] #[.int .i64 x.id, .int .i64 0, .slice none 0 0, .int .i64 0, .int .i64 0] 131 94 94
  have HB := Lib.hid b3
  have K1 := Lib.hid k1
  have K2 := Lib.hid k2
  have K3 := Lib.hid k3
  have HZ := Lib.hid hz
  have HT := Lib.hid (toRoute_any _ ⟨x.st, x.fb⟩ _ (h.behind b3) hl)
  have HTB := Lib.hid (fun w => toBlock_any ⟨x.fi, x.ct⟩ w)
  unfold blkV at HTB
  unfold ToP at HT ⊢
  clear b3 k1 k2 k3 hz h hl
  go_enter Tryz.func108, Tryz.ntmps108
  go_wp2_with fail
  refine HT.out.mono ?_
  rintro e w4 ⟨u4, fp, rfl, ⟨u5, rfl, o1⟩, o2, o3, b4⟩
  obtain ⟨a5, c5, n5, -, rfl, -⟩ := (Rdt.toRd o1.rd).opn
  have m1 := kept_o' K1.out b4
  have x3 := blkc m1 (j := 3) (u := .int .i64 x.fi) rfl
  have x4 := blkc m1 (j := 4) (u := .int .i64 x.ct) rfl
  have M1 := Lib.hid m1
  have M2 := Lib.hid (kept_o' K2.out b4)
  have M3 := Lib.hid (kept_o' K3.out b4)
  have HB4 := Lib.hid (HB.out.trans (b4.mono HB.out.size))
  have HO4 := Lib.hid o1
  have HN4 := Lib.hid o2
  have HL4 := Lib.hid (show ∀ k ∈ fp, w.heap.size + 1 + 1 < k from fun k hk => by have := o3 k hk; have := HZ.out; omega)
  clear b4 o1 o2 o3 K1 K2 K3 m1
  go_wp2_with (((show wpList _ _ _ (⟨none, .store 90 _ _, _, _, _, _⟩ :: _) _ _); refine wpList_stx rfl 90 _ _ rfl (w.heap.size + 1 + 1) 1 [.int .i64 x.st, .slice a5 n5 c5] rfl rfl M3.out (by simp) (by kernel_rfl) (by simp [Value.oneCell']) ?_; intro w5 hs; have n1 := hs.keep (by omega) M1.out; have N2 := Lib.hid (hs.keep (by omega) M2.out); have N3 := Lib.hid hs.blk; have HB5 := Lib.hid (hs.below w.heap.size w (by omega) HB4.out); have HO5 := Lib.hid (hs.odt HO4.out (fun hk => by have := HL4.out _ hk; omega)); clear x3 x4; have x3 := blkc n1 (j := 3) (u := .int .i64 x.fi) rfl; have x4 := blkc n1 (j := 4) (u := .int .i64 x.ct) rfl; have N1 := Lib.hid n1; clear hs n1))
  go_wp2_with fail
  refine (HTB.out _).mono ?_
  rintro e w6 ⟨rfl, b6⟩
  have M2 := Lib.hid (kept_o' N2.out b6)
  have M3 := Lib.hid (kept_o' N3.out b6)
  have HB6 := Lib.hid (HB5.out.trans (b6.mono HB5.out.size))
  have HO6 := Lib.hid (HO5.out.behind b6)
  clear b6 x3 x4
  go_wp2_with (first
    | ((show wpList _ _ _ (⟨none, .store 92 _ _, _, _, _, _⟩ :: _) _ _); refine wpList_stx rfl 92 _ _ rfl (w.heap.size + 1 + 1) 3 [.int .i64 x.fi, .int .i64 x.ct] rfl rfl M3.out (by simp [putA]) (by kernel_rfl) (by simp [Value.oneCell']) ?_; intro w7 hs; have N2 := Lib.hid (hs.keep (by omega) M2.out); have N3 := Lib.hid hs.blk; have HB7 := Lib.hid (hs.below w.heap.size w (by omega) HB6.out); have HO7 := Lib.hid (hs.odt HO6.out (fun hk => by have := HL4.out _ hk; omega)); clear hs)
    | ((show wpList _ _ _ (⟨some _, .load 94 _, _, _, _, _⟩ :: _) _ _); refine wpList_ldx rfl 94 _ rfl (w.heap.size + 1 + 1) 0 rfl [.int .i64 x.id, .int .i64 x.st, .slice a5 n5 c5, .int .i64 x.fi, .int .i64 x.ct] N3.out rfl _ (by exact Tryz.underlying94) rfl (by kernel_rfl) ?_)
    | ((show wpList _ _ _ (⟨none, .store 94 _ _, _, _, _, _⟩ :: _) _ _); refine wpList_stx rfl 94 _ _ rfl (w.heap.size + 1) 0 [.int .i64 x.id, .int .i64 x.st, .slice a5 n5 c5, .int .i64 x.fi, .int .i64 x.ct] rfl rfl N2.out (by simp) (by kernel_rfl) (by simp [Value.oneCell']) ?_; intro w8 hs; have n2 := hs.blk; have HB8 := Lib.hid (hs.below w.heap.size w (by omega) HB7.out); have HO8 := Lib.hid (hs.odt HO7.out (fun hk => by have := HL4.out _ hk; omega)); clear hs; have r0 := blkc n2 (j := 0) (u := .int .i64 x.id) rfl; have r1 := blkc n2 (j := 1) (u := .int .i64 x.st) rfl; have r2 := blkc n2 (j := 2) (u := .slice a5 n5 c5) rfl; have r3 := blkc n2 (j := 3) (u := .int .i64 x.fi) rfl; have r4 := blkc n2 (j := 4) (u := .int .i64 x.ct) rfl))
  exact bodyPost_ret (v := .agg #[.int .i64 x.id, .int .i64 x.st, .slice a5 n5 c5, .int .i64 x.fi, .int .i64 x.ct]) (by simp [results, Tryz.results108, go_sem, r0, r1, r2, r3, r4]) rfl ⟨_, fp, rfl, ⟨_, rfl, HO8.out⟩, HN4.out, fun k hk => by have := HL4.out k hk; omega, HB8.out⟩
theorem eqRoute_same (u v : Value) (r : Rou) (w : World) (h1 : Rd w u r.fb) (h2 : Rd w v r.fb) :
    Calls Tryz.prog 151 #[.agg #[.int .i64 r.st, u], .agg #[.int .i64 r.st, v]] w fun e w' => e = .returned (.bool true) ∧ Below w.heap.size w w' := by
  obtain ⟨a1, c1, n1, -, rfl, -⟩ := h1.opn
  obtain ⟨a2, c2, n2, -, rfl, -⟩ := h2.opn
  have k1 := (Below.refl w.heap.size w).alloc (Nat.le_refl _) (.cells #[.int .i64 r.st, .slice a1 n1 c1] 90)
  have k2 := k1.alloc k1.size (.cells #[.int .i64 r.st, .slice a2 n2 c2] 90)
  have HE := Lib.hid (eqIntS_same _ _ r.fb _ (h1.belowAll k2) (h2.belowAll k2))
  have HB := Lib.hid k2
  have hne : (r.st != r.st) = false := by simp
  clear k1 k2 h1 h2
  go_enter Tryz.func151, Tryz.ntmps151
  go_wp2_with fail
  refine HE.out.mono ?_
  rintro e w2 ⟨rfl, b2⟩
  have HB2 := Lib.hid (HB.out.trans (b2.mono HB.out.size))
  clear b2
  go_wp2
  go_ret
  exact ⟨rfl, HB2.out⟩
theorem eqLight_same (u v : Value) (x : Lgt) (w : World) (h1 : Rd w u x.fb) (h2 : Rd w v x.fb) :
    Calls Tryz.prog 115 #[.agg #[.int .i64 x.id, .int .i64 x.st, u, .int .i64 x.fi, .int .i64 x.ct], .agg #[.int .i64 x.id, .int .i64 x.st, v, .int .i64 x.fi, .int .i64 x.ct]] w fun e w' => e = .returned (.bool true) ∧ Below w.heap.size w w' := by
  obtain ⟨a1, c1, n1, -, rfl, -⟩ := h1.opn
  obtain ⟨a2, c2, n2, -, rfl, -⟩ := h2.opn
  have k1 := (Below.refl w.heap.size w).alloc (Nat.le_refl _) (.cells #[.int .i64 x.id, .int .i64 x.st, .slice a1 n1 c1, .int .i64 x.fi, .int .i64 x.ct] 94)
  have k2 := k1.alloc k1.size (.cells #[.int .i64 x.id, .int .i64 x.st, .slice a2 n2 c2, .int .i64 x.fi, .int .i64 x.ct] 94)
  have HE := Lib.hid (eqRoute_same _ _ ⟨x.st, x.fb⟩ _ (h1.belowAll k2) (h2.belowAll k2))
  have HEB := Lib.hid (fun w => eqBlock_same ⟨x.fi, x.ct⟩ w)
  unfold blkV at HEB
  have HB := Lib.hid k2
  have hne : (x.id != x.id) = false := by simp
  clear k1 k2 h1 h2
  go_enter Tryz.func115, Tryz.ntmps115
  go_wp2_with fail
  refine HE.out.mono ?_
  rintro e w2 ⟨rfl, b2⟩
  obtain ⟨hc, hf⟩ := bcell b2
  have HB2 := Lib.hid (HB.out.trans (b2.mono HB.out.size))
  clear b2
  go_wp2_with fail
  refine (HEB.out _).mono ?_
  rintro e w3 ⟨rfl, b3⟩
  have HB3 := Lib.hid (HB2.out.trans (b3.mono HB2.out.size))
  clear b3 hc hf
  go_wp2
  go_ret
  exact ⟨rfl, HB3.out⟩
end Go.Proofs.YtmkkdenhjfjmgaaGreat
namespace Go.Proofs.YtmkkdenhjfjmgaaGreat
open Go.RowKit

/-- Own data whose blocks lie below lo. -/
def Ofl (w : World) (base lo : Nat) (d : Dt) (v : Value) : Prop := ∃ fp, Odt w d v fp ∧ fp.Nodup ∧ ∀ k ∈ fp, base ≤ k ∧ k < lo
theorem Ofr.ofl {wr w : World} {base : Nat} {d : Dt} {v : Value} (h : Ofr wr base d v) (hb : Below wr.heap.size wr w) : Ofl w base wr.heap.size d v := by
  obtain ⟨fp, h1, h2, h3⟩ := h
  exact ⟨fp, h1.behind hb, h2, fun k hk => ⟨h3 k hk, h1.lt k hk⟩⟩
theorem Ofl.ofr {w : World} {base lo : Nat} {d : Dt} {v : Value} (h : Ofl w base lo d v) : Ofr w base d v := by
  obtain ⟨fp, h1, h2, h3⟩ := h; exact ⟨fp, h1, h2, fun k hk => (h3 k hk).1⟩
theorem Ofl.below {w w' : World} {base lo : Nat} {d : Dt} {v : Value} (h : Ofl w base lo d v) (hb : Below w.heap.size w w') : Ofl w' base lo d v := by
  obtain ⟨fp, h1, h2, h3⟩ := h; exact ⟨fp, h1.behind hb, h2, h3⟩
theorem Ofl.put {w1 : World} {base lo size j : Nat} {ds : List Dt} {d : Dt} {v u : Value} (h : Ofl w1 base lo (.rows size ds) v) (hbb : base ≤ lo) (hu : Ofr w1 lo d u) (hj : j < ds.length) :
    ∃ g off n cap, v = .slice (some ⟨g, off, none⟩) n cap ∧ base ≤ g ∧ (∃ u0, w1.cell? ⟨g, off + j, none⟩ = some u0) ∧ w1.frozen? ⟨g, off + j, none⟩ = false ∧
      Ofr (w1.setCell ⟨g, off + j, none⟩ u) base (.rows size (ds.set j d)) v ∧ ((∃ x, d = .leaf x) → Ofl (w1.setCell ⟨g, off + j, none⟩ u) base lo (.rows size (ds.set j d)) v) ∧
      ∀ (lo' : Nat) (d' : Dt) (u' : Value), Ofr w1 lo d' u' → Ofr (w1.setCell ⟨g, off + j, none⟩ u) lo d' u' := by
  obtain ⟨fp, h1', h2, h3⟩ := h
  obtain ⟨f, k1, k2, k3⟩ := hu
  cases h1' with
  | nil size => simp at hj
  | @mk size n g off cap ds us fs cur T hl hus hf hn hc hg hcs ht hd =>
    obtain ⟨hgn, hfn⟩ := List.nodup_cons.1 h2
    have hg1 : g < lo := (h3 g (by simp)).2
    obtain ⟨q1, q2⟩ := flat_put (j := j) hfn (fun k hk => (h3 k (List.mem_cons_of_mem _ hk)).2) k2 k3
    have hgq : g ∉ (fs.set j f).flatten := fun e => by
      rcases q2 g e with e | e
      · exact hgn e
      · have := k3 g e; omega
    have hju : j < us.length := by omega
    have hset : ∀ k, k ≠ g → (w1.setCell ⟨g, off + j, none⟩ u).heap[k]? = w1.heap[k]? := fun k hk => heap_setCell_other w1 ⟨g, off + j, none⟩ k u hk
    have hodt : Odt (w1.setCell ⟨g, off + j, none⟩ u) (.rows size (ds.set j d)) (.slice (some ⟨g, off, none⟩) n cap) (g :: (fs.set j f).flatten) := by
      have hg' := heap_setCell_same w1 g (off + j) cur T u hg
      refine .mk (us := us.set j u) (by rw [List.length_set]; exact hl) (by rw [List.length_set, List.length_set]; exact hus) (by rw [List.length_set, List.length_set]; exact hf) hn hc hg' (by simpa using hcs) ?_ (fun i d2 u2 f2 e1 e2 e3 => ?_)
      · rw [Array.toList_setIfInBounds, List.drop_set, if_neg (by omega), Nat.add_sub_cancel_left, List.take_set, ht]
      · by_cases e : j = i
        · subst e
          rw [List.getElem?_set_self hj] at e1
          rw [List.getElem?_set_self hju] at e2
          rw [List.getElem?_set_self (by omega)] at e3
          cases e1; cases e2; cases e3
          exact k1.kept fun k hk => hset k (by have := k3 k hk; omega)
        · rw [List.getElem?_set_ne e] at e1 e2 e3
          exact (hd i d2 u2 f2 e1 e2 e3).kept fun k hk => hset k (fun e => hgn (by rw [← e]; exact List.mem_flatten.2 ⟨f2, List.mem_of_getElem? e3, hk⟩))
    refine ⟨g, off, n, cap, rfl, (h3 g (by simp)).1, ⟨_, row_cell hg ht (List.getElem?_eq_getElem hju) (by omega)⟩, frozen_of_row _ _ _ _ _ hg, ⟨_, hodt, List.nodup_cons.2 ⟨hgq, q1⟩, fun k hk => ?_⟩, fun ⟨x, hx⟩ => ⟨_, hodt, List.nodup_cons.2 ⟨hgq, q1⟩, fun k hk => ?_⟩, fun lo' d' u' ⟨f', m1, m2, m3⟩ => ⟨f', m1.kept fun k hk => hset k (by have := m3 k hk; omega), m2, m3⟩⟩
    · rcases List.mem_cons.1 hk with rfl | hk
      · exact (h3 k (by simp)).1
      · rcases q2 k hk with e | e
        · exact (h3 k (List.mem_cons_of_mem _ e)).1
        · have := k3 k e; omega
    · subst hx
      have hfe := k1.leaf_inv.2
      subst hfe
      rcases List.mem_cons.1 hk with rfl | hk
      · exact h3 k (by simp)
      · rcases q2 k hk with e | e
        · exact h3 k (List.mem_cons_of_mem _ e)
        · cases e
theorem Ofr.leaf (w : World) (lo : Nat) (x : Value) : Ofr w lo (.leaf x) x := ⟨[], .leaf x, List.nodup_nil, fun k hk => by cases hk⟩

variable {α : Type}
theorem rws_set1 {en : α → List Dt} {m : Nat} (hm : ∀ z, (en z).length = m) (hm0 : 0 < m) {zs : List α} {x y : α} {k r : Nat} {d : Dt} (hx : zs[k]? = some x) (hr : r < m) (hy : en y = (en x).set r d) :
    (zs.flatMap en).set (k * m + r) d = (zs.set k y).flatMap en := by
  have hk : k < zs.length := (List.getElem?_eq_some_iff.1 hx).1
  have hl := flat_length hm zs
  have hkm : k * m + r < zs.length * m := by
    have h1 : (k + 1) * m ≤ zs.length * m := Nat.mul_le_mul_right m hk
    rw [Nat.add_mul, Nat.one_mul] at h1
    omega
  apply List.ext_getElem?
  intro j
  obtain ⟨i, s, hs, rfl⟩ : ∃ i s, s < m ∧ j = i * m + s := ⟨j / m, j % m, Nat.mod_lt _ hm0, by rw [Nat.mul_comm]; exact (Nat.div_add_mod j m).symm⟩
  rw [flat_at hm _ _ _ hs, List.getElem?_set]
  by_cases e : k = i
  · subst e
    rw [List.getElem?_set_self hk, Option.bind_some, hy, List.getElem?_set]
    by_cases e2 : r = s
    · subst e2
      rw [if_pos rfl, if_pos (by omega), if_pos rfl, if_pos (by rw [hm]; exact hr)]
    · rw [if_neg (by omega), if_neg e2, flat_at hm _ _ _ hs, hx]; rfl
  · have hne : ¬ k * m + r = i * m + s := fun h => e (by
      have h1 : (k * m + r) / m = (i * m + s) / m := by rw [h]
      rw [Nat.add_comm (k * m), Nat.add_comm (i * m), Nat.add_mul_div_right _ _ hm0, Nat.add_mul_div_right _ _ hm0, Nat.div_eq_of_lt hr, Nat.div_eq_of_lt hs] at h1
      omega)
    rw [if_neg hne, List.getElem?_set_ne e, flat_at hm _ _ _ hs]
theorem rws_cellD {en : α → List Dt} {m : Nat} (hm : ∀ z, (en z).length = m) {zs : List α} {x : α} {k r : Nat} {d : Dt} (hx : zs[k]? = some x) (hr : r < m) (h0 : (en x)[r]? = some d) : (zs.flatMap en)[k * m + r]? = some d := by
  rw [flat_at hm _ _ _ hr, hx]; exact h0
/-- A leaf of an element stored over. -/
theorem Odt.rwsLeaf {en : α → List Dt} {m : Nat} (hm : ∀ z, (en z).length = m) (hm0 : 0 < m) {w : World} {zs : List α} {a : Option Addr} {n cap : Nat} {fp : List Nat} (h : Odt w (rws m en zs) (.slice a n cap) fp) (hn : fp.Nodup)
    {k : Nat} (r : Nat) (x y : α) (u0 u1 : Value) (hx : zs[k]? = some x) (hr : r < m) (h0 : (en x)[r]? = some (.leaf u0)) (hy : en y = (en x).set r (.leaf u1)) :
    ∃ g off, a = some ⟨g, off, none⟩ ∧ w.cell? ⟨g, off + k * m + r, none⟩ = some u0 ∧ w.frozen? ⟨g, off + k * m + r, none⟩ = false ∧
      Odt (w.setCell ⟨g, off + k * m + r, none⟩ u1) (rws m en (zs.set k y)) (.slice a n cap) fp ∧ Wr w (w.setCell ⟨g, off + k * m + r, none⟩ u1) fp := by
  obtain ⟨g, off, n', cap', e, h1, h2, -, h4, h5⟩ := h.store hn (rws_cellD hm hx hr h0) u1
  simp only [Value.slice.injEq] at e
  obtain ⟨rfl, rfl, rfl⟩ := e
  rw [rws_set1 hm hm0 hx hr hy] at h4
  have e : off + (k * m + r) = off + k * m + r := (Nat.add_assoc _ _ _).symm
  rw [e] at h1 h2 h4 h5
  exact ⟨g, off, rfl, h1, h2, h4, h5⟩
/-- A slice of an element, to be changed in its own blocks. -/
theorem Odt.rwsDeep {en : α → List Dt} {m : Nat} (hm : ∀ z, (en z).length = m) (hm0 : 0 < m) {w : World} {zs : List α} {a : Option Addr} {n cap : Nat} {fp : List Nat} (h : Odt w (rws m en zs) (.slice a n cap) fp) (hn : fp.Nodup)
    {k : Nat} (r : Nat) (x : α) (d : Dt) (hx : zs[k]? = some x) (hr : r < m) (h0 : (en x)[r]? = some d) :
    ∃ g off u f, a = some ⟨g, off, none⟩ ∧ w.cell? ⟨g, off + k * m + r, none⟩ = some u ∧ Odt w d u f ∧ (∀ k ∈ f, k ∈ fp) ∧ f.Nodup ∧
      ∀ (w' : World) (d' : Dt) (y : α), Odt w' d' u f → Wr w w' f → en y = (en x).set r d' → Odt w' (rws m en (zs.set k y)) (.slice a n cap) fp := by
  obtain ⟨g, off, n', cap', u, f, e, h1, h2, h3, h4, -, h6⟩ := Odt.deep (w' := w) (show Odt w (.rows m (zs.flatMap en)) _ fp from h) hn (rws_cellD hm hx hr h0)
  simp only [Value.slice.injEq] at e
  obtain ⟨rfl, rfl, rfl⟩ := e
  refine ⟨g, off, u, f, rfl, by rw [Nat.add_assoc]; exact h1, h2, h3, h4, fun w' d' y k1 k2 k3 => ?_⟩
  have := h6 w' d' k1 k2
  rw [rws_set1 hm hm0 hx hr k3] at this
  exact this
/-- One cell of an element of a row under construction stored. -/
theorem Ofl.rwsPut {en : α → List Dt} {m : Nat} (hm : ∀ z, (en z).length = m) (hm0 : 0 < m) {w1 : World} {base lo : Nat} {zs : List α} {a : Option Addr} {n cap : Nat} (h : Ofl w1 base lo (rws m en zs) (.slice a n cap)) (hbb : base ≤ lo)
    {k : Nat} (r : Nat) (x y : α) (d : Dt) (u : Value) (hu : Ofr w1 lo d u) (hx : zs[k]? = some x) (hr : r < m) (hy : en y = (en x).set r d) :
    ∃ g off, a = some ⟨g, off, none⟩ ∧ base ≤ g ∧ (∃ u0, w1.cell? ⟨g, off + k * m + r, none⟩ = some u0) ∧ w1.frozen? ⟨g, off + k * m + r, none⟩ = false ∧
      Ofr (w1.setCell ⟨g, off + k * m + r, none⟩ u) base (rws m en (zs.set k y)) (.slice a n cap) ∧ ((∃ x, d = .leaf x) → Ofl (w1.setCell ⟨g, off + k * m + r, none⟩ u) base lo (rws m en (zs.set k y)) (.slice a n cap)) ∧
      ∀ (d' : Dt) (u' : Value), Ofr w1 lo d' u' → Ofr (w1.setCell ⟨g, off + k * m + r, none⟩ u) lo d' u' := by
  have hk : k < zs.length := (List.getElem?_eq_some_iff.1 hx).1
  have hkm : k * m + r < zs.length * m := by
    have h1 : (k + 1) * m ≤ zs.length * m := Nat.mul_le_mul_right m hk
    rw [Nat.add_mul, Nat.one_mul] at h1
    omega
  obtain ⟨g, off, n', cap', e, h1, h2, h3, h4, h5, h6⟩ := Ofl.put (j := k * m + r) (d := d) (show Ofl w1 base lo (.rows m (zs.flatMap en)) _ from h) hbb hu (by rw [flat_length hm]; exact hkm)
  simp only [Value.slice.injEq] at e
  obtain ⟨rfl, rfl, rfl⟩ := e
  rw [rws_set1 hm hm0 hx hr hy] at h4 h5
  have e : off + (k * m + r) = off + k * m + r := (Nat.add_assoc _ _ _).symm
  rw [e] at h2 h3 h4 h5
  rw [e] at h6
  exact ⟨g, off, rfl, h1, h2, h3, h4, h5, fun d' u' q => h6 lo d' u' q⟩
theorem Ofr.whole {w : World} {base : Nat} {d : Dt} {v : Value} (h : Ofr w base d v) : Ofl w base w.heap.size d v := h.ofl (Below.refl _ _)
theorem set_get {zs : List α} {k : Nat} {y : α} (h : k < zs.length) : (zs.set k y)[k]? = some y := List.getElem?_set_self h
end Go.Proofs.YtmkkdenhjfjmgaaGreat
namespace Go.Proofs.YtmkkdenhjfjmgaaGreat
open Go.RowKit Go.Sort
set_option maxRecDepth 100000

theorem lgt_opnw {w : World} {v : Value} {zs : List Lgt} (h : Rwt w (rws 5 lgtD zs) v) : ∃ a n cap, v = .slice a n cap ∧ Hid (zs.length = n) ∧ n ≤ 9223372036854775807 ∧
    (0 < n → ∃ b off, a = some ⟨b, off, none⟩ ∧ b < w.heap.size ∧ ∀ i, i < n → ∃ u, w.cell? ⟨b, off + i * 5, none⟩ = some (.int .i64 (zs[i]?.getD nilL).id) ∧ w.cell? ⟨b, off + i * 5 + 1, none⟩ = some (.int .i64 (zs[i]?.getD nilL).st) ∧
      w.cell? ⟨b, off + i * 5 + 2, none⟩ = some u ∧ w.cell? ⟨b, off + i * 5 + 3, none⟩ = some (.int .i64 (zs[i]?.getD nilL).fi) ∧ w.cell? ⟨b, off + i * 5 + 4, none⟩ = some (.int .i64 (zs[i]?.getD nilL).ct) ∧ Rw w u (zs[i]?.getD nilL).fb) := by
  obtain ⟨a, n, cap, hv, HN, h2, h3⟩ := h.opn
  have hn : zs.length = n := by have := HN.out; rw [flat_length (show ∀ z, (lgtD z).length = 5 from fun _ => rfl)] at this; omega
  refine ⟨a, n, cap, hv, hn, h2, fun h0 => ?_⟩
  obtain ⟨b, off, ea, hb, hc⟩ := h3 h0
  refine ⟨b, off, ea, hb, fun i hi => ?_⟩
  have hlt : i < zs.length := by omega
  have e0 : zs[i]? = some (zs[i]?.getD nilL) := by rw [List.getElem?_eq_getElem hlt]; rfl
  have g := fun r (hr : r < 5) d hd => rws_cellD (r := r) (d := d) (show ∀ z, (lgtD z).length = 5 from fun _ => rfl) e0 hr hd
  obtain ⟨u0, k0, l0⟩ := hc (i * 5 + 0) _ (g 0 (by omega) _ rfl)
  obtain ⟨u1, k1, l1⟩ := hc (i * 5 + 1) _ (g 1 (by omega) _ rfl)
  obtain ⟨u2, k2, l2⟩ := hc (i * 5 + 2) _ (g 2 (by omega) _ rfl)
  obtain ⟨u3, k3, l3⟩ := hc (i * 5 + 3) _ (g 3 (by omega) _ rfl)
  obtain ⟨u4, k4, l4⟩ := hc (i * 5 + 4) _ (g 4 (by omega) _ rfl)
  refine ⟨u2, ?_, ?_, ?_, ?_, ?_, l2.ints⟩
  · rw [show off + i * 5 = off + (i * 5 + 0) by omega, k0, l0.leaf_inv]
  · rw [show off + i * 5 + 1 = off + (i * 5 + 1) by omega, k1, l1.leaf_inv]
  · rw [show off + i * 5 + 2 = off + (i * 5 + 2) by omega, k2]
  · rw [show off + i * 5 + 3 = off + (i * 5 + 3) by omega, k3, l3.leaf_inv]
  · rw [show off + i * 5 + 4 = off + (i * 5 + 4) by omega, k4, l4.leaf_inv]
def totL (zs : List Lgt) : Nat := (zs.map fun x => x.fb.length).sum
theorem totL_step {zs : List Lgt} {k : Nat} (h : k < zs.length) : totL (zs.take (k + 1)) = totL (zs.take k) + (zs[k]?.getD nilL).fb.length := by
  rw [totL, totL, List.take_add_one, List.map_append, List.sum_append, List.getElem?_eq_getElem h]; simp
theorem totL_le (zs : List Lgt) (k : Nat) : totL (zs.take k) ≤ totL zs := by
  rw [totL, totL]
  conv => rhs; rw [← List.take_append_drop k zs, List.map_append, List.sum_append]
  omega
theorem totL_mem (zs : List Lgt) (k : Nat) : (zs[k]?.getD nilL).fb.length ≤ totL zs := by
  by_cases h : k < zs.length
  · have h1 := totL_step h
    have h2 := totL_le zs (k + 1)
    omega
  · rw [List.getElem?_eq_none (by omega)]; exact Nat.zero_le _
set_option maxHeartbeats 1600000 in
theorem szLightS_any (v : Value) (zs : List Lgt) (l : Int) (w : World) (h : Rwt w (rws 5 lgtD zs) v) (h0 : 0 ≤ l) (h1 : l ≤ 1048576) :
    Calls Tryz.prog 57 #[v, .int .i64 l] w (SzQ (zs.length + totL zs) l w) := by
  obtain ⟨a, n, cap, rfl, HN, hn, ha⟩ := lgt_opnw h
  have HT := Lib.hid (fun k (h : k < zs.length) => @totL_step zs k h)
  have HTL := Lib.hid (totL_le zs)
  have HAL := Lib.hid (show totL (zs.take n) = totL zs by rw [List.take_of_length_le (Nat.le_of_eq HN.out)])
  have HA := Lib.hid ha
  unfold SzQ
  rw [HN.out]
  clear h ha
  by_cases hc : l - n < 0
  · have hb : decide (l - n < 0) = true := by simpa using hc
    go_enter Tryz.func57, Tryz.ntmps57
    go_wp2
    go_ret
    exact ⟨-1, rfl, Below.refl _ _, .inl ⟨rfl, by omega⟩⟩
  have hb : decide (l - n < 0) = false := by simpa using hc
  have hc' : (n : Int) ≤ 1048576 := by omega
  go_enter Tryz.func57, Tryz.ntmps57
  go_wp2
  go_loopw [1, 5] (fun x i wr => ∃ (k : Nat) (r : Int), k ≤ n ∧ i = .int .i64 k ∧ x = .int .i64 r ∧ 0 ≤ r ∧ r ≤ 1048576 ∧ Hid ((n : Int) + totL (zs.take k) + r = l) ∧ Hid (Below w.heap.size w wr)) (fun _ i _ => n - (intOf i).toNat)
  case atStart => exact ⟨0, l - n, by omega, rfl, rfl, by omega, by omega, by show (n : Int) + ((totL (zs.take 0) : Nat) : Int) + (l - n) = l; simp [totL]; omega, Below.refl _ _⟩
  case round =>
    obtain ⟨k, r, hk, rfl, rfl, g0, g1, HR, HB⟩ := hrel
    by_cases hlt : k < n
    · obtain ⟨b, off, rfl, hbs, hcs⟩ := HA.out (by omega)
      obtain ⟨u, p0, p1, p2, p3, p4, hru⟩ := hcs k hlt
      have hltI : (k : Int) < (n : Int) := by omega
      have hlb : decide ((k : Int) < (n : Int)) = true := by simpa using hltI
      have d0 := (HB.out.cell (p := ⟨b, off + k * 5, none⟩) hbs).trans p0
      have d1 := (HB.out.cell (p := ⟨b, off + k * 5 + 1, none⟩) hbs).trans p1
      have d2 := (HB.out.cell (p := ⟨b, off + k * 5 + 2, none⟩) hbs).trans p2
      have d3 := (HB.out.cell (p := ⟨b, off + k * 5 + 3, none⟩) hbs).trans p3
      have d4 := (HB.out.cell (p := ⟨b, off + k * 5 + 4, none⟩) hbs).trans p4
      have HS := Lib.hid (szLight_any u (zs[k]?.getD nilL) r wr (hru.behind HB.out) g0 g1)
      have HTK := Lib.hid (HT.out k (show k < zs.length by rw [HN.out]; exact hlt))
      have HTK1 := Lib.hid (HTL.out (k + 1))
      have hz := HB.out.size
      obtain ⟨a2, n2, c2, rfl⟩ := hru.shape
      clear hcs hru p0 p1 p2 p3 p4
      generalize zs[k]?.getD nilL = f at *
      by_cases hx : r < (f.fb.length : Int)
      · rw [if_pos hx] at HS
        go_wp2_with fail
        refine HS.out.mono ?_
        rintro e w2 ⟨rfl, b2⟩
        have HB2 := Lib.hid (HB.out.trans (b2.mono hz))
        clear b2
        go_wp2
        go_ret
        exact ⟨-1, rfl, HB2.out, .inl ⟨rfl, by have := HR.out; have := HTK.out; have := HTK1.out; omega⟩⟩
      · rw [if_neg hx] at HS
        have hnn : ¬ r - (f.fb.length : Int) < 0 := by omega
        have hnb : decide (r - (f.fb.length : Int) < 0) = false := by simpa using hnn
        go_wp2_with fail
        refine HS.out.mono ?_
        rintro e w2 ⟨rfl, b2⟩
        have HB2 := Lib.hid (HB.out.trans (b2.mono hz))
        clear b2
        go_wp2
        go_roundw
        case rel => exact ⟨k + 1, r - f.fb.length, by omega, by go_num, rfl, by omega, by omega, by show (n : Int) + ((totL (zs.take (k + 1)) : Nat) : Int) + (r - f.fb.length) = l; have := HR.out; rw [HTK.out]; omega, HB2.out⟩
        case measure => simp [intOf]; omega
    · obtain rfl : k = n := by omega
      go_wp2
      go_ret
      exact ⟨r, rfl, HB.out, .inr ⟨by have := HR.out; rw [HAL.out] at this; omega, g0⟩⟩
theorem Tryz.infoLight : (Tryz.prog.info? 94).map (fun i => (i.zero, i.size, i.bytes)) = some (some (.agg #[.int .i64 0, .int .i64 0, .slice none 0 0, .int .i64 0, .int .i64 0]), 5, 56) := by kernel_rfl
theorem made_lights {w1 : World} {base n g : Nat} (h : w1.ownsRow base 94 5 (.slice (some ⟨g, 0, none⟩) n n) n (madeCells (Value.agg #[.int .i64 0, .int .i64 0, .slice none 0 0, .int .i64 0, .int .i64 0]).cells (n * 5)).toList) : Ofr w1 base (rws 5 lgtD (List.replicate n nilL)) (.slice (some ⟨g, 0, none⟩) n n) := by
  have hm : ∀ z, (lgtD z).length = 5 := fun _ => rfl
  refine Grw.ofr (T := 94) (n := n) ⟨_, List.replicate (n * 5) [], h, by rw [flat_length hm]; simp [madeCells], by rw [flat_length hm]; simp, fun j d u f e1 e2 e3 => ?_, by simp, by simp, by simp⟩
  have hj : j < n * 5 := by have := (List.getElem?_eq_some_iff.1 e3).1; simpa using this
  obtain ⟨k, r, hr, rfl⟩ : ∃ k r, r < 5 ∧ j = k * 5 + r := ⟨j / 5, j % 5, Nat.mod_lt _ (by omega), by omega⟩
  rw [flat_at hm _ _ _ hr] at e1
  have hz : (Value.agg #[.int .i64 0, .int .i64 0, .slice none 0 0, .int .i64 0, .int .i64 0]).cells = #[.int .i64 0, .int .i64 0, .slice none 0 0, .int .i64 0, .int .i64 0] := rfl
  rw [hz] at e2
  have hk : k < n := by omega
  have hm5 : (k * 5 + r) % 5 = r := by omega
  simp [hj, hk] at e1 e3
  simp [madeCells, hj, hm5] at e2
  subst e3
  match r, hr with
  | 0, _ => simp [lgtD, nilL] at e1; subst e1; subst e2; exact .leaf _
  | 1, _ => simp [lgtD, nilL] at e1; subst e1; subst e2; exact .leaf _
  | 2, _ => simp [lgtD, nilL] at e1; subst e1; subst e2; exact .nil 1
  | 3, _ => simp [lgtD, nilL] at e1; subst e1; subst e2; exact .leaf _
  | 4, _ => simp [lgtD, nilL] at e1; subst e1; subst e2; exact .leaf _
/-- A light stored over an element. -/
theorem put_light {w1 : World} {base lo k n cap : Nat} {a : Option Addr} {D : List Lgt} {x : Lgt} {u : Value} (h : Ofl w1 base lo (rws 5 lgtD D) (.slice a n cap)) (hbb : base ≤ lo) (hlo : lo ≤ w1.heap.size) (hu : Ofr w1 lo (inD x.fb) u) (hk : k < D.length) :
    ∃ g off, a = some ⟨g, off, none⟩ ∧ base ≤ g ∧ (∀ r, r < 5 → ∃ u0, w1.cell? ⟨g, off + k * 5 + r, none⟩ = some u0) ∧ (∀ j, w1.frozen? ⟨g, j, none⟩ = false) ∧
      Ofr (((((w1.setCell ⟨g, off + k * 5, none⟩ (.int .i64 x.id)).setCell ⟨g, off + k * 5 + 1, none⟩ (.int .i64 x.st)).setCell ⟨g, off + k * 5 + 2, none⟩ u).setCell ⟨g, off + k * 5 + 3, none⟩ (.int .i64 x.fi)).setCell ⟨g, off + k * 5 + 4, none⟩ (.int .i64 x.ct)) base (rws 5 lgtD (D.set k x)) (.slice a n cap) := by
  have hm : ∀ z, (lgtD z).length = 5 := fun _ => rfl
  obtain ⟨y, hy⟩ : ∃ y, D[k]? = some y := ⟨_, List.getElem?_eq_getElem hk⟩
  have h0 := h
  obtain ⟨g, off, rfl, hg, c0, f0, -, o1, t1⟩ := h.rwsPut hm (by omega) hbb 0 y ⟨x.id, y.st, y.fb, y.fi, y.ct⟩ (.leaf (.int .i64 x.id)) _ (Ofr.leaf w1 lo _) hy (by omega) rfl
  have o1 := o1 ⟨_, rfl⟩
  have u1 := t1 _ _ hu
  obtain ⟨g2, off2, ev, -, -, -, -, o2, t2⟩ := o1.rwsPut hm (by omega) hbb 1 ⟨x.id, y.st, y.fb, y.fi, y.ct⟩ ⟨x.id, x.st, y.fb, y.fi, y.ct⟩ (.leaf (.int .i64 x.st)) _ (Ofr.leaf _ lo _) (set_get hk) (by omega) rfl
  simp only [Option.some.injEq, Addr.mk.injEq, and_true] at ev
  obtain ⟨rfl, rfl⟩ := ev
  have o2 := o2 ⟨_, rfl⟩
  have u2 := t2 _ _ u1
  rw [List.set_set] at o2
  obtain ⟨g2, off2, ev, -, -, -, o3, -, -⟩ := o2.rwsPut hm (by omega) hbb 2 ⟨x.id, x.st, y.fb, y.fi, y.ct⟩ ⟨x.id, x.st, x.fb, y.fi, y.ct⟩ (inD x.fb) _ u2 (set_get hk) (by omega) rfl
  simp only [Option.some.injEq, Addr.mk.injEq, and_true] at ev
  obtain ⟨rfl, rfl⟩ := ev
  rw [List.set_set] at o3
  obtain ⟨g2, off2, ev, -, -, -, o4, -, -⟩ := o3.whole.rwsPut hm (by omega) (by simp; omega) 3 ⟨x.id, x.st, x.fb, y.fi, y.ct⟩ ⟨x.id, x.st, x.fb, x.fi, y.ct⟩ (.leaf (.int .i64 x.fi)) _ (Ofr.leaf _ _ _) (set_get hk) (by omega) rfl
  simp only [Option.some.injEq, Addr.mk.injEq, and_true] at ev
  obtain ⟨rfl, rfl⟩ := ev
  rw [List.set_set] at o4
  obtain ⟨g2, off2, ev, -, -, -, o5, -, -⟩ := o4.whole.rwsPut hm (by omega) (by simp; omega) 4 ⟨x.id, x.st, x.fb, x.fi, y.ct⟩ x (.leaf (.int .i64 x.ct)) _ (Ofr.leaf _ _ _) (set_get hk) (by omega) rfl
  simp only [Option.some.injEq, Addr.mk.injEq, and_true] at ev
  obtain ⟨rfl, rfl⟩ := ev
  rw [List.set_set] at o5
  refine ⟨g, off, rfl, hg, fun r hr => ?_, fun j => ?_, o5⟩
  · obtain ⟨fp, q, _⟩ := h0
    have hq : Rdt w1 (rws 5 lgtD D) (.slice (some ⟨g, off, none⟩) n cap) := q.rd
    obtain ⟨a', n', cap', e, HN, -, -, hc⟩ := hq.opn
    simp only [Value.slice.injEq] at e
    obtain ⟨rfl, rfl, rfl⟩ := e
    have hl := HN.out
    rw [flat_length hm] at hl
    obtain ⟨b, o, e, _, hc⟩ := hc (by omega)
    simp only [Option.some.injEq, Addr.mk.injEq, and_true] at e
    obtain ⟨rfl, rfl⟩ := e
    have hr5 : r < (lgtD y).length := by rw [hm]; exact hr
    obtain ⟨u0, k1, _⟩ := hc (k * 5 + r) _ (rws_cellD hm hy hr (List.getElem?_eq_getElem hr5))
    exact ⟨u0, by rw [Nat.add_assoc]; exact k1⟩
  · obtain ⟨fp, q, _⟩ := h0
    have q' : Odt w1 (.rows 5 (D.flatMap lgtD)) (.slice (some ⟨g, off, none⟩) n cap) fp := q
    generalize D.flatMap lgtD = ds at q'
    cases q' with
    | mk hl hu hf hn hc hgg hcs ht hd => exact frozen_of_row _ _ _ _ _ hgg
set_option maxHeartbeats 1600000 in
theorem toLightS_any (v : Value) (zs : List Lgt) (w : World) (h : Rwt w (rws 5 lgtD zs) v) (hr : zs.length ≤ 1048576) (hl : ∀ i : Nat, (zs[i]?.getD nilL).fb.length ≤ 1048576) :
    Calls Tryz.prog 62 #[v] w fun e w' => ∃ v', e = .returned v' ∧ Ofr w' w.heap.size (rws 5 lgtD zs) v' ∧ Below w.heap.size w w' := by
  obtain ⟨i0, hi, hz0, hz1, hz2⟩ := info_parts Tryz.infoLight
  obtain ⟨a, n, cap, rfl, HN, hn, ha⟩ := lgt_opnw h
  have HL := Lib.hid hl
  have HA := Lib.hid ha
  have HLN := Lib.hid (fun k hk => fillG_len nilL zs n k HN.out hk)
  have HST := Lib.hid (fun k hk => fillG_step nilL zs n k HN.out hk)
  have HAL := Lib.hid (fillG_all nilL zs n HN.out)
  rw [HN.out] at hr
  clear hl h ha
  go_enter Tryz.func62, Tryz.ntmps62
  go_wp2_with (refine wpList_make_full _ rfl _ _ 36 rfl w.heap.size 94 i0 (.agg #[.int .i64 0, .int .i64 0, .slice none 0 0, .int .i64 0, .int .i64 0]) 5 Tryz.underlying36 hi hz0 hz1 _ _ _ _ n rfl rfl rfl rfl (by rw [hz2]; omega) (by unfold maxLen; omega) (Nat.le_refl _) ?_; intro w1 hown1 hgrow1)
  have HO1 := Lib.hid (show Ofr w1 w.heap.size (rws 5 lgtD (fillG nilL zs n 0)) (.slice (some ⟨w.heap.size, 0, none⟩) n n) from by
    rw [fillG_zero]
    exact made_lights hown1)
  have HB1 := Lib.hid (show Below w.heap.size w w1 from (Below.refl _ _).grown hgrow1 (Nat.le_refl _) (by simp))
  clear hown1 hgrow1
  go_loopw [4] (fun i wr => ∃ k : Nat, k ≤ n ∧ i = .int .i64 k ∧ Hid (Ofr wr w.heap.size (rws 5 lgtD (fillG nilL zs n k)) (.slice (some ⟨w.heap.size, 0, none⟩) n n)) ∧ Hid (Below w.heap.size w wr)) (fun i _ => n - (intOf i).toNat)
  case atStart => exact ⟨0, by omega, rfl, HO1.out, HB1.out⟩
  case round =>
    obtain ⟨k, hk, rfl, HO, HB⟩ := hrel
    by_cases hlt : k < n
    · obtain ⟨b, off, rfl, hbs, hcs⟩ := HA.out (by omega)
      obtain ⟨u, p0, p1, p2, p3, p4, hru⟩ := hcs k hlt
      have hltI : (k : Int) < (n : Int) := by omega
      have d0 := (HB.out.cell (p := ⟨b, off + k * 5, none⟩) hbs).trans p0
      have d1 := (HB.out.cell (p := ⟨b, off + k * 5 + 1, none⟩) hbs).trans p1
      have d2 := (HB.out.cell (p := ⟨b, off + k * 5 + 2, none⟩) hbs).trans p2
      have d3 := (HB.out.cell (p := ⟨b, off + k * 5 + 3, none⟩) hbs).trans p3
      have d4 := (HB.out.cell (p := ⟨b, off + k * 5 + 4, none⟩) hbs).trans p4
      have HS := Lib.hid (toLight_any u (zs[k]?.getD nilL) wr (hru.behind HB.out) (HL.out k))
      have HSK := Lib.hid (HST.out k hlt)
      have HNK := Lib.hid (show k < (fillG nilL zs n k).length by rw [HLN.out k (by omega)]; exact hlt)
      obtain ⟨a2, n2, c2, rfl⟩ := hru.shape
      unfold ToP at HS
      clear hcs hru p0 p1 p2 p3 p4 HO1 HB1
      generalize zs[k]?.getD nilL = f at *
      go_wp2_with fail
      refine HS.out.mono ?_
      rintro e w2 ⟨v2, fp, rfl, ⟨u2, rfl, o2⟩, n2, g2, b2⟩
      obtain ⟨a5, c5, n5, -, rfl, -⟩ := (Rdt.toRd o2.rd).opn
      obtain ⟨g, o, ev, hg1, hcc, hfz, hof⟩ := put_light (x := f) (HO.out.ofl b2) HB.out.size b2.size ⟨fp, o2, n2, g2⟩ HNK.out
      simp only [Option.some.injEq, Addr.mk.injEq, and_true] at ev
      obtain ⟨rfl, rfl⟩ := ev
      rw [HSK.out] at hof
      obtain ⟨q0, c0⟩ := hcc 0 (by omega)
      obtain ⟨q1, c1⟩ := hcc 1 (by omega)
      obtain ⟨q2, c2'⟩ := hcc 2 (by omega)
      obtain ⟨q3, c3⟩ := hcc 3 (by omega)
      obtain ⟨q4, c4⟩ := hcc 4 (by omega)
      rw [Nat.zero_add] at c0 c1 c2' c3 c4 hof
      rw [Nat.add_zero] at c0
      have f0 := hfz (k * 5)
      have f1 := hfz (k * 5 + 1)
      have f2 := hfz (k * 5 + 2)
      have f3 := hfz (k * 5 + 3)
      have f4 := hfz (k * 5 + 4)
      have HOF := Lib.hid hof
      have HB2 := Lib.hid (HB.out.trans (b2.mono HB.out.size))
      clear hof o2 b2 hfz hcc n2 g2
      go_wp2
      go_roundw
      case rel => exact ⟨k + 1, by omega, by go_num, HOF.out, ((((HB2.out.setCell (p := ⟨w.heap.size, k * 5, none⟩) (Nat.le_refl _) _).setCell (p := ⟨w.heap.size, k * 5 + 1, none⟩) (Nat.le_refl _) _).setCell (p := ⟨w.heap.size, k * 5 + 2, none⟩) (Nat.le_refl _) _).setCell (p := ⟨w.heap.size, k * 5 + 3, none⟩) (Nat.le_refl _) _).setCell (p := ⟨w.heap.size, k * 5 + 4, none⟩) (Nat.le_refl _) _⟩
      case measure => simp [intOf]; omega
    · obtain rfl : k = n := by omega
      have hof := HO.out
      rw [HAL.out] at hof
      have HOF := Lib.hid hof
      go_wp2
      go_ret
      exact ⟨_, rfl, HOF.out, HB.out⟩
set_option maxHeartbeats 1600000 in
theorem eqLightS_same (va vb : Value) (zs : List Lgt) (w : World) (ha : Rdt w (rws 5 lgtD zs) va) (hb : Rdt w (rws 5 lgtD zs) vb) :
    Calls Tryz.prog 67 #[va, vb] w fun e w' => e = .returned (.bool true) ∧ Below w.heap.size w w' := by
  obtain ⟨a, n, ca, rfl, HN, _, hn, HA⟩ := lgt_opn ha
  obtain ⟨b, m, cb, rfl, HM, _, _, HBB⟩ := lgt_opn hb
  obtain rfl : n = m := HN.out.symm.trans HM.out
  have HA := Lib.hid HA
  have HBB := Lib.hid HBB
  clear HM ha hb
  have hne : ((n : Int) != (n : Int)) = false := by simp
  go_enter Tryz.func67, Tryz.ntmps67
  go_wp2
  go_loopw [5] (fun i wr => ∃ k : Nat, k ≤ n ∧ i = .int .i64 k ∧ Hid (Below w.heap.size w wr)) (fun i _ => n - (intOf i).toNat)
  case atStart => exact ⟨0, by omega, rfl, Below.refl _ _⟩
  case round =>
    obtain ⟨k, hk, rfl, HB⟩ := hrel
    by_cases hlt : k < n
    · obtain ⟨g1, o1, rfl, hg1, hc1⟩ := HA.out (by omega)
      obtain ⟨g2, o2, rfl, hg2, hc2⟩ := HBB.out (by omega)
      have hltI : (k : Int) < (n : Int) := by omega
      obtain ⟨u1, p0, p1, p2, p3, p4, hu1⟩ := hc1 k hlt
      obtain ⟨u2, t0, t1, t2, t3, t4, hu2⟩ := hc2 k hlt
      have j0 := rg ((HB.out.cell (p := ⟨g1, o1 + k * 5, none⟩) hg1).trans p0)
      have j1 := rg ((HB.out.cell (p := ⟨g1, o1 + k * 5 + 1, none⟩) hg1).trans p1)
      have j2 := rg ((HB.out.cell (p := ⟨g1, o1 + k * 5 + 2, none⟩) hg1).trans p2)
      have j3 := rg ((HB.out.cell (p := ⟨g1, o1 + k * 5 + 3, none⟩) hg1).trans p3)
      have j4 := rg ((HB.out.cell (p := ⟨g1, o1 + k * 5 + 4, none⟩) hg1).trans p4)
      have i0 := rg ((HB.out.cell (p := ⟨g2, o2 + k * 5, none⟩) hg2).trans t0)
      have i1 := rg ((HB.out.cell (p := ⟨g2, o2 + k * 5 + 1, none⟩) hg2).trans t1)
      have i2 := rg ((HB.out.cell (p := ⟨g2, o2 + k * 5 + 2, none⟩) hg2).trans t2)
      have i3 := rg ((HB.out.cell (p := ⟨g2, o2 + k * 5 + 3, none⟩) hg2).trans t3)
      have i4 := rg ((HB.out.cell (p := ⟨g2, o2 + k * 5 + 4, none⟩) hg2).trans t4)
      have HE := Lib.hid (fun w' (hb : Below wr.heap.size wr w') => eqLight_same u1 u2 (zs[k]?.getD nilL) w' ((hu1.belowAll HB.out).belowAll hb) ((hu2.belowAll HB.out).belowAll hb))
      obtain ⟨a5, c5, n5, -, rfl, -⟩ := hu1.opn
      obtain ⟨a6, c6, n6, -, rfl, -⟩ := hu2.opn
      clear hc1 hc2 p0 p1 p2 p3 p4 t0 t1 t2 t3 t4 hu1 hu2
      generalize zs[k]?.getD nilL = x at *
      go_wp2
      refine wp_region_quiet_below (by kernel_rfl) (by kernel_rfl) ?_
      repeat (go_big_quiet_step (first | (go_at_call 115; exact Calls.regrown_of (HE.out _ (below_regrown _ _ _)))))
      refine wpQuiet_nil ?_
      rintro _ ⟨⟨dq, osq⟩, rfl⟩
      have HBQ := Lib.hid (HB.out.trans ((below_regrown wr dq osq).mono HB.out.size))
      go_wp2
      go_roundw
      case rel => exact ⟨k + 1, by omega, by go_num, HBQ.out⟩
      case measure => simp [intOf]; omega
    · obtain rfl : k = n := by omega
      go_wp2
      go_ret
      exact ⟨rfl, HB.out⟩
end Go.Proofs.YtmkkdenhjfjmgaaGreat
