/- Joined: XLpa XOfl XSrtP XSrtW XCom XBlk XMsk XUse. -/
import Derived.Test.YtonpcgdnfclidaaGreatDoorBh04
import Derived.Test.YtonpcgdnfclidaaGreatDoorBh05
import Derived.Test.YtonpcgdnfclidaaGreatDoorBh01
import Derived.Lib.SlicesCompact
import Derived.Sort.OwnSortedInts
import Derived.Test.YtonpcgdnfclidaaGreatDoorShelf
import Derived.Lib.QuietBelow
namespace Go.Proofs.YtonpcgdnfclidaaGreatDoor
open Go.RowKit Go.Sort
set_option maxRecDepth 100000

theorem szIntS_w (v : Value) (xs : List Int) (l : Int) (w : World) (h : Rw w v xs) (h0 : 0 ≤ l) (h1 : l ≤ 1048576) :
    Calls Tryz.prog 137 #[v, .int .i64 l] w fun e w' => e = .returned (.int .i64 (if l < xs.length then -1 else l - xs.length)) ∧ w' = w := by
  obtain ⟨a, cap, n, HX, rfl, hla, _⟩ := h
  rw [HX.out]
  by_cases hc : l - n < 0
  · have hb : decide (l - n < 0) = true := by simpa using hc
    have e : (if l < (n : Int) then (-1 : Int) else l - n) = -1 := if_pos (by omega)
    rw [e]
    go_enter Tryz.func137, Tryz.ntmps137
    go_wp2
    go_ret
    exact ⟨rfl, rfl⟩
  · have hb : decide (l - n < 0) = false := by simpa using hc
    have e : (if l < (n : Int) then (-1 : Int) else l - n) = l - n := if_neg (by omega)
    rw [e]
    go_enter Tryz.func137, Tryz.ntmps137
    go_wp2
    go_ret
    exact ⟨rfl, rfl⟩
set_option maxHeartbeats 800000 in
theorem toIntS_w (v : Value) (zs : List Int) (w : World) (h : Rw w v zs) (hr : zs.length ≤ 1048576) :
    Calls Tryz.prog 143 #[v] w fun e w' => ∃ v', e = .returned v' ∧ Own w' w.heap.size v' zs ∧ Below w.heap.size w w' := by
  obtain ⟨i0, hi, hz0, hz1, hz2⟩ := info_parts Tryz.infoI
  obtain ⟨a, cap, len, HX, rfl, hla, ha⟩ := h
  rw [HX.out] at hr
  go_enter Tryz.func143, Tryz.ntmps143
  go_wp2_with (refine wpList_make_full _ rfl _ _ 92 rfl w.heap.size 3 i0 (.int .i64 0) 1 Tryz.underlying92 hi hz0 hz1 _ _ _ _ len rfl rfl rfl rfl (by rw [hz2]; omega) (by unfold maxLen; omega) (Nat.le_refl _) ?_; intro w1 hown1 hgrow1)
  have hown2 : Own w1 w.heap.size (.slice (some ⟨w.heap.size, 0, none⟩) len len) (zs.take 0 ++ List.replicate (len - 0) 0) := by
    refine own_of_row (n := len) ?_
    have e : (madeCells (Value.int .i64 0).cells (len * 1)).toList = ints (zs.take 0 ++ List.replicate (len - 0) 0) := by
      rw [Nat.mul_one]
      have := toList_madeCells_one (.int .i64 0) len
      simpa [ints, Value.cells] using this
    rw [← e]; exact hown1
  have hb1 : Below w.heap.size w w1 := (Below.refl _ _).grown hgrow1 (Nat.le_refl _) (by simp)
  clear hown1 hgrow1
  have hsz : w.heap.size < w1.heap.size := (hown2.lt w.heap.size rfl).2
  go_loopw [4] (fun i wr => ∃ k : Nat, k ≤ len ∧ i = .int .i64 k ∧ Own wr w.heap.size (.slice (some ⟨w.heap.size, 0, none⟩) len len) (zs.take k ++ List.replicate (len - k) 0) ∧ Below w.heap.size w wr) (fun i _ => len - (intOf i).toNat)
  case atStart => exact ⟨0, by omega, rfl, hown2, hb1⟩
  case round =>
    obtain ⟨k, hk, rfl, hown, hbel⟩ := hrel
    by_cases hlt : k < len
    · obtain ⟨b, off, rfl, hbs, hc⟩ := ha (show 0 < len by omega)
      have hck : wr.cell? ⟨b, off + k, none⟩ = some (.int .i64 ((zs[k]?.getD 0))) := (hbel.cell (p := ⟨b, off + k, none⟩) hbs).trans (hc k hlt)
      have hlen : (zs.take k ++ List.replicate (len - k) 0).length = len := by have := HX.out; simp; omega
      have hcell := (hown.cellAt rfl).2 k (by omega)
      have hfr := hown.frozenAt rfl k
      have hst := hown.stored rfl k (by omega) ((zs[k]?.getD 0))
      rw [set_rep zs len k (by have := HX.out; omega) hlt] at hst
      rw [Nat.zero_add] at hcell hst
      have HS := Lib.hid hst
      have HB := Lib.hid hbel
      have HO := Lib.hid hown
      clear hst hown hlen hbel
      go_wp2
      go_roundw
      case rel => exact ⟨k + 1, by omega, by go_num, HS.out.1, HB.out.grown HS.out.2 (by have := HB.out.size; omega) (by simp)⟩
      case measure => simp [intOf]; omega
    · obtain rfl : k = len := by omega
      have hz : zs.take k ++ List.replicate (k - k) 0 = zs := by rw [Nat.sub_self, List.replicate_zero, List.append_nil, ← HX.out, List.take_length]
      go_wp2
      go_ret
      exact ⟨_, rfl, by rw [hz] at hown; exact hown, hbel⟩

structure Blk where
  f : Int
  c : Int
def blkV (z : Blk) : Value := .agg #[.int .i64 z.f, .int .i64 z.c]
theorem toBlock_any (z : Blk) (w : World) :
    Calls Tryz.prog 118 #[blkV z] w fun e w' => e = .returned (blkV z) ∧ Below w.heap.size w w' := by
  unfold blkV
  go_enter Tryz.func118, Tryz.ntmps118
  go_wp2
  exact bodyPost_ret (v := .agg #[.int .i64 z.f, .int .i64 z.c]) (by simp [results, Tryz.results118, go_sem]) rfl ⟨rfl, (((Below.refl _ _).alloc (Nat.le_refl _) _).alloc (by simp) _).alloc (by simp; omega) _⟩
theorem eqBlock_same (z : Blk) (w : World) :
    Calls Tryz.prog 130 #[blkV z, blkV z] w fun e w' => e = .returned (.bool true) ∧ Below w.heap.size w w' := by
  have n0 : (z.f != z.f) = false := by simp
  have n1 : (z.c != z.c) = false := by simp
  have HB := Lib.hid (((Below.refl w.heap.size w).alloc (Nat.le_refl _) (.cells #[.int .i64 z.f, .int .i64 z.c] 96)).alloc (by simp) (.cells #[.int .i64 z.f, .int .i64 z.c] 96))
  unfold blkV
  go_enter Tryz.func130, Tryz.ntmps130
  go_wp2
  go_ret
  exact ⟨rfl, HB.out⟩

def RouO (w : World) (r : Rou) (v : Value) (fp : List Nat) : Prop := ∃ u, v = .agg #[.int .i64 r.st, u] ∧ Odt w (inD r.fb) u fp
def LgtO (w : World) (x : Lgt) (v : Value) (fp : List Nat) : Prop := ∃ u, v = .agg #[.int .i64 x.id, .int .i64 x.st, u, .int .i64 x.fi, .int .i64 x.ct] ∧ Odt w (inD x.fb) u fp
theorem Own.fp {w : World} {base : Nat} {v : Value} {xs : List Int} (h : Own w base v xs) : ∃ fp, Odt w (inD xs) v fp ∧ fp.Nodup ∧ ∀ k ∈ fp, base ≤ k := by
  obtain ⟨fp, h1, h2, h3⟩ := h.tree
  exact ⟨fp, h1, h2, fun k hk => (h.lt k (h3 k hk)).1⟩
theorem Rw.shape {w : World} {v : Value} {xs : List Int} (h : Rw w v xs) : ∃ a n cap, v = .slice a n cap := by
  obtain ⟨a, cap, n, _, rfl, _⟩ := h; exact ⟨a, n, cap, rfl⟩
/-- Three blocks of a copying function: the argument's box, the result, the local. -/
theorem three_boxes (w : World) (a b c : Array Value) (S T U : TypeId) :
    Below w.heap.size w (((w.alloc (.cells a S)).alloc (.cells b T)).alloc (.cells c U)) ∧
    (((w.alloc (.cells a S)).alloc (.cells b T)).alloc (.cells c U)).heap[w.heap.size]? = some (.cells a S (0, 0)) ∧
    (((w.alloc (.cells a S)).alloc (.cells b T)).alloc (.cells c U)).heap[w.heap.size + 1]? = some (.cells b T (0, 0)) ∧
    (((w.alloc (.cells a S)).alloc (.cells b T)).alloc (.cells c U)).heap[w.heap.size + 1 + 1]? = some (.cells c U (0, 0)) ∧
    (((w.alloc (.cells a S)).alloc (.cells b T)).alloc (.cells c U)).heap.size = w.heap.size + 1 + 1 + 1 := by
  have b1 := (Below.refl w.heap.size w).alloc (Nat.le_refl _) (.cells a S)
  have b2 := b1.alloc b1.size (.cells b T)
  have b3 := b2.alloc b2.size (.cells c U)
  have k1 := heap_alloc_new w (.cells a S)
  have k2 := heap_alloc_new (w.alloc (.cells a S)) (.cells b T)
  have k3 := heap_alloc_new ((w.alloc (.cells a S)).alloc (.cells b T)) (.cells c U)
  have k1' := (heap_alloc_old _ (.cells c U) (Array.getElem?_eq_some_iff.1 ((heap_alloc_old _ (.cells b T) (Array.getElem?_eq_some_iff.1 k1).1).trans k1)).1).trans ((heap_alloc_old _ (.cells b T) (Array.getElem?_eq_some_iff.1 k1).1).trans k1)
  have k2' := (heap_alloc_old _ (.cells c U) (Array.getElem?_eq_some_iff.1 k2).1).trans k2
  rw [show (w.alloc (.cells a S)).heap.size = w.heap.size + 1 by simp] at k2'
  rw [show ((w.alloc (.cells a S)).alloc (.cells b T)).heap.size = w.heap.size + 1 + 1 by simp] at k3
  exact ⟨b3, k1', k2', k3, by simp⟩
theorem szRoute_any (u : Value) (r : Rou) (l : Int) (w : World) (h : Rw w u r.fb) (h0 : 0 ≤ l) (h1 : l ≤ 1048576) :
    Calls Tryz.prog 106 #[.agg #[.int .i64 r.st, u], .int .i64 l] w fun e w' => e = .returned (.int .i64 (if l < r.fb.length then -1 else l - r.fb.length)) ∧ Below w.heap.size w w' := by
  have hal := (Below.refl w.heap.size w).alloc (Nat.le_refl _) (.cells #[.int .i64 r.st, u] 122)
  have HS := Lib.hid (szIntS_w u r.fb l _ (h.behind hal) h0 h1)
  have HB := Lib.hid hal
  obtain ⟨a, n, cap, rfl⟩ := h.shape
  clear hal h
  by_cases hx : l < (r.fb.length : Int)
  · rw [if_pos hx] at HS ⊢
    go_enter Tryz.func106, Tryz.ntmps106
    go_wp2_with fail
    refine HS.out.mono ?_
    rintro e w2 ⟨rfl, rfl⟩
    go_wp2
    go_ret
    exact ⟨rfl, HB.out⟩
  · rw [if_neg hx] at HS ⊢
    have hnn : ¬ l - (r.fb.length : Int) < 0 := by omega
    have hnb : decide (l - (r.fb.length : Int) < 0) = false := by simpa using hnn
    go_enter Tryz.func106, Tryz.ntmps106
    go_wp2_with fail
    refine HS.out.mono ?_
    rintro e w2 ⟨rfl, rfl⟩
    go_wp2
    go_ret
    exact ⟨rfl, HB.out⟩
theorem szLight_any (u : Value) (x : Lgt) (l : Int) (w : World) (h : Rw w u x.fb) (h0 : 0 ≤ l) (h1 : l ≤ 1048576) :
    Calls Tryz.prog 78 #[.agg #[.int .i64 x.id, .int .i64 x.st, u, .int .i64 x.fi, .int .i64 x.ct], .int .i64 l] w fun e w' => e = .returned (.int .i64 (if l < x.fb.length then -1 else l - x.fb.length)) ∧ Below w.heap.size w w' := by
  have hal := (Below.refl w.heap.size w).alloc (Nat.le_refl _) (.cells #[.int .i64 x.id, .int .i64 x.st, u, .int .i64 x.fi, .int .i64 x.ct] 125)
  have HS := Lib.hid (szRoute_any u ⟨x.st, x.fb⟩ l _ (h.behind hal) h0 h1)
  have HB := Lib.hid hal
  obtain ⟨a, n, cap, rfl⟩ := h.shape
  clear hal h
  by_cases hx : l < (x.fb.length : Int)
  · rw [if_pos hx] at HS ⊢
    go_enter Tryz.func78, Tryz.ntmps78
    go_wp2_with fail
    refine HS.out.mono ?_
    rintro e w2 ⟨rfl, b2⟩
    have HB2 := Lib.hid (HB.out.trans (b2.mono HB.out.size))
    clear b2
    go_wp2
    go_ret
    exact ⟨rfl, HB2.out⟩
  · rw [if_neg hx] at HS ⊢
    have hnn : ¬ l - (x.fb.length : Int) < 0 := by omega
    have hnb : decide (l - (x.fb.length : Int) < 0) = false := by simpa using hnn
    go_enter Tryz.func78, Tryz.ntmps78
    go_wp2_with fail
    refine HS.out.mono ?_
    rintro e w2 ⟨rfl, b2⟩
    have HB2 := Lib.hid (HB.out.trans (b2.mono HB.out.size))
    clear b2
    go_wp2
    go_ret
    exact ⟨rfl, HB2.out⟩

theorem blk2r {X : World} {b : Nat} {u v : Value} {T : TypeId} (h : X.heap[b]? = some (.cells #[u, v] T (0, 0))) :
    X.cell? ⟨b, 0, none⟩ = some u ∧ X.cell? ⟨b, 1, none⟩ = some v ∧ X.frozen? ⟨b, 0, none⟩ = false ∧ X.frozen? ⟨b, 1, none⟩ = false ∧ b < X.heap.size :=
  ⟨blkc h rfl, blkc h rfl, frozen_of_row _ _ _ _ _ h, frozen_of_row _ _ _ _ _ h, (Array.getElem?_eq_some_iff.1 h).1⟩
theorem Odt.setO {w : World} {b j : Nat} {d : Dt} {v u : Value} {fp : List Nat} (h : Odt w d v fp) (hb : ∀ k ∈ fp, b < k) : Odt (w.setCell ⟨b, j, none⟩ u) d v fp :=
  h.kept fun k hk => heap_setCell_other w ⟨b, j, none⟩ k u (fun e => by have h1 := hb k hk; have e2 : k = b := e; omega)
set_option maxHeartbeats 1600000 in
theorem toRoute_any (u : Value) (r : Rou) (w : World) (h : Rw w u r.fb) (hl : r.fb.length ≤ 1048576) :
    Calls Tryz.prog 117 #[.agg #[.int .i64 r.st, u]] w (ToP (fun w' => RouO w' r) w) := by
  obtain ⟨a, n, cap, rfl⟩ := h.shape
  obtain ⟨b3, -, k2, k3, hz⟩ := three_boxes w #[.int .i64 r.st, .slice a n cap] #[.int .i64 0, .slice none 0 0] #[.int .i64 r.st, .slice none 0 0] 122 94 94
  have HB := Lib.hid b3
  have K2 := Lib.hid k2
  have K3 := Lib.hid k3
  have HZ := Lib.hid hz
  have HT := Lib.hid (toIntS_w _ r.fb _ (h.behind b3) hl)
  unfold ToP
  clear b3 k2 k3 hz h hl
  go_enter Tryz.func117, Tryz.ntmps117
  go_wp2_with fail
  refine HT.out.mono ?_
  rintro e w4 ⟨u4, rfl, o4, b4⟩
  obtain ⟨a5, c5, n5, -, rfl, -⟩ := o4.rd.opn
  obtain ⟨y0, y1, y2, y3, y4⟩ := blk2r (kept_o' K2.out b4)
  obtain ⟨z0, z1, z2, z3, z4⟩ := blk2r (kept_o' K3.out b4)
  have HB4 := Lib.hid (HB.out.trans (b4.mono HB.out.size))
  obtain ⟨fp, o1, o2, o3⟩ := o4.fp
  have HO4 := Lib.hid o1
  have HN4 := Lib.hid o2
  have HL4 := Lib.hid (show ∀ k ∈ fp, w.heap.size + 1 + 1 < k from fun k hk => by have := o3 k hk; have := HZ.out; omega)
  clear b4 o4 o1 o2 o3 K2 K3
  go_wp2
  exact bodyPost_ret (v := .agg #[.int .i64 r.st, .slice a5 n5 c5]) (by simp [results, Tryz.results117, go_sem, y0, y1]) rfl ⟨_, fp, rfl, ⟨_, rfl, ((HO4.out.setO (fun k hk => by have := HL4.out k hk; omega)).setO (fun k hk => by have := HL4.out k hk; omega)).setO (fun k hk => by have := HL4.out k hk; omega)⟩, HN4.out, fun k hk => by have := HL4.out k hk; omega, (((HB4.out.setCell (p := ⟨w.heap.size + 1 + 1, 1, none⟩) (by show w.heap.size ≤ w.heap.size + 1 + 1; omega) _).setCell (p := ⟨w.heap.size + 1, 0, none⟩) (Nat.le_succ _) _).setCell (p := ⟨w.heap.size + 1, 1, none⟩) (Nat.le_succ _) _)⟩
set_option maxHeartbeats 1600000 in
theorem toLight_any (u : Value) (x : Lgt) (w : World) (h : Rw w u x.fb) (hl : x.fb.length ≤ 1048576) :
    Calls Tryz.prog 84 #[.agg #[.int .i64 x.id, .int .i64 x.st, u, .int .i64 x.fi, .int .i64 x.ct]] w (ToP (fun w' => LgtO w' x) w) := by
  obtain ⟨a, n, cap, rfl⟩ := h.shape
  obtain ⟨b3, k1, k2, k3, hz⟩ := three_boxes w #[.int .i64 x.id, .int .i64 x.st, .slice a n cap, .int .i64 x.fi, .int .i64 x.ct] #[.int .i64 0, .int .i64 0, .slice none 0 0, .int .i64 0, .int .i64 0] #[.int .i64 x.id, .int .i64 0, .slice none 0 0, .int .i64 0, .int .i64 0] 125 98 98
  have HB := Lib.hid b3
  have K1 := Lib.hid k1
  have K2 := Lib.hid k2
  have K3 := Lib.hid k3
  have HZ := Lib.hid hz
  have HT := Lib.hid (toRoute_any _ ⟨x.st, x.fb⟩ _ (h.behind b3) hl)
  have HTB := Lib.hid (fun w => toBlock_any ⟨x.fi, x.ct⟩ w)
  unfold blkV at HTB
  unfold ToP at HT ⊢
  clear b3 k1 k2 k3 hz h hl
  go_enter Tryz.func84, Tryz.ntmps84
  go_wp2_with fail
  refine HT.out.mono ?_
  rintro e w4 ⟨u4, fp, rfl, ⟨u5, rfl, o1⟩, o2, o3, b4⟩
  obtain ⟨a5, c5, n5, -, rfl, -⟩ := (Rdt.toRd o1.rd).opn
  have m1 := kept_o' K1.out b4
  have x3 := blkc m1 (j := 3) (u := .int .i64 x.fi) rfl
  have x4 := blkc m1 (j := 4) (u := .int .i64 x.ct) rfl
  have M1 := Lib.hid m1
  have M2 := Lib.hid (kept_o' K2.out b4)
  have M3 := Lib.hid (kept_o' K3.out b4)
  have HB4 := Lib.hid (HB.out.trans (b4.mono HB.out.size))
  have HO4 := Lib.hid o1
  have HN4 := Lib.hid o2
  have HL4 := Lib.hid (show ∀ k ∈ fp, w.heap.size + 1 + 1 < k from fun k hk => by have := o3 k hk; have := HZ.out; omega)
  clear b4 o1 o2 o3 K1 K2 K3 m1
  go_wp2_with (((show wpList _ _ _ (⟨none, .store 94 _ _, _, _, _, _⟩ :: _) _ _); refine wpList_stx rfl 94 _ _ rfl (w.heap.size + 1 + 1) 1 [.int .i64 x.st, .slice a5 n5 c5] rfl rfl M3.out (by simp) (by kernel_rfl) (by simp [Value.oneCell']) ?_; intro w5 hs; have n1 := hs.keep (by omega) M1.out; have N2 := Lib.hid (hs.keep (by omega) M2.out); have N3 := Lib.hid hs.blk; have HB5 := Lib.hid (hs.below w.heap.size w (by omega) HB4.out); have HO5 := Lib.hid (hs.odt HO4.out (fun hk => by have := HL4.out _ hk; omega)); clear x3 x4; have x3 := blkc n1 (j := 3) (u := .int .i64 x.fi) rfl; have x4 := blkc n1 (j := 4) (u := .int .i64 x.ct) rfl; have N1 := Lib.hid n1; clear hs n1))
  go_wp2_with fail
  refine (HTB.out _).mono ?_
  rintro e w6 ⟨rfl, b6⟩
  have M2 := Lib.hid (kept_o' N2.out b6)
  have M3 := Lib.hid (kept_o' N3.out b6)
  have HB6 := Lib.hid (HB5.out.trans (b6.mono HB5.out.size))
  have HO6 := Lib.hid (HO5.out.behind b6)
  clear b6 x3 x4
  go_wp2_with (first
    | ((show wpList _ _ _ (⟨none, .store 96 _ _, _, _, _, _⟩ :: _) _ _); refine wpList_stx rfl 96 _ _ rfl (w.heap.size + 1 + 1) 3 [.int .i64 x.fi, .int .i64 x.ct] rfl rfl M3.out (by simp [putA]) (by kernel_rfl) (by simp [Value.oneCell']) ?_; intro w7 hs; have N2 := Lib.hid (hs.keep (by omega) M2.out); have N3 := Lib.hid hs.blk; have HB7 := Lib.hid (hs.below w.heap.size w (by omega) HB6.out); have HO7 := Lib.hid (hs.odt HO6.out (fun hk => by have := HL4.out _ hk; omega)); clear hs)
    | ((show wpList _ _ _ (⟨some _, .load 98 _, _, _, _, _⟩ :: _) _ _); refine wpList_ldx rfl 98 _ rfl (w.heap.size + 1 + 1) 0 rfl [.int .i64 x.id, .int .i64 x.st, .slice a5 n5 c5, .int .i64 x.fi, .int .i64 x.ct] N3.out rfl _ (by exact Tryz.underlying98) rfl (by kernel_rfl) ?_)
    | ((show wpList _ _ _ (⟨none, .store 98 _ _, _, _, _, _⟩ :: _) _ _); refine wpList_stx rfl 98 _ _ rfl (w.heap.size + 1) 0 [.int .i64 x.id, .int .i64 x.st, .slice a5 n5 c5, .int .i64 x.fi, .int .i64 x.ct] rfl rfl N2.out (by simp) (by kernel_rfl) (by simp [Value.oneCell']) ?_; intro w8 hs; have n2 := hs.blk; have HB8 := Lib.hid (hs.below w.heap.size w (by omega) HB7.out); have HO8 := Lib.hid (hs.odt HO7.out (fun hk => by have := HL4.out _ hk; omega)); clear hs; have r0 := blkc n2 (j := 0) (u := .int .i64 x.id) rfl; have r1 := blkc n2 (j := 1) (u := .int .i64 x.st) rfl; have r2 := blkc n2 (j := 2) (u := .slice a5 n5 c5) rfl; have r3 := blkc n2 (j := 3) (u := .int .i64 x.fi) rfl; have r4 := blkc n2 (j := 4) (u := .int .i64 x.ct) rfl))
  exact bodyPost_ret (v := .agg #[.int .i64 x.id, .int .i64 x.st, .slice a5 n5 c5, .int .i64 x.fi, .int .i64 x.ct]) (by simp [results, Tryz.results84, go_sem, r0, r1, r2, r3, r4]) rfl ⟨_, fp, rfl, ⟨_, rfl, HO8.out⟩, HN4.out, fun k hk => by have := HL4.out k hk; omega, HB8.out⟩
theorem eqRoute_same (u v : Value) (r : Rou) (w : World) (h1 : Rd w u r.fb) (h2 : Rd w v r.fb) :
    Calls Tryz.prog 129 #[.agg #[.int .i64 r.st, u], .agg #[.int .i64 r.st, v]] w fun e w' => e = .returned (.bool true) ∧ Below w.heap.size w w' := by
  obtain ⟨a1, c1, n1, -, rfl, -⟩ := h1.opn
  obtain ⟨a2, c2, n2, -, rfl, -⟩ := h2.opn
  have k1 := (Below.refl w.heap.size w).alloc (Nat.le_refl _) (.cells #[.int .i64 r.st, .slice a1 n1 c1] 94)
  have k2 := k1.alloc k1.size (.cells #[.int .i64 r.st, .slice a2 n2 c2] 94)
  have HE := Lib.hid (eqIntS_same _ _ r.fb _ (h1.belowAll k2) (h2.belowAll k2))
  have HB := Lib.hid k2
  have hne : (r.st != r.st) = false := by simp
  clear k1 k2 h1 h2
  go_enter Tryz.func129, Tryz.ntmps129
  go_wp2_with fail
  refine HE.out.mono ?_
  rintro e w2 ⟨rfl, b2⟩
  have HB2 := Lib.hid (HB.out.trans (b2.mono HB.out.size))
  clear b2
  go_wp2
  go_ret
  exact ⟨rfl, HB2.out⟩
theorem eqLight_same (u v : Value) (x : Lgt) (w : World) (h1 : Rd w u x.fb) (h2 : Rd w v x.fb) :
    Calls Tryz.prog 94 #[.agg #[.int .i64 x.id, .int .i64 x.st, u, .int .i64 x.fi, .int .i64 x.ct], .agg #[.int .i64 x.id, .int .i64 x.st, v, .int .i64 x.fi, .int .i64 x.ct]] w fun e w' => e = .returned (.bool true) ∧ Below w.heap.size w w' := by
  obtain ⟨a1, c1, n1, -, rfl, -⟩ := h1.opn
  obtain ⟨a2, c2, n2, -, rfl, -⟩ := h2.opn
  have k1 := (Below.refl w.heap.size w).alloc (Nat.le_refl _) (.cells #[.int .i64 x.id, .int .i64 x.st, .slice a1 n1 c1, .int .i64 x.fi, .int .i64 x.ct] 98)
  have k2 := k1.alloc k1.size (.cells #[.int .i64 x.id, .int .i64 x.st, .slice a2 n2 c2, .int .i64 x.fi, .int .i64 x.ct] 98)
  have HE := Lib.hid (eqRoute_same _ _ ⟨x.st, x.fb⟩ _ (h1.belowAll k2) (h2.belowAll k2))
  have HEB := Lib.hid (fun w => eqBlock_same ⟨x.fi, x.ct⟩ w)
  unfold blkV at HEB
  have HB := Lib.hid k2
  have hne : (x.id != x.id) = false := by simp
  clear k1 k2 h1 h2
  go_enter Tryz.func94, Tryz.ntmps94
  go_wp2_with fail
  refine HE.out.mono ?_
  rintro e w2 ⟨rfl, b2⟩
  obtain ⟨hc, hf⟩ := bcell b2
  have HB2 := Lib.hid (HB.out.trans (b2.mono HB.out.size))
  clear b2
  go_wp2_with fail
  refine (HEB.out _).mono ?_
  rintro e w3 ⟨rfl, b3⟩
  have HB3 := Lib.hid (HB2.out.trans (b3.mono HB2.out.size))
  clear b3 hc hf
  go_wp2
  go_ret
  exact ⟨rfl, HB3.out⟩
end Go.Proofs.YtonpcgdnfclidaaGreatDoor
namespace Go.Proofs.YtonpcgdnfclidaaGreatDoor
open Go.RowKit

/-- Own data whose blocks lie below lo. -/
def Ofl (w : World) (base lo : Nat) (d : Dt) (v : Value) : Prop := ∃ fp, Odt w d v fp ∧ fp.Nodup ∧ ∀ k ∈ fp, base ≤ k ∧ k < lo
theorem Ofr.ofl {wr w : World} {base : Nat} {d : Dt} {v : Value} (h : Ofr wr base d v) (hb : Below wr.heap.size wr w) : Ofl w base wr.heap.size d v := by
  obtain ⟨fp, h1, h2, h3⟩ := h
  exact ⟨fp, h1.behind hb, h2, fun k hk => ⟨h3 k hk, h1.lt k hk⟩⟩
theorem Ofl.ofr {w : World} {base lo : Nat} {d : Dt} {v : Value} (h : Ofl w base lo d v) : Ofr w base d v := by
  obtain ⟨fp, h1, h2, h3⟩ := h; exact ⟨fp, h1, h2, fun k hk => (h3 k hk).1⟩
theorem Ofl.below {w w' : World} {base lo : Nat} {d : Dt} {v : Value} (h : Ofl w base lo d v) (hb : Below w.heap.size w w') : Ofl w' base lo d v := by
  obtain ⟨fp, h1, h2, h3⟩ := h; exact ⟨fp, h1.behind hb, h2, h3⟩
theorem Ofl.put {w1 : World} {base lo size j : Nat} {ds : List Dt} {d : Dt} {v u : Value} (h : Ofl w1 base lo (.rows size ds) v) (hbb : base ≤ lo) (hu : Ofr w1 lo d u) (hj : j < ds.length) :
    ∃ g off n cap, v = .slice (some ⟨g, off, none⟩) n cap ∧ base ≤ g ∧ (∃ u0, w1.cell? ⟨g, off + j, none⟩ = some u0) ∧ w1.frozen? ⟨g, off + j, none⟩ = false ∧
      Ofr (w1.setCell ⟨g, off + j, none⟩ u) base (.rows size (ds.set j d)) v ∧ ((∃ x, d = .leaf x) → Ofl (w1.setCell ⟨g, off + j, none⟩ u) base lo (.rows size (ds.set j d)) v) ∧
      ∀ (_ : Nat) (d' : Dt) (u' : Value), Ofr w1 lo d' u' → Ofr (w1.setCell ⟨g, off + j, none⟩ u) lo d' u' := by
  obtain ⟨fp, h1', h2, h3⟩ := h
  obtain ⟨f, k1, k2, k3⟩ := hu
  cases h1' with
  | nil size => simp at hj
  | @mk size n g off cap ds us fs cur T hl hus hf hn hc hg hcs ht hd =>
    obtain ⟨hgn, hfn⟩ := List.nodup_cons.1 h2
    have hg1 : g < lo := (h3 g (by simp)).2
    obtain ⟨q1, q2⟩ := flat_put (j := j) hfn (fun k hk => (h3 k (List.mem_cons_of_mem _ hk)).2) k2 k3
    have hgq : g ∉ (fs.set j f).flatten := fun e => by
      rcases q2 g e with e | e
      · exact hgn e
      · have := k3 g e; omega
    have hju : j < us.length := by omega
    have hset : ∀ k, k ≠ g → (w1.setCell ⟨g, off + j, none⟩ u).heap[k]? = w1.heap[k]? := fun k hk => heap_setCell_other w1 ⟨g, off + j, none⟩ k u hk
    have hodt : Odt (w1.setCell ⟨g, off + j, none⟩ u) (.rows size (ds.set j d)) (.slice (some ⟨g, off, none⟩) n cap) (g :: (fs.set j f).flatten) := by
      have hg' := heap_setCell_same w1 g (off + j) cur T u hg
      refine .mk (us := us.set j u) (by rw [List.length_set]; exact hl) (by rw [List.length_set, List.length_set]; exact hus) (by rw [List.length_set, List.length_set]; exact hf) hn hc hg' (by simpa using hcs) ?_ (fun i d2 u2 f2 e1 e2 e3 => ?_)
      · rw [Array.toList_setIfInBounds, List.drop_set, if_neg (by omega), Nat.add_sub_cancel_left, List.take_set, ht]
      · by_cases e : j = i
        · subst e
          rw [List.getElem?_set_self hj] at e1
          rw [List.getElem?_set_self hju] at e2
          rw [List.getElem?_set_self (by omega)] at e3
          cases e1; cases e2; cases e3
          exact k1.kept fun k hk => hset k (by have := k3 k hk; omega)
        · rw [List.getElem?_set_ne e] at e1 e2 e3
          exact (hd i d2 u2 f2 e1 e2 e3).kept fun k hk => hset k (fun e => hgn (by rw [← e]; exact List.mem_flatten.2 ⟨f2, List.mem_of_getElem? e3, hk⟩))
    refine ⟨g, off, n, cap, rfl, (h3 g (by simp)).1, ⟨_, row_cell hg ht (List.getElem?_eq_getElem hju) (by omega)⟩, frozen_of_row _ _ _ _ _ hg, ⟨_, hodt, List.nodup_cons.2 ⟨hgq, q1⟩, fun k hk => ?_⟩, fun ⟨x, hx⟩ => ⟨_, hodt, List.nodup_cons.2 ⟨hgq, q1⟩, fun k hk => ?_⟩, fun lo' d' u' ⟨f', m1, m2, m3⟩ => ⟨f', m1.kept fun k hk => hset k (by have := m3 k hk; omega), m2, m3⟩⟩
    · rcases List.mem_cons.1 hk with rfl | hk
      · exact (h3 k (by simp)).1
      · rcases q2 k hk with e | e
        · exact (h3 k (List.mem_cons_of_mem _ e)).1
        · have := k3 k e; omega
    · subst hx
      have hfe := k1.leaf_inv.2
      subst hfe
      rcases List.mem_cons.1 hk with rfl | hk
      · exact h3 k (by simp)
      · rcases q2 k hk with e | e
        · exact h3 k (List.mem_cons_of_mem _ e)
        · cases e
theorem Ofr.leaf (w : World) (lo : Nat) (x : Value) : Ofr w lo (.leaf x) x := ⟨[], .leaf x, List.nodup_nil, fun k hk => by cases hk⟩

variable {α : Type}
theorem rws_set1 {en : α → List Dt} {m : Nat} (hm : ∀ z, (en z).length = m) (hm0 : 0 < m) {zs : List α} {x y : α} {k r : Nat} {d : Dt} (hx : zs[k]? = some x) (hr : r < m) (hy : en y = (en x).set r d) :
    (zs.flatMap en).set (k * m + r) d = (zs.set k y).flatMap en := by
  have hk : k < zs.length := (List.getElem?_eq_some_iff.1 hx).1
  have hl := flat_length hm zs
  have hkm : k * m + r < zs.length * m := by
    have h1 : (k + 1) * m ≤ zs.length * m := Nat.mul_le_mul_right m hk
    rw [Nat.add_mul, Nat.one_mul] at h1
    omega
  apply List.ext_getElem?
  intro j
  obtain ⟨i, s, hs, rfl⟩ : ∃ i s, s < m ∧ j = i * m + s := ⟨j / m, j % m, Nat.mod_lt _ hm0, by rw [Nat.mul_comm]; exact (Nat.div_add_mod j m).symm⟩
  rw [flat_at hm _ _ _ hs, List.getElem?_set]
  by_cases e : k = i
  · subst e
    rw [List.getElem?_set_self hk, Option.bind_some, hy, List.getElem?_set]
    by_cases e2 : r = s
    · subst e2
      rw [if_pos rfl, if_pos (by omega), if_pos rfl, if_pos (by rw [hm]; exact hr)]
    · rw [if_neg (by omega), if_neg e2, flat_at hm _ _ _ hs, hx]; rfl
  · have hne : ¬ k * m + r = i * m + s := fun h => e (by
      have h1 : (k * m + r) / m = (i * m + s) / m := by rw [h]
      rw [Nat.add_comm (k * m), Nat.add_comm (i * m), Nat.add_mul_div_right _ _ hm0, Nat.add_mul_div_right _ _ hm0, Nat.div_eq_of_lt hr, Nat.div_eq_of_lt hs] at h1
      omega)
    rw [if_neg hne, List.getElem?_set_ne e, flat_at hm _ _ _ hs]
theorem rws_cellD {en : α → List Dt} {m : Nat} (hm : ∀ z, (en z).length = m) {zs : List α} {x : α} {k r : Nat} {d : Dt} (hx : zs[k]? = some x) (hr : r < m) (h0 : (en x)[r]? = some d) : (zs.flatMap en)[k * m + r]? = some d := by
  rw [flat_at hm _ _ _ hr, hx]; exact h0
/-- A leaf of an element stored over. -/
theorem Odt.rwsLeaf {en : α → List Dt} {m : Nat} (hm : ∀ z, (en z).length = m) (hm0 : 0 < m) {w : World} {zs : List α} {a : Option Addr} {n cap : Nat} {fp : List Nat} (h : Odt w (rws m en zs) (.slice a n cap) fp) (hn : fp.Nodup)
    {k : Nat} (r : Nat) (x y : α) (u0 u1 : Value) (hx : zs[k]? = some x) (hr : r < m) (h0 : (en x)[r]? = some (.leaf u0)) (hy : en y = (en x).set r (.leaf u1)) :
    ∃ g off, a = some ⟨g, off, none⟩ ∧ w.cell? ⟨g, off + k * m + r, none⟩ = some u0 ∧ w.frozen? ⟨g, off + k * m + r, none⟩ = false ∧
      Odt (w.setCell ⟨g, off + k * m + r, none⟩ u1) (rws m en (zs.set k y)) (.slice a n cap) fp ∧ Wr w (w.setCell ⟨g, off + k * m + r, none⟩ u1) fp := by
  obtain ⟨g, off, n', cap', e, h1, h2, -, h4, h5⟩ := h.store hn (rws_cellD hm hx hr h0) u1
  simp only [Value.slice.injEq] at e
  obtain ⟨rfl, rfl, rfl⟩ := e
  rw [rws_set1 hm hm0 hx hr hy] at h4
  have e : off + (k * m + r) = off + k * m + r := (Nat.add_assoc _ _ _).symm
  rw [e] at h1 h2 h4 h5
  exact ⟨g, off, rfl, h1, h2, h4, h5⟩
/-- A slice of an element, to be changed in its own blocks. -/
theorem Odt.rwsDeep {en : α → List Dt} {m : Nat} (hm : ∀ z, (en z).length = m) (hm0 : 0 < m) {w : World} {zs : List α} {a : Option Addr} {n cap : Nat} {fp : List Nat} (h : Odt w (rws m en zs) (.slice a n cap) fp) (hn : fp.Nodup)
    {k : Nat} (r : Nat) (x : α) (d : Dt) (hx : zs[k]? = some x) (hr : r < m) (h0 : (en x)[r]? = some d) :
    ∃ g off u f, a = some ⟨g, off, none⟩ ∧ w.cell? ⟨g, off + k * m + r, none⟩ = some u ∧ Odt w d u f ∧ (∀ k ∈ f, k ∈ fp) ∧ f.Nodup ∧
      ∀ (w' : World) (d' : Dt) (y : α), Odt w' d' u f → Wr w w' f → en y = (en x).set r d' → Odt w' (rws m en (zs.set k y)) (.slice a n cap) fp := by
  obtain ⟨g, off, n', cap', u, f, e, h1, h2, h3, h4, -, h6⟩ := Odt.deep (w' := w) (show Odt w (.rows m (zs.flatMap en)) _ fp from h) hn (rws_cellD hm hx hr h0)
  simp only [Value.slice.injEq] at e
  obtain ⟨rfl, rfl, rfl⟩ := e
  refine ⟨g, off, u, f, rfl, by rw [Nat.add_assoc]; exact h1, h2, h3, h4, fun w' d' y k1 k2 k3 => ?_⟩
  have := h6 w' d' k1 k2
  rw [rws_set1 hm hm0 hx hr k3] at this
  exact this
/-- One cell of an element of a row under construction stored. -/
theorem Ofl.rwsPut {en : α → List Dt} {m : Nat} (hm : ∀ z, (en z).length = m) (hm0 : 0 < m) {w1 : World} {base lo : Nat} {zs : List α} {a : Option Addr} {n cap : Nat} (h : Ofl w1 base lo (rws m en zs) (.slice a n cap)) (hbb : base ≤ lo)
    {k : Nat} (r : Nat) (x y : α) (d : Dt) (u : Value) (hu : Ofr w1 lo d u) (hx : zs[k]? = some x) (hr : r < m) (hy : en y = (en x).set r d) :
    ∃ g off, a = some ⟨g, off, none⟩ ∧ base ≤ g ∧ (∃ u0, w1.cell? ⟨g, off + k * m + r, none⟩ = some u0) ∧ w1.frozen? ⟨g, off + k * m + r, none⟩ = false ∧
      Ofr (w1.setCell ⟨g, off + k * m + r, none⟩ u) base (rws m en (zs.set k y)) (.slice a n cap) ∧ ((∃ x, d = .leaf x) → Ofl (w1.setCell ⟨g, off + k * m + r, none⟩ u) base lo (rws m en (zs.set k y)) (.slice a n cap)) ∧
      ∀ (d' : Dt) (u' : Value), Ofr w1 lo d' u' → Ofr (w1.setCell ⟨g, off + k * m + r, none⟩ u) lo d' u' := by
  have hk : k < zs.length := (List.getElem?_eq_some_iff.1 hx).1
  have hkm : k * m + r < zs.length * m := by
    have h1 : (k + 1) * m ≤ zs.length * m := Nat.mul_le_mul_right m hk
    rw [Nat.add_mul, Nat.one_mul] at h1
    omega
  obtain ⟨g, off, n', cap', e, h1, h2, h3, h4, h5, h6⟩ := Ofl.put (j := k * m + r) (d := d) (show Ofl w1 base lo (.rows m (zs.flatMap en)) _ from h) hbb hu (by rw [flat_length hm]; exact hkm)
  simp only [Value.slice.injEq] at e
  obtain ⟨rfl, rfl, rfl⟩ := e
  rw [rws_set1 hm hm0 hx hr hy] at h4 h5
  have e : off + (k * m + r) = off + k * m + r := (Nat.add_assoc _ _ _).symm
  rw [e] at h2 h3 h4 h5
  rw [e] at h6
  exact ⟨g, off, rfl, h1, h2, h3, h4, h5, fun d' u' q => h6 lo d' u' q⟩
theorem Ofr.whole {w : World} {base : Nat} {d : Dt} {v : Value} (h : Ofr w base d v) : Ofl w base w.heap.size d v := h.ofl (Below.refl _ _)
theorem set_get {zs : List α} {k : Nat} {y : α} (h : k < zs.length) : (zs.set k y)[k]? = some y := List.getElem?_set_self h
end Go.Proofs.YtonpcgdnfclidaaGreatDoor
namespace Go.Proofs.YtonpcgdnfclidaaGreatDoor
open Go.RowKit Go.Sort Go.Lib

def srt (xs : List Int) : List Int := xs.mergeSort fun x y => decide (x ≤ y)
def cpt (xs : List Int) : List Int := Go.Lib.compact xs
/-- The set of a list's numbers, in ascending order. -/
def ust (xs : List Int) : List Int := cpt (srt xs)
theorem srt_len (xs : List Int) : (srt xs).length = xs.length := List.length_mergeSort _
theorem srt_mem {xs : List Int} {x : Int} : x ∈ srt xs ↔ x ∈ xs := List.mem_mergeSort
theorem cpt_len (xs : List Int) : (cpt xs).length ≤ xs.length := by
  unfold cpt compact compactUpTo
  rw [List.length_map]
  exact Nat.le_trans (List.length_filter_le _ _) (by simp)
theorem getI {xs : List Int} {j : Nat} (h : j < xs.length) : (xs.toArray)[j]! = xs[j] := by simp [h]
theorem cpt_mem {xs : List Int} {x : Int} : x ∈ cpt xs ↔ x ∈ xs := by
  unfold cpt compact compactUpTo
  rw [List.mem_map]
  constructor
  · rintro ⟨j, hj, rfl⟩
    rw [List.mem_filter, List.mem_range] at hj
    rw [getI hj.1]
    exact List.getElem_mem hj.1
  · intro h
    obtain ⟨j, hj, rfl⟩ := List.mem_iff_getElem.1 h
    have : ∀ j, ∀ hj : j < xs.length, ∃ i, ∃ hi : i < xs.length, keeps xs.toArray i = true ∧ xs[i] = xs[j] := by
      intro j
      induction j with
      | zero => intro hj; exact ⟨0, hj, by simp [keeps], rfl⟩
      | succ j ih =>
        intro hj
        by_cases e : xs[j + 1] = xs[j]'(by omega)
        · obtain ⟨i, hi, h1, h2⟩ := ih (by omega)
          exact ⟨i, hi, h1, by rw [h2, e]⟩
        · refine ⟨j + 1, hj, ?_, rfl⟩
          unfold keeps
          rw [getI hj, getI (show j + 1 - 1 < xs.length by omega)]
          simp only [decide_eq_true_eq]
          exact .inr (by simpa using e)
    obtain ⟨i, hi, h1, h2⟩ := this j hj
    exact ⟨i, List.mem_filter.2 ⟨List.mem_range.2 hi, h1⟩, by rw [getI hi, h2]⟩
theorem ust_mem {xs : List Int} {x : Int} : x ∈ ust xs ↔ x ∈ xs := by unfold ust; rw [cpt_mem, srt_mem]
/-! ### The cells -/
theorem Own.holds {w : World} {base g off n cap : Nat} {xs : List Int} (h : Own w base (.slice (some ⟨g, off, none⟩) n cap) xs) : Holds (Value.int .i64) w g off xs.toArray := by
  rcases h with ⟨e, _⟩ | ⟨g', off', cap', cur, e, hb, ⟨T, hg⟩, h1, h2, h3, h4⟩
  · cases e
  · simp only [Value.slice.injEq, Option.some.injEq, Addr.mk.injEq, and_true] at e
    obtain ⟨⟨rfl, rfl⟩, rfl, rfl⟩ := e
    intro j hj
    have hj' : j < xs.length := by simpa using hj
    refine ⟨?_, frozen_of_row _ _ _ _ _ hg⟩
    rw [cell_of_row _ _ _ _ _ _ hg, ← Array.getElem?_toList]
    have e : ((cur.toList.drop off).take xs.length)[j]? = (ints xs)[j]? := by rw [h4]
    rw [List.getElem?_take, if_pos hj', List.getElem?_drop] at e
    rw [e]
    simp [hj']
theorem heap_putRow {w : World} {g off n : Nat} {os : Array Obj} {cur : Array Value} {e : TypeId} {fr : Nat × Nat} (d : Array Int) (hb : w.heap[g]? = some (.cells cur e fr)) :
    (grow (putRow (Value.int .i64) (Sort.ahead w n) g off d) os).heap[g]? = some (.cells (putCells (Value.int .i64) off d cur) e fr) := by
  have hg : g < w.heap.size := (Array.getElem?_eq_some_iff.1 hb).1
  rw [heap_grow_old _ _ (by simpa using hg)]
  simp [putRow, mapBlock, Sort.ahead, Array.getElem?_modify, hb, onCells]
theorem grownBy_putRow {w : World} {g off n : Nat} {os : Array Obj} (d : Array Int) : w.grownBy (grow (putRow (Value.int .i64) (Sort.ahead w n) g off d) os) (some g) := by
  refine ⟨rfl, rfl, rfl, by simp, fun k hk hne => ?_⟩
  rw [heap_grow_old _ _ (by simpa using hk)]
  have : g ≠ k := fun e => hne (by rw [e])
  simp [putRow, mapBlock, Sort.ahead, Array.getElem?_modify, this]
theorem drop_putCells (cur : Array Value) (ts : List Int) (off m : Nat) (h : off + ts.length ≤ cur.size) (hm : m ≤ ts.length) : ((putCells (Value.int .i64) off ts.toArray cur).toList.drop off).take m = ints (ts.take m) := by
  apply List.ext_getElem?
  intro j
  by_cases hj : j < m
  · rw [List.getElem?_take_of_lt hj, List.getElem?_drop, Array.getElem?_toList]
    simp [putCells, hj, show off + j < cur.size by omega, show j < ts.length by omega]
  · rw [List.getElem?_take_eq_none (by omega), List.getElem?_eq_none (by simp; omega)]
/-- Behind a store of as many numbers. -/
theorem Own.putRow {w : World} {base g off n cap q m : Nat} {xs ts : List Int} {os : Array Obj} (h : Own w base (.slice (some ⟨g, off, none⟩) n cap) xs) (hl : ts.length = xs.length) (hm : m ≤ ts.length) :
    Own (grow (Sort.putRow (Value.int .i64) (Sort.ahead w q) g off ts.toArray) os) base (.slice (some ⟨g, off, none⟩) m cap) (ts.take m) := by
  rcases h with ⟨e, _⟩ | ⟨g', off', cap', cur, e, hb, ⟨T, hg⟩, h1, h2, h3, h4⟩
  · cases e
  · simp only [Value.slice.injEq, Option.some.injEq, Addr.mk.injEq, and_true] at e
    obtain ⟨⟨rfl, rfl⟩, rfl, rfl⟩ := e
    have hml : (ts.take m).length = m := by rw [List.length_take]; omega
    refine .inr ⟨g, off, cap, _, by rw [hml], hb, ⟨T, heap_putRow _ hg⟩, by rw [hml]; omega, h2, by simp [putCells]; omega, ?_⟩
    rw [hml]
    exact drop_putCells cur ts off m (by omega) hm
end Go.Proofs.YtonpcgdnfclidaaGreatDoor
namespace Go.Proofs.YtonpcgdnfclidaaGreatDoor
open Go.RowKit Go.Sort Go.Lib

theorem sortI_own (v : Value) (xs : List Int) (base : Nat) (w : World) (h : Own w base v xs) (hl : xs.length ≤ 1099511627776) :
    Calls Tryz.prog 124 #[v] w fun e w' => e = .returned (.tuple #[]) ∧ Own w' base v (srt xs) ∧ w.grownBy w' v.ownBlock := by
  have h0 := h
  rcases h with ⟨rfl, rfl⟩ | ⟨g, off, cap, cur, rfl, hb, ⟨T, hg⟩, h1, h2, h3, h4⟩
  · refine (Tryz.slices_Sort_int_none none 0 w).mono ?_
    rintro e w' ⟨rfl, rfl⟩
    exact ⟨rfl, .inl ⟨rfl, by unfold srt; simp⟩, ⟨rfl, rfl, rfl, Nat.le_refl _, fun _ _ _ => rfl⟩⟩
  · refine (Tryz.slices_Sort_int g off cap xs w h0.holds (Array.getElem?_eq_some_iff.1 hg).1 (by omega)).mono ?_
    rintro e w' ⟨rfl, n, os, rfl⟩
    have := h0.putRow (q := n) (os := os) (ts := srt xs) (m := xs.length) (srt_len xs) (by rw [srt_len]; exact Nat.le_refl _)
    rw [List.take_of_length_le (by rw [srt_len]; exact Nat.le_refl _)] at this
    exact ⟨rfl, this, grownBy_putRow _⟩
theorem compactI_own (v : Value) (xs : List Int) (base : Nat) (w : World) (h : Own w base v xs) (hl : xs.length ≤ 1099511627776) :
    Calls Tryz.prog 125 #[v] w fun e w' => ∃ v', e = .returned v' ∧ v'.ownBlock = v.ownBlock ∧ Own w' base v' (cpt xs) ∧ w.grownBy w' v.ownBlock := by
  have h0 := h
  rcases h with ⟨rfl, rfl⟩ | ⟨g, off, cap, cur, rfl, hb, ⟨T, hg⟩, h1, h2, h3, h4⟩
  · refine (Tryz.slices_Compact_int_empty none 0 w).mono ?_
    rintro e w' ⟨rfl, rfl⟩
    exact ⟨_, rfl, rfl, .inl ⟨rfl, rfl⟩, ⟨rfl, rfl, rfl, Nat.le_refl _, fun _ _ _ => rfl⟩⟩
  · refine (Tryz.slices_Compact_int g off cap xs w h0.holds (by omega) h1).mono ?_
    rintro e w' ⟨rfl, n, rfl⟩
    have hle : (Lib.compact xs).length ≤ xs.length := cpt_len xs
    have hT : (Lib.compact xs ++ List.replicate (xs.length - (Lib.compact xs).length) 0).length = xs.length := by rw [List.length_append, List.length_replicate]; omega
    have := h0.putRow (q := n) (os := #[]) (ts := Lib.compact xs ++ List.replicate (xs.length - (Lib.compact xs).length) 0) (m := (Lib.compact xs).length) hT (by omega)
    rw [List.take_left, grow_empty] at this
    have g2 := grownBy_putRow (w := w) (g := g) (off := off) (n := n) (os := #[]) (Lib.compact xs ++ List.replicate (xs.length - (Lib.compact xs).length) 0).toArray
    rw [grow_empty] at g2
    exact ⟨_, rfl, rfl, this, g2⟩
end Go.Proofs.YtonpcgdnfclidaaGreatDoor
namespace Go.Proofs.YtonpcgdnfclidaaGreatDoor
open Go.RowKit Go.Sort
set_option maxRecDepth 100000

def cmn (xs ys : List Int) : List Int := xs.filter fun x => ys.contains x
theorem cmn_yes {xs ys : List Int} {k : Nat} (hk : k < xs.length) (h : ys.contains (xs[k]?.getD 0) = true) : cmn (xs.take (k + 1)) ys = cmn (xs.take k) ys ++ [xs[k]?.getD 0] := by
  rw [List.getElem?_eq_getElem hk] at h ⊢
  unfold cmn
  rw [List.take_add_one, List.filter_append, List.getElem?_eq_getElem hk]
  simpa using h
theorem cmn_no {xs ys : List Int} {k : Nat} (hk : k < xs.length) (h : ys.contains (xs[k]?.getD 0) = false) : cmn (xs.take (k + 1)) ys = cmn (xs.take k) ys := by
  rw [List.getElem?_eq_getElem hk] at h
  unfold cmn
  rw [List.take_add_one, List.filter_append, List.getElem?_eq_getElem hk]
  simpa using h
theorem cmn_len (xs ys : List Int) : (cmn xs ys).length ≤ xs.length := List.length_filter_le _ _
theorem own_none (w : World) (T : TypeId) : Own (w.alloc (.cells #[] T)) w.heap.size (.slice (some ⟨w.heap.size, 0, none⟩) 0 0) [] :=
  .inr ⟨w.heap.size, 0, 0, #[], rfl, Nat.le_refl _, ⟨T, heap_alloc_new w _⟩, by simp, by unfold maxLen; omega, by simp, by simp [ints]⟩
set_option maxHeartbeats 1600000 in
theorem common_any (va vb : Value) (xs ys : List Int) (w : World) (ha : Rd w va xs) (hb : Rd w vb ys) (hl : xs.length ≤ 1100000) :
    Calls Tryz.prog 92 #[va, vb] w fun e w' => ∃ v', e = .returned v' ∧ Own w' w.heap.size v' (ust (cmn xs ys)) ∧ Below w.heap.size w w' := by
  obtain ⟨a, ca, n, HN, rfl, _, hn, hca⟩ := ha.opn
  have HC := Lib.hid (fun x w' (hw : Below w.heap.size w w') => containsI_any vb ys x w' (hb.belowAll hw))
  obtain ⟨b, cb, m, -, rfl, -, -, -⟩ := hb.opn
  have HA := Lib.hid hca
  have HY := Lib.hid (fun k h1 h2 => @cmn_yes xs ys k h1 h2)
  have HZ := Lib.hid (fun k h1 h2 => @cmn_no xs ys k h1 h2)
  have HL := Lib.hid (fun k => Nat.le_trans (cmn_len (xs.take k) ys) (List.length_take_le k xs))
  have HT := Lib.hid (show xs.take n = xs from List.take_of_length_le (Nat.le_of_eq HN.out))
  have h10 : n ≤ 1100000 := by have := HN.out; omega
  have HO0 := Lib.hid (own_none w 3)
  have HB0 := Lib.hid ((Below.refl w.heap.size w).alloc (Nat.le_refl _) (.cells #[] 3))
  have hN := HN.out
  rw [hN] at HY HZ
  clear hca ha hb hN
  go_enter Tryz.func92, Tryz.ntmps92
  go_wp2
  go_loopw [5, 7, 11] (fun s5 _ i wr => ∃ k : Nat, k ≤ n ∧ i = .int .i64 k ∧ Hid (Own wr w.heap.size s5 (cmn (xs.take k) ys)) ∧ Hid (Below w.heap.size w wr)) (fun _ _ i _ => n - (intOf i).toNat)
  case atStart => exact ⟨0, Nat.zero_le _, rfl, HO0.out, HB0.out⟩
  case round =>
    obtain ⟨k, hk, rfl, HO, HB⟩ := hrel
    obtain ⟨aR, cR, nR, HNR, rfl, hcR, hnR, -⟩ := HO.out.rd.opn
    by_cases hlt : k < n
    · have hltI : (k : Int) < (n : Int) := by omega
      obtain ⟨b', off, rfl, hbs, hcs⟩ := HA.out (by omega)
      have c0 := (HB.out.cell (p := ⟨b', off + k, none⟩) hbs).trans (hcs k hlt)
      have HY1 := Lib.hid (HY.out k hlt)
      have HZ1 := Lib.hid (HZ.out k hlt)
      have HLO := Lib.hid (show (cmn (xs.take k) ys).length ≤ 4000000 by have := HL.out k; omega)
      have HC1 := Lib.hid (HC.out (xs[k]?.getD 0) wr HB.out)
      clear hcs
      generalize xs[k]?.getD 0 = x at *
      generalize cmn (xs.take k) ys = out at *
      cases hcn : ys.contains x
      · have HE := Lib.hid (HZ1.out hcn)
        rw [hcn] at HC1
        clear hcn
        go_wp2_with (go_at_call 123; refine (HC1.out).mono ?_; rintro e w' ⟨rfl, rfl⟩)
        go_roundw
        case rel => exact ⟨k + 1, hlt, by go_num, by rw [HE.out]; exact HO.out, HB.out⟩
        case measure => simp [intOf]; omega
      · have HE := Lib.hid (HY1.out hcn)
        rw [hcn] at HC1
        clear hcn
        go_wp2_with (first
          | (go_at_call 123; refine (HC1.out).mono ?_; rintro e w' ⟨rfl, rfl⟩)
          | (at_builtin; go_loud (refine wpList_pushI rfl (.tmp 18) (.tmp 20) 92 rfl Tryz.underlying92 Tryz.infoI w.heap.size (.slice aR nR cR) out rfl HO.out rfl HLO.out HB.out.size ?_); intro v5 w5 o5 g5 l5; have HO5 := Lib.hid o5; have HB5 := Lib.hid (HB.out.grown g5 HB.out.size (fun q hq => (HO.out.lt q hq).1)); clear o5 g5 l5))
        go_roundw
        case rel => exact ⟨k + 1, hlt, by go_num, by rw [HE.out]; exact HO5.out, HB5.out⟩
        case measure => simp [intOf]; omega
    · obtain rfl : n = k := by omega
      have HLO := Lib.hid (show (cmn (xs.take n) ys).length ≤ 4000000 by have := HL.out n; omega)
      rw [HT.out] at HO HLO
      go_wp2_with fail
      refine (sortI_own _ (cmn xs ys) w.heap.size _ HO.out (Nat.le_trans HLO.out (by decide))).mono ?_
      rintro e w2 ⟨rfl, o2, g2⟩
      have HB2 := Lib.hid (HB.out.grown g2 HB.out.size (fun q hq => (HO.out.lt q hq).1))
      have HO2 := Lib.hid o2
      have HLS := Lib.hid (show (srt (cmn xs ys)).length ≤ 1099511627776 by rw [srt_len]; exact Nat.le_trans HLO.out (by decide))
      clear o2 g2
      go_wp2_with fail
      refine (compactI_own _ (srt (cmn xs ys)) w.heap.size w2 HO2.out HLS.out).mono ?_
      rintro e w3 ⟨v3, rfl, -, o3, g3⟩
      have HB3 := Lib.hid (HB2.out.grown g3 HB2.out.size (fun q hq => (HO2.out.lt q hq).1))
      have HO3 := Lib.hid o3
      obtain ⟨a3, c3, n3, -, rfl, -⟩ := o3.rd.opn
      clear o3 g3
      go_wp2
      go_ret
      exact ⟨_, rfl, HO3.out, HB3.out⟩
end Go.Proofs.YtonpcgdnfclidaaGreatDoor
namespace Go.Proofs.YtonpcgdnfclidaaGreatDoor
open Go.RowKit Go.Sort
set_option maxRecDepth 100000

theorem blk_alt (f c : Int) : blkOk f c = (inB f 0 23 && inB c 1 (24 - f)) := by
  unfold blkOk inB
  rw [Bool.eq_iff_iff]
  simp only [Bool.and_eq_true, decide_eq_true_eq]
  omega
theorem IsValidBlock_any (f c : Int) (w : World) :
    Calls Tryz.prog 89 #[.agg #[.int .i64 f, .int .i64 c]] w fun e w' => e = .returned (.bool (blkOk f c)) ∧ Below w.heap.size w w' := by
  obtain ⟨bx, bc, -, -⟩ := box_facts w #[.int .i64 f, .int .i64 c] 96
  have q0 := bc 0 _ rfl
  have q1 := bc 1 _ rfl
  have HBX := Lib.hid bx
  have HV := Lib.hid (show blkOk f c = (decide (0 ≤ f) && (inB c 1 24 && decide (f ≤ 24 - c))) from rfl)
  clear bc bx
  generalize blkOk f c = q at *
  cases h0 : decide (0 ≤ f)
  · rw [h0] at HV
    go_enter Tryz.func89, Tryz.ntmps89
    go_wp2
    go_ret
    exact ⟨by rw [HV.out]; rfl, HBX.out⟩
  rw [h0] at HV
  cases h1 : inB c 1 24
  · rw [h1] at HV
    go_enter Tryz.func89, Tryz.ntmps89
    go_wp2_with (go_at_call 62; refine (within_any _ _ _ _).mono ?_; rintro e w' ⟨rfl, rfl⟩; rw [h1])
    go_ret
    exact ⟨by rw [HV.out]; rfl, HBX.out⟩
  rw [h1] at HV
  have hc := inB_true h1
  obtain ⟨d, hd⟩ : ∃ d, 24 - c = d := ⟨_, rfl⟩
  rw [hd] at HV
  have f1 : IntKind.i64.wrap (24 - c) = d := by rw [← hd]; exact IntWalk.i64_in _ (by omega)
  have f2 : wrap64 (24 - c) = d := by rw [← hd]; exact IntWalk.wrap64_in _ (by omega)
  clear hd hc
  cases h2 : decide (f ≤ d)
  all_goals
    rw [h2] at HV
    go_enter Tryz.func89, Tryz.ntmps89
    go_wp2_with (go_at_call 62; refine (within_any _ _ _ _).mono ?_; rintro e w' ⟨rfl, rfl⟩; rw [h1])
    go_ret
    exact ⟨by rw [HV.out]; rfl, HBX.out⟩
theorem l8Good_any (f c : Int) (w : World) :
    Calls Tryz.prog 112 #[.agg #[.int .i64 f, .int .i64 c]] w fun e w' => e = .returned (.bool (blkOk f c)) ∧ Below w.heap.size w w' := by
  obtain ⟨bx, bc, -, -⟩ := box_facts w #[.int .i64 f, .int .i64 c] 96
  have q0 := bc 0 _ rfl
  have q1 := bc 1 _ rfl
  have HBX := Lib.hid bx
  have HV := Lib.hid (blk_alt f c)
  clear bc bx
  generalize blkOk f c = q at *
  cases h1 : inB f 0 23
  · rw [h1] at HV
    go_enter Tryz.func112, Tryz.ntmps112
    go_wp2_with (go_at_call 82; refine (l1In_any _ _ _ _).mono ?_; rintro e w' ⟨rfl, rfl⟩; rw [h1])
    go_ret
    exact ⟨by rw [HV.out]; rfl, HBX.out⟩
  rw [h1] at HV
  have hf := inB_true h1
  obtain ⟨d, hd⟩ : ∃ d, 24 - f = d := ⟨_, rfl⟩
  rw [hd] at HV
  have f1 : IntKind.i64.wrap (24 - f) = d := by rw [← hd]; exact IntWalk.i64_in _ (by omega)
  have f2 : wrap64 (24 - f) = d := by rw [← hd]; exact IntWalk.wrap64_in _ (by omega)
  clear hd hf
  cases h2 : inB c 1 d
  all_goals
    rw [h2] at HV
    go_enter Tryz.func112, Tryz.ntmps112
    go_wp2_with (go_at_call 82; refine (l1In_any _ _ _ _).mono ?_; rintro e w' ⟨rfl, rfl⟩; first | rw [h1] | rw [h2])
    go_ret
    exact ⟨by rw [HV.out]; rfl, HBX.out⟩
end Go.Proofs.YtonpcgdnfclidaaGreatDoor
namespace Go.Proofs.YtonpcgdnfclidaaGreatDoor
open Go.RowKit Go.Sort
set_option maxRecDepth 100000

theorem mskN_bit (f c i : Nat) : (mskN f c).testBit i = (decide (f ≤ i) && decide (i < f + c)) := by
  unfold mskN
  rw [Nat.testBit_mul_two_pow, Nat.testBit_two_pow_sub_one]
  by_cases h : f ≤ i
  · simp only [h, decide_true, Bool.true_and]
    rw [decide_eq_decide]; omega
  · simp [h]
theorem mskN_meet (f c g d : Nat) (hc : 0 < c) (hd : 0 < d) : (mskN f c &&& mskN g d = 0) ↔ ¬ (f < g + d ∧ g < f + c) := by
  constructor
  · intro h ⟨h1, h2⟩
    have := congrArg (fun x => x.testBit (max f g)) h
    simp only [Nat.testBit_and, mskN_bit, Nat.zero_testBit, Bool.and_eq_false_iff, decide_eq_false_iff_not] at this
    omega
  · intro h
    apply Nat.eq_of_testBit_eq
    intro i
    simp only [Nat.testBit_and, mskN_bit, Nat.zero_testBit, Bool.and_eq_false_iff, decide_eq_false_iff_not]
    omega
theorem mskN_lt (f c : Nat) (h : f + c ≤ 24) : mskN f c < 16777216 := by
  unfold mskN
  have h1 : 2 ^ c * 2 ^ f ≤ 2 ^ 24 := by rw [← Nat.pow_add]; exact Nat.pow_le_pow_right (by omega) (by omega)
  have h2 : (2 ^ c - 1) * 2 ^ f + 2 ^ f = 2 ^ c * 2 ^ f := by
    have : 0 < 2 ^ c := Nat.two_pow_pos c
    rw [Nat.sub_mul, Nat.one_mul]
    exact Nat.sub_add_cancel (Nat.le_mul_of_pos_left _ this)
  have h3 : 0 < 2 ^ f := Nat.two_pow_pos f
  omega
theorem msk_val {f c : Nat} (h : f + c ≤ 24) : wrap64 (wrap64 (wrap64 ((2 : Int) ^ c) - 1) * (2 : Int) ^ f) = (mskN f c : Int) := by
  have hm := mskN_lt f c h
  have hc : 2 ^ c ≤ 2 ^ 24 := Nat.pow_le_pow_right (by omega) (by omega)
  have hc0 : 0 < 2 ^ c := Nat.two_pow_pos c
  have e1 : (2 : Int) ^ c = ((2 ^ c : Nat) : Int) := by simp
  have e2 : (2 : Int) ^ f = ((2 ^ f : Nat) : Int) := by simp
  rw [e1, e2]
  have w1 : wrap64 ((2 ^ c : Nat) : Int) = ((2 ^ c : Nat) : Int) := IntWalk.wrap64_in _ (by omega)
  have e3 : (((2 ^ c : Nat) : Int) - 1) = ((2 ^ c - 1 : Nat) : Int) := by omega
  have w2 : wrap64 ((2 ^ c - 1 : Nat) : Int) = ((2 ^ c - 1 : Nat) : Int) := IntWalk.wrap64_in _ (by omega)
  rw [w1, e3, w2, ← Int.natCast_mul]
  show wrap64 ((mskN f c : Nat) : Int) = _
  exact IntWalk.wrap64_in _ (by omega)
theorem maskOf_any (f c : Nat) (w : World) (h : f + c ≤ 24) :
    Calls Tryz.prog 91 #[.agg #[.int .i64 f, .int .i64 c]] w fun e w' => e = .returned (.int .i64 (mskN f c)) ∧ Below w.heap.size w w' := by
  obtain ⟨bx, bc, -, -⟩ := box_facts w #[.int .i64 f, .int .i64 c] 96
  have q0 := bc 0 _ rfl
  have q1 := bc 1 _ rfl
  have HBX := Lib.hid bx
  have HVV := Lib.hid (msk_val h)
  clear bc bx
  go_enter Tryz.func91, Tryz.ntmps91
  go_wp2
  go_quiet (fail)
  go_wp2
  go_ret
  exact ⟨by rw [← HVV.out]; rfl, ⟨HBX.out.os, HBX.out.tape, HBX.out.output, HBX.out.size, HBX.out.block⟩⟩
theorem l8Bits_any (f c : Nat) (w : World) (h : f + c ≤ 24) :
    Calls Tryz.prog 114 #[.agg #[.int .i64 f, .int .i64 c]] w fun e w' => e = .returned (.int .i64 (mskN f c)) ∧ Below w.heap.size w w' := by
  obtain ⟨bx, bc, -, -⟩ := box_facts w #[.int .i64 f, .int .i64 c] 96
  have q0 := bc 0 _ rfl
  have q1 := bc 1 _ rfl
  have HBX := Lib.hid bx
  have HVV := Lib.hid (msk_val h)
  clear bc bx
  go_enter Tryz.func114, Tryz.ntmps114
  go_wp2
  go_ret
  exact ⟨by rw [← HVV.out]; rfl, HBX.out⟩
theorem bits_and {a b : Nat} (ha : a < 16777216) (hb : b < 16777216) : bits .and .i64 (a : Int) (b : Int) = ((a &&& b : Nat) : Int) := by
  have hab : a &&& b ≤ a := Nat.and_le_left
  have e : (BitVec.ofInt 64 (a : Int) &&& BitVec.ofInt 64 (b : Int)).toNat = a &&& b := by
    rw [BitVec.toNat_and, BitVec.ofInt_natCast, BitVec.ofInt_natCast, BitVec.toNat_ofNat, BitVec.toNat_ofNat, Nat.mod_eq_of_lt (by omega), Nat.mod_eq_of_lt (by omega)]
  unfold bits
  show IntKind.i64.wrap (((BitVec.ofInt 64 (a : Int) &&& BitVec.ofInt 64 (b : Int)).toNat : Nat) : Int) = _
  rw [e, IntWalk.i64_in _ (by omega)]
theorem bits_meet {f c g d : Nat} (hc : 0 < c) (hd : 0 < d) (h1 : f + c ≤ 24) (h2 : g + d ≤ 24) : (bits .and .i64 (mskN f c : Int) (mskN g d : Int) != 0) = decide ((f : Int) < g + d ∧ (g : Int) < f + c) := by
  rw [bits_and (mskN_lt f c h1) (mskN_lt g d h2), Bool.eq_iff_iff, bne_iff_ne, decide_eq_true_eq]
  have := mskN_meet f c g d hc hd
  omega
end Go.Proofs.YtonpcgdnfclidaaGreatDoor
namespace Go.Proofs.YtonpcgdnfclidaaGreatDoor
open Go.RowKit Go.Sort
set_option maxRecDepth 100000

theorem meets_yes {xs ys : List Int} {k : Nat} (hk : k < xs.length) (h : ys.contains (xs[k]?.getD 0) = true) : meets xs ys = true := by
  rw [List.getElem?_eq_getElem hk] at h
  unfold meets
  rw [List.any_eq_true]
  exact ⟨xs[k], List.getElem_mem hk, h⟩
theorem meets_more {xs ys : List Int} {k : Nat} (hk : k < xs.length) (h : meets (xs.take k) ys = false) (h2 : ys.contains (xs[k]?.getD 0) = false) : meets (xs.take (k + 1)) ys = false := by
  rw [List.getElem?_eq_getElem hk] at h2
  unfold meets at h ⊢
  rw [List.take_add_one, List.any_append, h, List.getElem?_eq_getElem hk]
  simpa using h2
theorem meets_cmn (xs ys : List Int) : meets xs ys = decide (0 < (ust (cmn xs ys)).length) := by
  rw [Bool.eq_iff_iff, decide_eq_true_eq]
  unfold meets
  rw [List.any_eq_true]
  constructor
  · rintro ⟨x, hx, hy⟩
    have : x ∈ ust (cmn xs ys) := ust_mem.2 (List.mem_filter.2 ⟨hx, hy⟩)
    exact List.length_pos_of_mem this
  · intro h
    obtain ⟨x, hx⟩ := List.exists_mem_of_length_pos h
    have := List.mem_filter.1 (ust_mem.1 hx)
    exact ⟨x, this.1, this.2⟩
set_option maxHeartbeats 1600000 in
theorem l4Uses_any (va vb : Value) (r : Rou) (ys : List Int) (w : World) (ha : Rd w va r.fb) (hb : Rd w vb ys) :
    Calls Tryz.prog 113 #[.agg #[.int .i64 r.st, va], vb] w fun e w' => e = .returned (.bool (meets r.fb ys)) ∧ Below w.heap.size w w' := by
  obtain ⟨a, ca, n, HN, rfl, _, hn, hca⟩ := ha.opn
  have HC := Lib.hid (fun x w' (hw : Below w.heap.size w w') => l1Has_any vb ys x w' (hb.belowAll hw))
  obtain ⟨b, cb, m, -, rfl, -, -, -⟩ := hb.opn
  obtain ⟨bx, bc, blt, -⟩ := box_facts w #[.int .i64 r.st, .slice a n ca] 94
  have q1 := bc 1 _ rfl
  have HBX := Lib.hid bx
  have HA := Lib.hid hca
  have HY := Lib.hid (fun k h1 h2 => @meets_yes r.fb ys k h1 h2)
  have HZ := Lib.hid (fun k h1 h2 h3 => @meets_more r.fb ys k h1 h2 h3)
  have HT := Lib.hid (show r.fb.take n = r.fb from List.take_of_length_le (Nat.le_of_eq HN.out))
  rw [HN.out] at HY HZ
  clear hca ha hb bc bx
  generalize hxs : r.fb = xs at *
  go_enter Tryz.func113, Tryz.ntmps113
  go_wp2
  generalize w.alloc (.cells #[.int .i64 r.st, .slice a n ca] 94) = w2 at *
  go_loopw [5] (fun i wr => ∃ k : Nat, k ≤ n ∧ i = .int .i64 k ∧ Hid (meets (xs.take k) ys = false) ∧ wr = w2) (fun i _ => n - (intOf i).toNat)
  case atStart => exact ⟨0, Nat.zero_le _, rfl, rfl, rfl⟩
  case round =>
    obtain ⟨k, hk, rfl, HM, rfl⟩ := hrel
    by_cases hlt : k < n
    · have hltI : (k : Int) < (n : Int) := by omega
      obtain ⟨b', off, rfl, hbs, hcs⟩ := HA.out (by omega)
      have c0 := (HBX.out.cell (p := ⟨b', off + k, none⟩) hbs).trans (hcs k hlt)
      have HY1 := Lib.hid (HY.out k hlt)
      have HZ1 := Lib.hid (HZ.out k hlt HM.out)
      have HC1 := Lib.hid (HC.out (xs[k]?.getD 0) wr HBX.out)
      clear hcs
      generalize xs[k]?.getD 0 = x at *
      cases hcn : ys.contains x
      · have HE := Lib.hid (HZ1.out hcn)
        rw [hcn] at HC1
        clear hcn
        go_wp2_with (go_at_call 140; refine (HC1.out).mono ?_; rintro e w' ⟨rfl, rfl⟩)
        go_roundw
        case rel => exact ⟨k + 1, hlt, by go_num, HE.out, trivial⟩
        case measure => simp [intOf]; omega
      · have HE := Lib.hid (HY1.out hcn)
        rw [hcn] at HC1
        clear hcn
        go_wp2_with (go_at_call 140; refine (HC1.out).mono ?_; rintro e w' ⟨rfl, rfl⟩)
        go_ret
        exact ⟨by rw [HE.out]; rfl, HBX.out⟩
    · obtain rfl : n = k := by omega
      rw [HT.out] at HM
      go_wp2
      go_ret
      exact ⟨by rw [HM.out]; rfl, HBX.out⟩
end Go.Proofs.YtonpcgdnfclidaaGreatDoor
