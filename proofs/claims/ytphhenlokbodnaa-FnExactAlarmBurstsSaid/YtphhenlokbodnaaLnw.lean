/- Walks: the laws' functions on networks. -/
import Derived.Test.YtphhenlokbodnaaLst
import Derived.Test.YtphhenlokbodnaaLfb
namespace Go.Proofs.Ytphhenlokbodnaa
open Go.RowKit Go.Sort
set_option maxRecDepth 100000

def NetSm (n : Net) : Prop := ∀ i : Nat, (nmA n i).size ≤ 1048576
/-- The value of an argument reads as the network. -/
def NetW (w : World) (v : Value) (n : Net) : Prop := ∃ u1 u2, v = .agg #[u1, u2] ∧ Rwt w (flt 1 strE n.ns) u1 ∧ Rwt w (flt 4 fibE n.fs) u2 ∧ ∀ i : Nat, (nmA n i).size ≤ maxLen
theorem NetW.behind {w w' : World} {v : Value} {n : Net} (h : NetW w v n) (hb : Below w.heap.size w w') : NetW w' v n := by
  obtain ⟨u1, u2, e, h1, h2, h3⟩ := h; exact ⟨u1, u2, e, h1.behind hb, h2.behind hb, h3⟩
/-- The value is the network, in these blocks of the call's own. -/
def NetO (w : World) (n : Net) (v : Value) (fp : List Nat) : Prop := ∃ u1 u2 f1 f2, v = .agg #[u1, u2] ∧ Odt w (flt 1 strE n.ns) u1 f1 ∧ Odt w (flt 4 fibE n.fs) u2 f2 ∧ fp = f1 ++ f2
theorem NetO.rd {w : World} {n : Net} {v : Value} {fp : List Nat} (h : NetO w n v fp) (hs : NetSm n) : NetR w v n := by
  obtain ⟨u1, u2, f1, f2, e, h1, h2, _⟩ := h; exact ⟨u1, u2, e, h1.rd, h2.rd, hs⟩
theorem NetO.behind {w w' : World} {n : Net} {v : Value} {fp : List Nat} (h : NetO w n v fp) (hb : Below w.heap.size w w') : NetO w' n v fp := by
  obtain ⟨u1, u2, f1, f2, e, h1, h2, e2⟩ := h; exact ⟨u1, u2, f1, f2, e, h1.behind hb, h2.behind hb, e2⟩
theorem NetO.apart {w w' : World} {n : Net} {v : Value} {fp fq : List Nat} (h : NetO w n v fp) (hw : Wr w w' fq) (hd : ∀ k ∈ fp, k ∉ fq) : NetO w' n v fp := by
  obtain ⟨u1, u2, f1, f2, e, h1, h2, rfl⟩ := h
  exact ⟨u1, u2, f1, f2, e, h1.apart hw (fun k hk => hd k (List.mem_append_left _ hk)), h2.apart hw (fun k hk => hd k (List.mem_append_right _ hk)), rfl⟩
theorem NetO.lt {w : World} {n : Net} {v : Value} {fp : List Nat} (h : NetO w n v fp) : ∀ k ∈ fp, k < w.heap.size := by
  obtain ⟨u1, u2, f1, f2, e, h1, h2, rfl⟩ := h
  intro k hk
  rcases List.mem_append.1 hk with hk | hk
  · exact h1.lt k hk
  · exact h2.lt k hk
theorem Rwt.slice {w : World} {size : Nat} {ds : List Dt} {v : Value} (h : Rwt w (.rows size ds) v) : ∃ a n cap, v = .slice a n cap := by
  obtain ⟨a, n, cap, e, _⟩ := h.opn; exact ⟨a, n, cap, e⟩
theorem Rdt.slice {w : World} {size : Nat} {ds : List Dt} {v : Value} (h : Rdt w (.rows size ds) v) : ∃ a n cap, v = .slice a n cap := by
  obtain ⟨a, n, cap, e, _⟩ := h.opn; exact ⟨a, n, cap, e⟩
theorem NetO.form {w : World} {n : Net} {v : Value} {fp : List Nat} (h : NetO w n v fp) : ∃ a1 n1 c1 a2 n2 c2, v = .agg #[.slice a1 n1 c1, .slice a2 n2 c2] := by
  obtain ⟨u1, u2, f1, f2, rfl, h1, h2, _⟩ := h
  obtain ⟨a1, n1, c1, rfl⟩ := Rdt.slice (show Rdt w (.rows _ _) u1 from h1.rd)
  obtain ⟨a2, n2, c2, rfl⟩ := Rdt.slice (show Rdt w (.rows _ _) u2 from h2.rd)
  exact ⟨_, _, _, _, _, _, rfl⟩
def szN (n : Net) : Nat := n.ns.length + totS n.ns + n.fs.length
def SzQ (N : Nat) (l : Int) (w : World) (e : Ending) (w' : World) : Prop := ∃ r : Int, e = .returned (.int .i64 r) ∧ Below w.heap.size w w' ∧ ((r = -1 ∧ l < N) ∨ (r = l - N ∧ 0 ≤ r))
set_option maxHeartbeats 1600000 in
theorem szNetwork_any (v : Value) (n : Net) (l : Int) (w : World) (h : NetW w v n) (h0 : 0 ≤ l) (h1 : l ≤ 1048576) :
    Calls Try.prog 7 #[v, .int .i64 l] w (SzQ (szN n) l w) := by
  obtain ⟨u1, u2, rfl, r1, r2, hs⟩ := h
  have hal := (Below.refl w.heap.size w).alloc (Nat.le_refl _) (.cells #[u1, u2] 25)
  have HS1 := Lib.hid (szStringS_any u1 n.ns l _ (r1.behind hal) h0 h1 hs)
  have HS2 := Lib.hid (fun l' (h0 : 0 ≤ l') (h1 : l' ≤ 1048576) => szFiberS_any u2 n.fs l' _ (r2.behind hal) h0 h1)
  have HB := Lib.hid hal
  obtain ⟨a1, n1, c1, rfl⟩ := r1.slice
  obtain ⟨a2, n2, c2, rfl⟩ := r2.slice
  clear hal r1 r2 hs
  have HN := Lib.hid (show szN n = n.ns.length + totS n.ns + n.fs.length from rfl)
  generalize szN n = N at *
  unfold SzQ
  by_cases hx : l < (n.ns.length : Int) + totS n.ns
  · rw [if_pos hx] at HS1
    have hneg : (-1 : Int) < 0 := by omega
    go_enter Try.func7, Try.ntmps7
    go_wp2_with fail
    refine HS1.out.mono ?_
    rintro e w2 ⟨rfl, rfl⟩
    go_wp2
    go_ret
    exact ⟨-1, rfl, HB.out, .inl ⟨rfl, by have := HN.out; omega⟩⟩
  rw [if_neg hx] at HS1
  have HS3 := Lib.hid (HS2.out (l - ((n.ns.length : Int) + totS n.ns)) (by omega) (by omega))
  have HX := Lib.hid hx
  obtain ⟨r, hr⟩ : ∃ r, r = l - ((n.ns.length : Int) + totS n.ns) := ⟨_, rfl⟩
  rw [← hr] at HS1 HS3
  have hr0 : ¬ r < 0 := by omega
  have hrb : decide (r < 0) = false := decide_eq_false hr0
  have HR := Lib.hid hr
  clear hr HS2 hx
  by_cases hy : r < (n.fs.length : Int)
  · rw [if_pos hy] at HS3
    have hneg : (-1 : Int) < 0 := by omega
    have HY := Lib.hid hy
    clear hy
    go_enter Try.func7, Try.ntmps7
    go_wp2_with fail
    refine HS1.out.mono ?_
    rintro e w2 ⟨rfl, rfl⟩
    go_wp2_with fail
    refine HS3.out.mono ?_
    rintro e w2 ⟨rfl, rfl⟩
    go_wp2
    go_ret
    exact ⟨-1, rfl, HB.out, .inl ⟨rfl, by have := HN.out; have := HR.out; have := HY.out; omega⟩⟩
  · rw [if_neg hy] at HS3
    have HY := Lib.hid hy
    obtain ⟨r2, hr2⟩ : ∃ r2, r2 = r - (n.fs.length : Int) := ⟨_, rfl⟩
    rw [← hr2] at HS3
    have hr20 : ¬ r2 < 0 := by omega
    have hr2b : decide (r2 < 0) = false := decide_eq_false hr20
    have HR2 := Lib.hid hr2
    clear hr2 hy
    go_enter Try.func7, Try.ntmps7
    go_wp2_with fail
    refine HS1.out.mono ?_
    rintro e w2 ⟨rfl, rfl⟩
    go_wp2_with fail
    refine HS3.out.mono ?_
    rintro e w2 ⟨rfl, rfl⟩
    go_wp2
    go_ret
    exact ⟨r2, rfl, HB.out, .inr ⟨by have := HN.out; have := HR.out; have := HR2.out; omega, by omega⟩⟩
/-- An own copy. -/
def ToP (O : World → Value → List Nat → Prop) (w : World) (e : Ending) (w' : World) : Prop := ∃ v' fp, e = .returned v' ∧ O w' v' fp ∧ fp.Nodup ∧ (∀ k ∈ fp, w.heap.size ≤ k) ∧ Below w.heap.size w w'
set_option maxHeartbeats 1600000 in
theorem toNetwork_any (v : Value) (n : Net) (w : World) (h : NetW w v n) (h1 : n.ns.length ≤ 1048576) (h2 : n.fs.length ≤ 1048576) :
    Calls Try.prog 10 #[v] w (ToP (fun w' => NetO w' n) w) := by
  obtain ⟨u1, u2, rfl, r1, r2, hs⟩ := h
  obtain ⟨a1, n1, c1, rfl⟩ := r1.slice
  obtain ⟨a2, n2, c2, rfl⟩ := r2.slice
  obtain ⟨W, hW⟩ : ∃ W, W = ((w.alloc (.cells #[.slice a1 n1 c1, .slice a2 n2 c2] 25)).alloc (.cells #[.slice none 0 0, .slice none 0 0] 32)).alloc (.cells #[.slice none 0 0, .slice none 0 0] 32) := ⟨_, rfl⟩
  have b1 := (Below.refl w.heap.size w).alloc (Nat.le_refl _) (.cells #[.slice a1 n1 c1, .slice a2 n2 c2] 25)
  have b2 := b1.alloc b1.size (.cells #[.slice none 0 0, .slice none 0 0] 32)
  have b3 := b2.alloc b2.size (.cells #[.slice none 0 0, .slice none 0 0] 32)
  have k1 := heap_alloc_new w (.cells #[.slice a1 n1 c1, .slice a2 n2 c2] 25)
  have k2 := heap_alloc_new (w.alloc (.cells #[.slice a1 n1 c1, .slice a2 n2 c2] 25)) (.cells #[.slice none 0 0, .slice none 0 0] 32)
  have k3 := heap_alloc_new ((w.alloc (.cells #[.slice a1 n1 c1, .slice a2 n2 c2] 25)).alloc (.cells #[.slice none 0 0, .slice none 0 0] 32)) (.cells #[.slice none 0 0, .slice none 0 0] 32)
  have k1' := (heap_alloc_old _ (.cells #[.slice none 0 0, .slice none 0 0] 32) (Array.getElem?_eq_some_iff.1 ((heap_alloc_old _ (.cells #[.slice none 0 0, .slice none 0 0] 32) (Array.getElem?_eq_some_iff.1 k1).1).trans k1)).1).trans ((heap_alloc_old _ (.cells #[.slice none 0 0, .slice none 0 0] 32) (Array.getElem?_eq_some_iff.1 k1).1).trans k1)
  have k2' := (heap_alloc_old _ (.cells #[.slice none 0 0, .slice none 0 0] 32) (Array.getElem?_eq_some_iff.1 k2).1).trans k2
  rw [show (w.alloc (.cells #[.slice a1 n1 c1, .slice a2 n2 c2] 25)).heap.size = w.heap.size + 1 by simp] at k2'
  rw [show ((w.alloc (.cells #[.slice a1 n1 c1, .slice a2 n2 c2] 25)).alloc (.cells #[.slice none 0 0, .slice none 0 0] 32)).heap.size = w.heap.size + 1 + 1 by simp] at k3
  have hz : (((w.alloc (.cells #[.slice a1 n1 c1, .slice a2 n2 c2] 25)).alloc (.cells #[.slice none 0 0, .slice none 0 0] 32)).alloc (.cells #[.slice none 0 0, .slice none 0 0] 32)).heap.size = w.heap.size + 1 + 1 + 1 := by simp
  rw [← hW] at b3 k1' k2' k3 hz
  have HW := Lib.hid hW
  have HB := Lib.hid b3
  have K1 := Lib.hid k1'
  have K2 := Lib.hid k2'
  have K3 := Lib.hid k3
  have HZ := Lib.hid hz
  have HT1 := Lib.hid (toStringS_any _ n.ns W (r1.behind b3) h1)
  have HT2 := Lib.hid (fun w' (hb : Below w.heap.size w w') => toFiberS_any _ n.fs w' (r2.behind hb) h2)
  unfold ToP
  clear b1 b2 b3 k1 k2 k3 k1' k2' hW hz r1 r2 hs
  go_enter Try.func10, Try.ntmps10
  go_wp2_with fail
  rw [← HW.out]
  refine HT1.out.mono ?_
  rintro e w2 ⟨x1, rfl, o1, b2⟩
  obtain ⟨f1, p1, p2, p3⟩ := o1
  obtain ⟨a3, n3, c3, rfl⟩ := Rdt.slice (show Rdt w2 (.rows _ _) x1 from p1.rd)
  have m1 := kept_o' K1.out b2
  have m3 := kept_o' K3.out b2
  have y1 := blkc m1 (j := 1) (u := .slice a2 n2 c2) rfl
  have q0 := blkc m3 (j := 0) (u := .slice none 0 0) rfl
  have g0 := frozen_of_row _ _ 0 _ _ m3
  have hz2 := b2.size
  have HB2 := Lib.hid (HB.out.trans (b2.mono HB.out.size))
  have M1 := Lib.hid m1
  have M2 := Lib.hid (kept_o' K2.out b2)
  have M3 := Lib.hid m3
  have P1 := Lib.hid p1
  have PL := Lib.hid p1.lt
  have P2 := Lib.hid p2
  have P3 := Lib.hid p3
  have HBW := Lib.hid b2
  clear b2 m1 m3 HW p1 p2 p3
  have hlt3 : w.heap.size + 1 + 1 < w2.heap.size := by have := HZ.out; omega
  go_wp2_with (((show wpList _ _ _ (⟨none, .store 22 _ _, _, _, _, _⟩ :: _) _ _); refine wpList_st1 rfl 22 _ _ rfl (w.heap.size + 1 + 1) 0 (.slice a3 n3 c3) rfl rfl M3.out (by simp) (by kernel_rfl) ⟨rfl, rfl⟩ ?_; intro w3 hs; have n1 := hs.keep (by omega) M1.out; have N2 := Lib.hid (hs.keep (by omega) M2.out); have N3 := Lib.hid hs.blk; have HB3 := Lib.hid (hs.below w.heap.size w (by omega) HB2.out); have P1 := Lib.hid (hs.odt P1.out (fun hk => by have := P3.out _ hk; have := HZ.out; omega)); have HSZ := Lib.hid hs.size; have y1 := blkc n1 (j := 1) (u := .slice a2 n2 c2) rfl; have N1 := Lib.hid n1; clear hs n1))
  go_wp2_with fail
  refine (HT2.out _ HB3.out).mono ?_
  rintro e w4 ⟨x2, rfl, o2, b4⟩
  obtain ⟨f2, p1, p2, p3⟩ := o2
  obtain ⟨a4, n4, c4, rfl⟩ := Rdt.slice (show Rdt w4 (.rows _ _) x2 from p1.rd)
  have M1 := Lib.hid (kept_o' N1.out b4)
  have M2 := Lib.hid (kept_o' N2.out b4)
  have M3 := Lib.hid (kept_o' N3.out b4)
  have HB4 := Lib.hid (HB3.out.trans (b4.mono HB3.out.size))
  have P1 := Lib.hid (P1.out.behind b4)
  have Q1 := Lib.hid p1
  have Q2 := Lib.hid p2
  have Q3 := Lib.hid (show ∀ k ∈ f2, w2.heap.size ≤ k from fun k hk => by have := p3 k hk; have := HSZ.out; omega)
  clear b4 p1 p2 p3 y1 N1 N2 N3
  go_wp2_with (first
    | ((show wpList _ _ _ (⟨none, .store 30 _ _, _, _, _, _⟩ :: _) _ _); refine wpList_st1 rfl 30 _ _ rfl (w.heap.size + 1 + 1) 1 (.slice a4 n4 c4) rfl rfl M3.out (by simp) (by kernel_rfl) ⟨rfl, rfl⟩ ?_; intro w5 hs; have N2 := Lib.hid (hs.keep (by omega) M2.out); have N3 := Lib.hid hs.blk; have HB5 := Lib.hid (hs.below w.heap.size w (by omega) HB4.out); have P1 := Lib.hid (hs.odt P1.out (fun hk => by have := P3.out _ hk; have := HZ.out; omega)); have Q1 := Lib.hid (hs.odt Q1.out (fun hk => by have := Q3.out _ hk; omega)); clear hs)
    | ((show wpList _ _ _ (⟨some _, .load 32 _, _, _, _, _⟩ :: _) _ _); refine wpList_ldx rfl 32 _ rfl (w.heap.size + 1 + 1) 0 rfl [.slice a3 n3 c3, .slice a4 n4 c4] N3.out rfl _ (by exact Try.underlying32) rfl (by kernel_rfl) ?_)
    | ((show wpList _ _ _ (⟨none, .store 32 _ _, _, _, _, _⟩ :: _) _ _); refine wpList_stx rfl 32 _ _ rfl (w.heap.size + 1) 0 [.slice a3 n3 c3, .slice a4 n4 c4] rfl rfl N2.out (by simp) (by kernel_rfl) (by simp [Value.oneCell']) ?_; intro w6 hs; have n2 := hs.blk; have HB6 := Lib.hid (hs.below w.heap.size w (by omega) HB5.out); have P1 := Lib.hid (hs.odt P1.out (fun hk => by have := P3.out _ hk; have := HZ.out; omega)); have Q1 := Lib.hid (hs.odt Q1.out (fun hk => by have := Q3.out _ hk; omega)); clear hs; have r0 := blkc n2 (j := 0) (u := .slice a3 n3 c3) rfl; have r1 := blkc n2 (j := 1) (u := .slice a4 n4 c4) rfl))
  exact bodyPost_ret (v := .agg #[.slice a3 n3 c3, .slice a4 n4 c4]) (by simp [results, Try.results10, go_sem, r0, r1]) rfl ⟨_, f1 ++ f2, rfl, ⟨_, _, _, _, rfl, P1.out, Q1.out, rfl⟩, List.nodup_append.2 ⟨P2.out, Q2.out, fun a ha b hb e => by have := PL.out a ha; have := Q3.out b hb; omega⟩, fun k hk => by
    rcases List.mem_append.1 hk with hk | hk
    · have := P3.out k hk; have := HZ.out; omega
    · have := Q3.out k hk; omega, HB6.out⟩
theorem eqNetwork_same (va vb : Value) (n : Net) (w : World) (ha : NetR w va n) (hb : NetR w vb n) :
    Calls Try.prog 13 #[va, vb] w fun e w' => e = .returned (.bool true) ∧ Below w.heap.size w w' := by
  obtain ⟨u1, u2, rfl, r1, r2, -⟩ := ha
  obtain ⟨v1, v2, rfl, s1, s2, -⟩ := hb
  obtain ⟨a1, n1, c1, rfl⟩ := Rdt.slice (show Rdt w (.rows _ _) u1 from r1)
  obtain ⟨a2, n2, c2, rfl⟩ := Rdt.slice (show Rdt w (.rows _ _) u2 from r2)
  obtain ⟨a3, n3, c3, rfl⟩ := Rdt.slice (show Rdt w (.rows _ _) v1 from s1)
  obtain ⟨a4, n4, c4, rfl⟩ := Rdt.slice (show Rdt w (.rows _ _) v2 from s2)
  have h1 := (Below.refl w.heap.size w).alloc (Nat.le_refl _) (.cells #[.slice a1 n1 c1, .slice a2 n2 c2] 32)
  have h2 := h1.alloc h1.size (.cells #[.slice a3 n3 c3, .slice a4 n4 c4] 32)
  have HE1 := Lib.hid (eqStringS_same _ _ n.ns _ (r1.behind h2) (s1.behind h2))
  have HE2 := Lib.hid (fun w' (hb : Below w.heap.size w w') => eqFiberS_same _ _ n.fs w' (r2.behind hb) (s2.behind hb))
  have HB := Lib.hid h2
  clear h1 h2 r1 r2 s1 s2
  go_enter Try.func13, Try.ntmps13
  go_wp2_with fail
  refine HE1.out.mono ?_
  rintro e w2 ⟨rfl, b2⟩
  obtain ⟨hc, hf⟩ := bcell b2
  have HB2 := Lib.hid (HB.out.trans (b2.mono HB.out.size))
  clear b2
  go_wp2_with fail
  refine (HE2.out _ HB2.out).mono ?_
  rintro e w3 ⟨rfl, b3⟩
  have HB3 := Lib.hid (HB2.out.trans (b3.mono HB2.out.size))
  clear b3 hc hf
  go_wp2
  go_ret
  exact ⟨rfl, HB3.out⟩
def mkNet (n : Net) (q : Nat) : Net := ⟨(List.range n.ns.length).map fun i : Nat => mkTx (q + i), (List.range n.fs.length).map fun i : Nat => mkFib (((q + n.ns.length : Nat) : Int) + 4 * (i : Int))⟩
def mkN (n : Net) : Nat := n.ns.length + 4 * n.fs.length
theorem markNetwork_any (v : Value) (n : Net) (fp : List Nat) (q : Nat) (w : World) (h : NetO w n v fp) (hn : fp.Nodup) (h1 : n.ns.length ≤ 1048576) (h2 : n.fs.length ≤ 1048576) (hq : 0 < q) (hq2 : q ≤ 1099511627776) :
    Calls Try.prog 18 #[v, .int .i64 (q : Int)] w fun e w' => e = .returned (.int .i64 ((q + mkN n : Nat) : Int)) ∧ NetO w' (mkNet n q) v fp ∧ Wr w w' fp := by
  obtain ⟨u1, u2, f1, f2, rfl, r1, r2, rfl⟩ := h
  obtain ⟨hn1, hn2, hn3⟩ := List.nodup_append.1 hn
  obtain ⟨a1, n1, c1, rfl⟩ := Rdt.slice (show Rdt w (.rows _ _) u1 from r1.rd)
  obtain ⟨a2, n2, c2, rfl⟩ := Rdt.slice (show Rdt w (.rows _ _) u2 from r2.rd)
  obtain ⟨bx, bc, blt, -⟩ := box_facts w #[.slice a1 n1 c1, .slice a2 n2 c2] 32
  have q1 := bc 1 (.slice a2 n2 c2) rfl
  have hlt1 := r1.lt
  have hlt2 := r2.lt
  have HM1 := Lib.hid (markStringS_any _ n.ns f1 q _ (r1.behind bx) hn1 (by omega) hq (by omega))
  have R2 := Lib.hid (r2.behind bx)
  have HBX := Lib.hid bx
  have HL := Lib.hid hlt1
  have HL2 := Lib.hid hlt2
  have HD := Lib.hid hn3
  have HN := Lib.hid (show mkN n = n.ns.length + 4 * n.fs.length from rfl)
  have HMK := Lib.hid (show mkNet n q = ⟨(List.range n.ns.length).map fun i : Nat => mkTx (q + i), (List.range n.fs.length).map fun i : Nat => mkFib (((q + n.ns.length : Nat) : Int) + 4 * (i : Int))⟩ from rfl)
  have H1 := Lib.hid h1
  have H2 := Lib.hid h2
  generalize mkN n = N at *
  generalize mkNet n q = nn at *
  clear bx bc r1 r2 hlt1 hlt2 hn hn3 h1 h2
  go_enter Try.func18, Try.ntmps18
  go_wp2_with fail
  generalize w.alloc (.cells #[.slice a1 n1 c1, .slice a2 n2 c2] 32) = w1 at *
  refine HM1.out.mono ?_
  rintro e w2 ⟨rfl, o1, wr1⟩
  have e1 : w2.cell? ⟨w.heap.size, 1, none⟩ = some (.slice a2 n2 c2) := by
    unfold World.cell? at q1 ⊢
    rw [wr1.block _ blt (fun hk => by have := HL.out _ hk; omega)]
    exact q1
  have O2 := Lib.hid (R2.out.apart wr1 (fun k hk hk2 => HD.out k hk2 k hk rfl))
  have HM2 := Lib.hid (markFiberS_any _ n.fs f2 (((q + n.ns.length : Nat) : Int)) w2 O2.out hn2 (by have := H2.out; omega) (by omega) (by have := H1.out; omega))
  have O1 := Lib.hid o1
  have W1 := Lib.hid wr1
  clear o1 wr1 q1
  rw [show ((q : Nat) : Int) + (n.ns.length : Int) = ((q + n.ns.length : Nat) : Int) by omega]
  go_wp2_with fail
  refine HM2.out.mono ?_
  rintro e w3 ⟨rfl, o2, wr2⟩
  have O1 := Lib.hid (O1.out.apart wr2 (fun k hk hk2 => HD.out k hk k hk2 rfl))
  have HW := Lib.hid (((Wr.of_below HBX.out : Wr w w1 (f1 ++ f2)).trans (W1.out.mono (fun k hk => List.mem_append_left _ hk))).trans (wr2.mono (fun k hk => List.mem_append_right _ hk)))
  have O2 := Lib.hid o2
  clear o2 wr2
  go_wp2
  go_ret
  exact ⟨ret_int (by rw [HN.out]; omega), ⟨_, _, f1, f2, rfl, by rw [HMK.out]; exact O1.out, by rw [HMK.out]; exact O2.out, rfl⟩, HW.out⟩
end Go.Proofs.Ytphhenlokbodnaa
