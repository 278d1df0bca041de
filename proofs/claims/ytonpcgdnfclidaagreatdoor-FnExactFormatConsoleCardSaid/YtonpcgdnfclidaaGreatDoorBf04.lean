/- Joined: XLfb XLnw XRow XPlnP XExa XHas XPsh XRou. -/
import Derived.Test.YtonpcgdnfclidaaGreatDoorBf03
import Derived.Test.YtonpcgdnfclidaaGreatDoorBf02
import Derived.Test.YtonpcgdnfclidaaGreatDoorBf01
import Derived.ArgAppend
import Derived.Lib.QuietBelow
namespace Go.Proofs.YtonpcgdnfclidaaGreatDoor
open Go.RowKit Go.Sort
set_option maxRecDepth 100000

theorem szFiberS_any (v : Value) (zs : List Fib) (l : Int) (w : World) (h : Rwt w (flt 4 fibE zs) v) (h0 : 0 ≤ l) (h1 : l ≤ 1048576) :
    Calls Tryz.prog 36 #[v, .int .i64 l] w fun e w' => e = .returned (.int .i64 (if l < zs.length then -1 else l - zs.length)) ∧ w = w' := by
  obtain ⟨a, n, cap, rfl, HN, hla, _⟩ := flt_opnw (m := 4) (enc := fibE) (fun _ => rfl) (by omega) nilB h
  rw [HN.out]
  clear h
  by_cases hc : l - n < 0
  · have hb : decide (l - n < 0) = true := by simpa using hc
    have e : (if l < (n : Int) then (-1 : Int) else l - n) = -1 := if_pos (by omega)
    rw [e]
    go_enter Tryz.func36, Tryz.ntmps36
    go_wp2
    go_ret
    exact ⟨rfl, rfl⟩
  · have hb : decide (l - n < 0) = false := by simpa using hc
    have e : (if l < (n : Int) then (-1 : Int) else l - n) = l - n := if_neg (by omega)
    rw [e]
    go_enter Tryz.func36, Tryz.ntmps36
    go_wp2
    go_ret
    exact ⟨rfl, rfl⟩
theorem toFiber_any (z : Fib) (w : World) :
    Calls Tryz.prog 66 #[fibV z] w fun e w' => e = .returned (fibV z) ∧ Below w.heap.size w w' := by
  unfold fibV
  go_enter Tryz.func66, Tryz.ntmps66
  go_wp2
  exact bodyPost_ret (v := .agg #[.int .i64 z.a, .int .i64 z.b, .int .i64 z.l, .int .i64 z.r]) (by simp [results, Tryz.results66, go_sem]) rfl ⟨rfl, (((Below.refl _ _).alloc (Nat.le_refl _) _).alloc (by simp) _).alloc (by simp; omega) _⟩
theorem eqFiber_same (z : Fib) (w : World) :
    Calls Tryz.prog 67 #[fibV z, fibV z] w fun e w' => e = .returned (.bool true) ∧ Below w.heap.size w w' := by
  have n0 : (z.a != z.a) = false := by simp
  have n1 : (z.b != z.b) = false := by simp
  have n2 : (z.l != z.l) = false := by simp
  have n3 : (z.r != z.r) = false := by simp
  have HB := Lib.hid (((Below.refl w.heap.size w).alloc (Nat.le_refl _) (.cells #[.int .i64 z.a, .int .i64 z.b, .int .i64 z.l, .int .i64 z.r] 110)).alloc (by simp) (.cells #[.int .i64 z.a, .int .i64 z.b, .int .i64 z.l, .int .i64 z.r] 110))
  unfold fibV
  go_enter Tryz.func67, Tryz.ntmps67
  go_wp2
  go_ret
  exact ⟨rfl, HB.out⟩
theorem Tryz.infoFiber : (Tryz.prog.info? 110).map (fun i => (i.zero, i.size, i.bytes)) = some (some (.agg #[.int .i64 0, .int .i64 0, .int .i64 0, .int .i64 0]), 4, 32) := by kernel_rfl
set_option maxHeartbeats 1600000 in
theorem toFiberS_any (v : Value) (zs : List Fib) (w : World) (h : Rwt w (flt 4 fibE zs) v) (hr : zs.length ≤ 1048576) :
    Calls Tryz.prog 39 #[v] w fun e w' => ∃ v', e = .returned v' ∧ Ofr w' w.heap.size (flt 4 fibE zs) v' ∧ Below w.heap.size w w' := by
  obtain ⟨i0, hi, hz0, hz1, hz2⟩ := info_parts Tryz.infoFiber
  obtain ⟨a, n, cap, rfl, HN, hn, ha⟩ := flt_opnw (m := 4) (enc := fibE) (fun _ => rfl) (by omega) nilB h
  have HA := Lib.hid ha
  have HL := Lib.hid (fun k hk => fillG_len nilB zs n k HN.out hk)
  have HST := Lib.hid (fun k hk => fillG_step nilB zs n k HN.out hk)
  have HAL := Lib.hid (fillG_all nilB zs n HN.out)
  rw [HN.out] at hr
  clear ha h
  go_enter Tryz.func39, Tryz.ntmps39
  go_wp2_with (refine wpList_make_full _ rfl _ _ 36 rfl w.heap.size 110 i0 (.agg #[.int .i64 0, .int .i64 0, .int .i64 0, .int .i64 0]) 4 Tryz.underlying36 hi hz0 hz1 _ _ _ _ n rfl rfl rfl rfl (by rw [hz2]; omega) (by unfold maxLen; omega) (Nat.le_refl _) ?_; intro w1 hown1 hgrow1)
  have HO1 := Lib.hid (show Ofr w1 w.heap.size (flt 4 fibE (fillG nilB zs n 0)) (.slice (some ⟨w.heap.size, 0, none⟩) n n) from by
    rw [fillG_zero]
    exact made_flat (enc := fibE) (fun _ => rfl) (by omega) nilB rfl hown1)
  have HB1 := Lib.hid (show Below w.heap.size w w1 from (Below.refl _ _).grown hgrow1 (Nat.le_refl _) (by simp))
  clear hown1 hgrow1
  go_loopw [4] (fun i wr => ∃ k : Nat, k ≤ n ∧ i = .int .i64 k ∧ Hid (Ofr wr w.heap.size (flt 4 fibE (fillG nilB zs n k)) (.slice (some ⟨w.heap.size, 0, none⟩) n n)) ∧ Hid (Below w.heap.size w wr)) (fun i _ => n - (intOf i).toNat)
  case atStart => exact ⟨0, by omega, rfl, HO1.out, HB1.out⟩
  case round =>
    obtain ⟨k, hk, rfl, HO, HB⟩ := hrel
    by_cases hlt : k < n
    · obtain ⟨b, off, rfl, hbs, hcs⟩ := HA.out (by omega)
      have hltI : (k : Int) < (n : Int) := by omega
      have d0 := (HB.out.cell (p := ⟨b, off + k * 4 + 0, none⟩) hbs).trans (hcs k hlt 0 _ rfl)
      have d1 := (HB.out.cell (p := ⟨b, off + k * 4 + 1, none⟩) hbs).trans (hcs k hlt 1 _ rfl)
      have d2 := (HB.out.cell (p := ⟨b, off + k * 4 + 2, none⟩) hbs).trans (hcs k hlt 2 _ rfl)
      have d3 := (HB.out.cell (p := ⟨b, off + k * 4 + 3, none⟩) hbs).trans (hcs k hlt 3 _ rfl)
      simp only [Nat.add_zero] at d0
      have HS := Lib.hid (fun w => toFiber_any (zs[k]?.getD nilB) w)
      have HSK := Lib.hid (HST.out k hlt)
      have HLK := Lib.hid (HL.out k (by omega))
      clear hcs HO1 HB1
      unfold fibV at HS
      generalize zs[k]?.getD nilB = z at *
      go_wp2_with fail
      refine (HS.out _).mono ?_
      rintro e w2 ⟨rfl, b2⟩
      obtain ⟨g, o, cp, ev, hg1, hg2, hcc, hfz, hof⟩ := flt_put (enc := fibE) (m := 4) (fun _ => rfl) (by omega) (HO.out.below b2) (Nat.le_trans HB.out.size b2.size) (k := k) (by rw [HLK.out]; exact hlt) z
      simp only [Value.slice.injEq, Option.some.injEq, Addr.mk.injEq, and_true] at ev
      obtain ⟨⟨rfl, rfl⟩, -, rfl⟩ := ev
      rw [HSK.out] at hof
      simp only [Nat.zero_add] at hcc hof
      obtain ⟨q0, c0⟩ := hcc 0 (by omega)
      obtain ⟨q1, c1⟩ := hcc 1 (by omega)
      obtain ⟨q2, c2⟩ := hcc 2 (by omega)
      obtain ⟨q3, c3⟩ := hcc 3 (by omega)
      simp only [Nat.add_zero] at c0
      have f0 := hfz (k * 4 + 0)
      have f1 := hfz (k * 4 + 1)
      have f2 := hfz (k * 4 + 2)
      have f3 := hfz (k * 4 + 3)
      simp only [Nat.add_zero] at f0
      have HB2 := Lib.hid (setRow_below (Nat.le_refl w.heap.size) (fibE z) w2 (k * 4) (HB.out.trans (b2.mono HB.out.size)))
      simp only [setRow, fibE, Nat.add_assoc, Nat.reduceAdd] at hof HB2
      have HOF := Lib.hid hof
      clear hof b2 hfz hcc
      go_wp2
      go_roundw
      case rel => exact ⟨k + 1, by omega, by go_num, HOF.out, HB2.out⟩
      case measure => simp [intOf]; omega
    · obtain rfl : k = n := by omega
      have hof := HO.out
      rw [HAL.out] at hof
      have HOF := Lib.hid hof
      go_wp2
      go_ret
      exact ⟨_, rfl, HOF.out, HB.out⟩
set_option maxHeartbeats 1600000 in
theorem eqFiberS_same (va vb : Value) (zs : List Fib) (w : World) (ha : Rdt w (flt 4 fibE zs) va) (hb : Rdt w (flt 4 fibE zs) vb) :
    Calls Tryz.prog 43 #[va, vb] w fun e w' => e = .returned (.bool true) ∧ Below w.heap.size w w' := by
  obtain ⟨a, n, ca, rfl, HN, _, hn, HA⟩ := flt_opn (m := 4) (enc := fibE) (fun _ => rfl) (by omega) nilB ha
  obtain ⟨b, n2, cb, rfl, HM, _, _, HBB⟩ := flt_opn (m := 4) (enc := fibE) (fun _ => rfl) (by omega) nilB hb
  obtain rfl : n = n2 := HN.out.symm.trans HM.out
  have HA := Lib.hid HA
  have HBB := Lib.hid HBB
  clear HM ha hb
  have hne : ((n : Int) != (n : Int)) = false := by simp
  go_enter Tryz.func43, Tryz.ntmps43
  go_wp2
  go_loopw [5] (fun i wr => ∃ k : Nat, k ≤ n ∧ i = .int .i64 k ∧ Hid (Below w.heap.size w wr)) (fun i _ => n - (intOf i).toNat)
  case atStart => exact ⟨0, by omega, rfl, Below.refl _ _⟩
  case round =>
    obtain ⟨k, hk, rfl, HB⟩ := hrel
    by_cases hlt : k < n
    · obtain ⟨g1, o1, rfl, hg1, hc1⟩ := HA.out (by omega)
      obtain ⟨g2, o2, rfl, hg2, hc2⟩ := HBB.out (by omega)
      have hltI : (k : Int) < (n : Int) := by omega
      have x0 := rg ((HB.out.cell (p := ⟨g1, o1 + k * 4 + 0, none⟩) hg1).trans (hc1 k hlt 0 _ rfl))
      have y0 := rg ((HB.out.cell (p := ⟨g2, o2 + k * 4 + 0, none⟩) hg2).trans (hc2 k hlt 0 _ rfl))
      have x1 := rg ((HB.out.cell (p := ⟨g1, o1 + k * 4 + 1, none⟩) hg1).trans (hc1 k hlt 1 _ rfl))
      have y1 := rg ((HB.out.cell (p := ⟨g2, o2 + k * 4 + 1, none⟩) hg2).trans (hc2 k hlt 1 _ rfl))
      have x2 := rg ((HB.out.cell (p := ⟨g1, o1 + k * 4 + 2, none⟩) hg1).trans (hc1 k hlt 2 _ rfl))
      have y2 := rg ((HB.out.cell (p := ⟨g2, o2 + k * 4 + 2, none⟩) hg2).trans (hc2 k hlt 2 _ rfl))
      have x3 := rg ((HB.out.cell (p := ⟨g1, o1 + k * 4 + 3, none⟩) hg1).trans (hc1 k hlt 3 _ rfl))
      have y3 := rg ((HB.out.cell (p := ⟨g2, o2 + k * 4 + 3, none⟩) hg2).trans (hc2 k hlt 3 _ rfl))
      simp only [Nat.add_zero] at x0 y0
      have HQ := Lib.hid (fun w => eqFiber_same (zs[k]?.getD nilB) w)
      unfold fibV at HQ
      generalize zs[k]?.getD nilB = z at *
      clear hc1 hc2
      go_wp2
      refine wp_region_quiet_below (by kernel_rfl) (by kernel_rfl) ?_
      repeat (go_big_quiet_step (first | (go_at_call 67; exact Calls.regrown_of (HQ.out _))))
      refine wpQuiet_nil ?_
      rintro _ ⟨⟨dq, osq⟩, rfl⟩
      go_wp2
      go_roundw
      case rel => exact ⟨k + 1, by omega, by go_num, HB.out.trans ((below_regrown _ dq osq).mono HB.out.size)⟩
      case measure => simp [intOf]; omega
    · obtain rfl : k = n := by omega
      go_wp2
      go_ret
      exact ⟨rfl, HB.out⟩
end Go.Proofs.YtonpcgdnfclidaaGreatDoor
namespace Go.Proofs.YtonpcgdnfclidaaGreatDoor
open Go.RowKit Go.Sort
set_option maxRecDepth 100000

def NetSm (n : Net) : Prop := ∀ i : Nat, (nmA n i).size ≤ 1048576
/-- The value of an argument reads as the network. -/
def NetW (w : World) (v : Value) (n : Net) : Prop := ∃ u1 u2, v = .agg #[u1, u2] ∧ Rwt w (flt 1 strE n.ns) u1 ∧ Rwt w (flt 4 fibE n.fs) u2 ∧ ∀ i : Nat, (nmA n i).size ≤ maxLen
theorem NetW.behind {w w' : World} {v : Value} {n : Net} (h : NetW w v n) (hb : Below w.heap.size w w') : NetW w' v n := by
  obtain ⟨u1, u2, e, h1, h2, h3⟩ := h; exact ⟨u1, u2, e, h1.behind hb, h2.behind hb, h3⟩
/-- The value is the network, in these blocks of the call's own. -/
def NetO (w : World) (n : Net) (v : Value) (fp : List Nat) : Prop := ∃ u1 u2 f1 f2, v = .agg #[u1, u2] ∧ Odt w (flt 1 strE n.ns) u1 f1 ∧ Odt w (flt 4 fibE n.fs) u2 f2 ∧ fp = f1 ++ f2
theorem NetO.rd {w : World} {n : Net} {v : Value} {fp : List Nat} (h : NetO w n v fp) (hs : NetSm n) : NetR w v n := by
  obtain ⟨u1, u2, f1, f2, e, h1, h2, _⟩ := h; exact ⟨u1, u2, e, h1.rd, h2.rd, hs⟩
theorem NetO.behind {w w' : World} {n : Net} {v : Value} {fp : List Nat} (h : NetO w n v fp) (hb : Below w.heap.size w w') : NetO w' n v fp := by
  obtain ⟨u1, u2, f1, f2, e, h1, h2, e2⟩ := h; exact ⟨u1, u2, f1, f2, e, h1.behind hb, h2.behind hb, e2⟩
theorem NetO.apart {w w' : World} {n : Net} {v : Value} {fp fq : List Nat} (h : NetO w n v fp) (hw : Wr w w' fq) (hd : ∀ k ∈ fp, k ∉ fq) : NetO w' n v fp := by
  obtain ⟨u1, u2, f1, f2, e, h1, h2, rfl⟩ := h
  exact ⟨u1, u2, f1, f2, e, h1.apart hw (fun k hk => hd k (List.mem_append_left _ hk)), h2.apart hw (fun k hk => hd k (List.mem_append_right _ hk)), rfl⟩
theorem NetO.lt {w : World} {n : Net} {v : Value} {fp : List Nat} (h : NetO w n v fp) : ∀ k ∈ fp, k < w.heap.size := by
  obtain ⟨u1, u2, f1, f2, e, h1, h2, rfl⟩ := h
  intro k hk
  rcases List.mem_append.1 hk with hk | hk
  · exact h1.lt k hk
  · exact h2.lt k hk
theorem Rwt.slice {w : World} {size : Nat} {ds : List Dt} {v : Value} (h : Rwt w (.rows size ds) v) : ∃ a n cap, v = .slice a n cap := by
  obtain ⟨a, n, cap, e, _⟩ := h.opn; exact ⟨a, n, cap, e⟩
theorem Rdt.slice {w : World} {size : Nat} {ds : List Dt} {v : Value} (h : Rdt w (.rows size ds) v) : ∃ a n cap, v = .slice a n cap := by
  obtain ⟨a, n, cap, e, _⟩ := h.opn; exact ⟨a, n, cap, e⟩
theorem NetO.form {w : World} {n : Net} {v : Value} {fp : List Nat} (h : NetO w n v fp) : ∃ a1 n1 c1 a2 n2 c2, v = .agg #[.slice a1 n1 c1, .slice a2 n2 c2] := by
  obtain ⟨u1, u2, f1, f2, rfl, h1, h2, _⟩ := h
  obtain ⟨a1, n1, c1, rfl⟩ := Rdt.slice (show Rdt w (.rows _ _) u1 from h1.rd)
  obtain ⟨a2, n2, c2, rfl⟩ := Rdt.slice (show Rdt w (.rows _ _) u2 from h2.rd)
  exact ⟨_, _, _, _, _, _, rfl⟩
def szN (n : Net) : Nat := n.ns.length + totS n.ns + n.fs.length
def SzQ (N : Nat) (l : Int) (w : World) (e : Ending) (w' : World) : Prop := ∃ r : Int, e = .returned (.int .i64 r) ∧ Below w.heap.size w w' ∧ ((r = -1 ∧ l < N) ∨ (r = l - N ∧ 0 ≤ r))
set_option maxHeartbeats 1600000 in
theorem szNetwork_any (v : Value) (n : Net) (l : Int) (w : World) (h : NetW w v n) (h0 : 0 ≤ l) (h1 : l ≤ 1048576) :
    Calls Tryz.prog 11 #[v, .int .i64 l] w (SzQ (szN n) l w) := by
  obtain ⟨u1, u2, rfl, r1, r2, hs⟩ := h
  have hal := (Below.refl w.heap.size w).alloc (Nat.le_refl _) (.cells #[u1, u2] 25)
  have HS1 := Lib.hid (szStringS_any u1 n.ns l _ (r1.behind hal) h0 h1 hs)
  have HS2 := Lib.hid (fun l' (h0 : 0 ≤ l') (h1 : l' ≤ 1048576) => szFiberS_any u2 n.fs l' _ (r2.behind hal) h0 h1)
  have HB := Lib.hid hal
  obtain ⟨a1, n1, c1, rfl⟩ := r1.slice
  obtain ⟨a2, n2, c2, rfl⟩ := r2.slice
  clear hal r1 r2 hs
  have HN := Lib.hid (show szN n = n.ns.length + totS n.ns + n.fs.length from rfl)
  generalize szN n = N at *
  unfold SzQ
  by_cases hx : l < (n.ns.length : Int) + totS n.ns
  · rw [if_pos hx] at HS1
    have hneg : (-1 : Int) < 0 := by omega
    go_enter Tryz.func11, Tryz.ntmps11
    go_wp2_with fail
    refine HS1.out.mono ?_
    rintro e w2 ⟨rfl, rfl⟩
    go_wp2
    go_ret
    exact ⟨-1, rfl, HB.out, .inl ⟨rfl, by have := HN.out; omega⟩⟩
  rw [if_neg hx] at HS1
  have HS3 := Lib.hid (HS2.out (l - ((n.ns.length : Int) + totS n.ns)) (by omega) (by omega))
  have HX := Lib.hid hx
  obtain ⟨r, hr⟩ : ∃ r, r = l - ((n.ns.length : Int) + totS n.ns) := ⟨_, rfl⟩
  rw [← hr] at HS1 HS3
  have hr0 : ¬ r < 0 := by omega
  have hrb : decide (r < 0) = false := decide_eq_false hr0
  have HR := Lib.hid hr
  clear hr HS2 hx
  by_cases hy : r < (n.fs.length : Int)
  · rw [if_pos hy] at HS3
    have hneg : (-1 : Int) < 0 := by omega
    have HY := Lib.hid hy
    clear hy
    go_enter Tryz.func11, Tryz.ntmps11
    go_wp2_with fail
    refine HS1.out.mono ?_
    rintro e w2 ⟨rfl, rfl⟩
    go_wp2_with fail
    refine HS3.out.mono ?_
    rintro e w2 ⟨rfl, rfl⟩
    go_wp2
    go_ret
    exact ⟨-1, rfl, HB.out, .inl ⟨rfl, by have := HN.out; have := HR.out; have := HY.out; omega⟩⟩
  · rw [if_neg hy] at HS3
    have HY := Lib.hid hy
    obtain ⟨r2, hr2⟩ : ∃ r2, r2 = r - (n.fs.length : Int) := ⟨_, rfl⟩
    rw [← hr2] at HS3
    have hr20 : ¬ r2 < 0 := by omega
    have hr2b : decide (r2 < 0) = false := decide_eq_false hr20
    have HR2 := Lib.hid hr2
    clear hr2 hy
    go_enter Tryz.func11, Tryz.ntmps11
    go_wp2_with fail
    refine HS1.out.mono ?_
    rintro e w2 ⟨rfl, rfl⟩
    go_wp2_with fail
    refine HS3.out.mono ?_
    rintro e w2 ⟨rfl, rfl⟩
    go_wp2
    go_ret
    exact ⟨r2, rfl, HB.out, .inr ⟨by have := HN.out; have := HR.out; have := HR2.out; omega, by omega⟩⟩
/-- An own copy. -/
def ToP (O : World → Value → List Nat → Prop) (w : World) (e : Ending) (w' : World) : Prop := ∃ v' fp, e = .returned v' ∧ O w' v' fp ∧ fp.Nodup ∧ (∀ k ∈ fp, w.heap.size ≤ k) ∧ Below w.heap.size w w'
set_option maxHeartbeats 1600000 in
theorem toNetwork_any (v : Value) (n : Net) (w : World) (h : NetW w v n) (h1 : n.ns.length ≤ 1048576) (h2 : n.fs.length ≤ 1048576) :
    Calls Tryz.prog 14 #[v] w (ToP (fun w' => NetO w' n) w) := by
  obtain ⟨u1, u2, rfl, r1, r2, hs⟩ := h
  obtain ⟨a1, n1, c1, rfl⟩ := r1.slice
  obtain ⟨a2, n2, c2, rfl⟩ := r2.slice
  obtain ⟨W, hW⟩ : ∃ W, W = ((w.alloc (.cells #[.slice a1 n1 c1, .slice a2 n2 c2] 25)).alloc (.cells #[.slice none 0 0, .slice none 0 0] 38)).alloc (.cells #[.slice none 0 0, .slice none 0 0] 38) := ⟨_, rfl⟩
  have b1 := (Below.refl w.heap.size w).alloc (Nat.le_refl _) (.cells #[.slice a1 n1 c1, .slice a2 n2 c2] 25)
  have b2 := b1.alloc b1.size (.cells #[.slice none 0 0, .slice none 0 0] 38)
  have b3 := b2.alloc b2.size (.cells #[.slice none 0 0, .slice none 0 0] 38)
  have k1 := heap_alloc_new w (.cells #[.slice a1 n1 c1, .slice a2 n2 c2] 25)
  have k2 := heap_alloc_new (w.alloc (.cells #[.slice a1 n1 c1, .slice a2 n2 c2] 25)) (.cells #[.slice none 0 0, .slice none 0 0] 38)
  have k3 := heap_alloc_new ((w.alloc (.cells #[.slice a1 n1 c1, .slice a2 n2 c2] 25)).alloc (.cells #[.slice none 0 0, .slice none 0 0] 38)) (.cells #[.slice none 0 0, .slice none 0 0] 38)
  have k1' := (heap_alloc_old _ (.cells #[.slice none 0 0, .slice none 0 0] 38) (Array.getElem?_eq_some_iff.1 ((heap_alloc_old _ (.cells #[.slice none 0 0, .slice none 0 0] 38) (Array.getElem?_eq_some_iff.1 k1).1).trans k1)).1).trans ((heap_alloc_old _ (.cells #[.slice none 0 0, .slice none 0 0] 38) (Array.getElem?_eq_some_iff.1 k1).1).trans k1)
  have k2' := (heap_alloc_old _ (.cells #[.slice none 0 0, .slice none 0 0] 38) (Array.getElem?_eq_some_iff.1 k2).1).trans k2
  rw [show (w.alloc (.cells #[.slice a1 n1 c1, .slice a2 n2 c2] 25)).heap.size = w.heap.size + 1 by simp] at k2'
  rw [show ((w.alloc (.cells #[.slice a1 n1 c1, .slice a2 n2 c2] 25)).alloc (.cells #[.slice none 0 0, .slice none 0 0] 38)).heap.size = w.heap.size + 1 + 1 by simp] at k3
  have hz : (((w.alloc (.cells #[.slice a1 n1 c1, .slice a2 n2 c2] 25)).alloc (.cells #[.slice none 0 0, .slice none 0 0] 38)).alloc (.cells #[.slice none 0 0, .slice none 0 0] 38)).heap.size = w.heap.size + 1 + 1 + 1 := by simp
  rw [← hW] at b3 k1' k2' k3 hz
  have HW := Lib.hid hW
  have HB := Lib.hid b3
  have K1 := Lib.hid k1'
  have K2 := Lib.hid k2'
  have K3 := Lib.hid k3
  have HZ := Lib.hid hz
  have HT1 := Lib.hid (toStringS_any _ n.ns W (r1.behind b3) h1)
  have HT2 := Lib.hid (fun w' (hb : Below w.heap.size w w') => toFiberS_any _ n.fs w' (r2.behind hb) h2)
  unfold ToP
  clear b1 b2 b3 k1 k2 k3 k1' k2' hW hz r1 r2 hs
  go_enter Tryz.func14, Tryz.ntmps14
  go_wp2_with fail
  rw [← HW.out]
  refine HT1.out.mono ?_
  rintro e w2 ⟨x1, rfl, o1, b2⟩
  obtain ⟨f1, p1, p2, p3⟩ := o1
  obtain ⟨a3, n3, c3, rfl⟩ := Rdt.slice (show Rdt w2 (.rows _ _) x1 from p1.rd)
  have m1 := kept_o' K1.out b2
  have m3 := kept_o' K3.out b2
  have y1 := blkc m1 (j := 1) (u := .slice a2 n2 c2) rfl
  have q0 := blkc m3 (j := 0) (u := .slice none 0 0) rfl
  have g0 := frozen_of_row _ _ 0 _ _ m3
  have hz2 := b2.size
  have HB2 := Lib.hid (HB.out.trans (b2.mono HB.out.size))
  have M1 := Lib.hid m1
  have M2 := Lib.hid (kept_o' K2.out b2)
  have M3 := Lib.hid m3
  have P1 := Lib.hid p1
  have PL := Lib.hid p1.lt
  have P2 := Lib.hid p2
  have P3 := Lib.hid p3
  have HBW := Lib.hid b2
  clear b2 m1 m3 HW p1 p2 p3
  have hlt3 : w.heap.size + 1 + 1 < w2.heap.size := by have := HZ.out; omega
  go_wp2_with (((show wpList _ _ _ (⟨none, .store 22 _ _, _, _, _, _⟩ :: _) _ _); refine wpList_st1 rfl 22 _ _ rfl (w.heap.size + 1 + 1) 0 (.slice a3 n3 c3) rfl rfl M3.out (by simp) (by kernel_rfl) ⟨rfl, rfl⟩ ?_; intro w3 hs; have n1 := hs.keep (by omega) M1.out; have N2 := Lib.hid (hs.keep (by omega) M2.out); have N3 := Lib.hid hs.blk; have HB3 := Lib.hid (hs.below w.heap.size w (by omega) HB2.out); have P1 := Lib.hid (hs.odt P1.out (fun hk => by have := P3.out _ hk; have := HZ.out; omega)); have HSZ := Lib.hid hs.size; have y1 := blkc n1 (j := 1) (u := .slice a2 n2 c2) rfl; have N1 := Lib.hid n1; clear hs n1))
  go_wp2_with fail
  refine (HT2.out _ HB3.out).mono ?_
  rintro e w4 ⟨x2, rfl, o2, b4⟩
  obtain ⟨f2, p1, p2, p3⟩ := o2
  obtain ⟨a4, n4, c4, rfl⟩ := Rdt.slice (show Rdt w4 (.rows _ _) x2 from p1.rd)
  have M1 := Lib.hid (kept_o' N1.out b4)
  have M2 := Lib.hid (kept_o' N2.out b4)
  have M3 := Lib.hid (kept_o' N3.out b4)
  have HB4 := Lib.hid (HB3.out.trans (b4.mono HB3.out.size))
  have P1 := Lib.hid (P1.out.behind b4)
  have Q1 := Lib.hid p1
  have Q2 := Lib.hid p2
  have Q3 := Lib.hid (show ∀ k ∈ f2, w2.heap.size ≤ k from fun k hk => by have := p3 k hk; have := HSZ.out; omega)
  clear b4 p1 p2 p3 y1 N1 N2 N3
  go_wp2_with (first
    | ((show wpList _ _ _ (⟨none, .store 36 _ _, _, _, _, _⟩ :: _) _ _); refine wpList_st1 rfl 36 _ _ rfl (w.heap.size + 1 + 1) 1 (.slice a4 n4 c4) rfl rfl M3.out (by simp) (by kernel_rfl) ⟨rfl, rfl⟩ ?_; intro w5 hs; have N2 := Lib.hid (hs.keep (by omega) M2.out); have N3 := Lib.hid hs.blk; have HB5 := Lib.hid (hs.below w.heap.size w (by omega) HB4.out); have P1 := Lib.hid (hs.odt P1.out (fun hk => by have := P3.out _ hk; have := HZ.out; omega)); have Q1 := Lib.hid (hs.odt Q1.out (fun hk => by have := Q3.out _ hk; omega)); clear hs)
    | ((show wpList _ _ _ (⟨some _, .load 38 _, _, _, _, _⟩ :: _) _ _); refine wpList_ldx rfl 38 _ rfl (w.heap.size + 1 + 1) 0 rfl [.slice a3 n3 c3, .slice a4 n4 c4] N3.out rfl _ (by exact Tryz.underlying38) rfl (by kernel_rfl) ?_)
    | ((show wpList _ _ _ (⟨none, .store 38 _ _, _, _, _, _⟩ :: _) _ _); refine wpList_stx rfl 38 _ _ rfl (w.heap.size + 1) 0 [.slice a3 n3 c3, .slice a4 n4 c4] rfl rfl N2.out (by simp) (by kernel_rfl) (by simp [Value.oneCell']) ?_; intro w6 hs; have n2 := hs.blk; have HB6 := Lib.hid (hs.below w.heap.size w (by omega) HB5.out); have P1 := Lib.hid (hs.odt P1.out (fun hk => by have := P3.out _ hk; have := HZ.out; omega)); have Q1 := Lib.hid (hs.odt Q1.out (fun hk => by have := Q3.out _ hk; omega)); clear hs; have r0 := blkc n2 (j := 0) (u := .slice a3 n3 c3) rfl; have r1 := blkc n2 (j := 1) (u := .slice a4 n4 c4) rfl))
  exact bodyPost_ret (v := .agg #[.slice a3 n3 c3, .slice a4 n4 c4]) (by simp [results, Tryz.results14, go_sem, r0, r1]) rfl ⟨_, f1 ++ f2, rfl, ⟨_, _, _, _, rfl, P1.out, Q1.out, rfl⟩, List.nodup_append.2 ⟨P2.out, Q2.out, fun a ha b hb e => by have := PL.out a ha; have := Q3.out b hb; omega⟩, fun k hk => by
    rcases List.mem_append.1 hk with hk | hk
    · have := P3.out k hk; have := HZ.out; omega
    · have := Q3.out k hk; omega, HB6.out⟩
theorem eqNetwork_same (va vb : Value) (n : Net) (w : World) (ha : NetR w va n) (hb : NetR w vb n) :
    Calls Tryz.prog 17 #[va, vb] w fun e w' => e = .returned (.bool true) ∧ Below w.heap.size w w' := by
  obtain ⟨u1, u2, rfl, r1, r2, -⟩ := ha
  obtain ⟨v1, v2, rfl, s1, s2, -⟩ := hb
  obtain ⟨a1, n1, c1, rfl⟩ := Rdt.slice (show Rdt w (.rows _ _) u1 from r1)
  obtain ⟨a2, n2, c2, rfl⟩ := Rdt.slice (show Rdt w (.rows _ _) u2 from r2)
  obtain ⟨a3, n3, c3, rfl⟩ := Rdt.slice (show Rdt w (.rows _ _) v1 from s1)
  obtain ⟨a4, n4, c4, rfl⟩ := Rdt.slice (show Rdt w (.rows _ _) v2 from s2)
  have h1 := (Below.refl w.heap.size w).alloc (Nat.le_refl _) (.cells #[.slice a1 n1 c1, .slice a2 n2 c2] 38)
  have h2 := h1.alloc h1.size (.cells #[.slice a3 n3 c3, .slice a4 n4 c4] 38)
  have HE1 := Lib.hid (eqStringS_same _ _ n.ns _ (r1.behind h2) (s1.behind h2))
  have HE2 := Lib.hid (fun w' (hb : Below w.heap.size w w') => eqFiberS_same _ _ n.fs w' (r2.behind hb) (s2.behind hb))
  have HB := Lib.hid h2
  clear h1 h2 r1 r2 s1 s2
  go_enter Tryz.func17, Tryz.ntmps17
  go_wp2_with fail
  refine HE1.out.mono ?_
  rintro e w2 ⟨rfl, b2⟩
  obtain ⟨hc, hf⟩ := bcell b2
  have HB2 := Lib.hid (HB.out.trans (b2.mono HB.out.size))
  clear b2
  go_wp2_with fail
  refine (HE2.out _ HB2.out).mono ?_
  rintro e w3 ⟨rfl, b3⟩
  have HB3 := Lib.hid (HB2.out.trans (b3.mono HB2.out.size))
  clear b3 hc hf
  go_wp2
  go_ret
  exact ⟨rfl, HB3.out⟩
end Go.Proofs.YtonpcgdnfclidaaGreatDoor
namespace Go.Proofs.YtonpcgdnfclidaaGreatDoor
open Go.RowKit

section
variable {α : Type}
def rws (m : Nat) (en : α → List Dt) (zs : List α) : Dt := .rows m (zs.flatMap en)
theorem rws_len {en : α → List Dt} {m : Nat} (hm : ∀ z, (en z).length = m) (zs : List α) : (zs.flatMap en).length = zs.length * m := flat_length hm zs
theorem rws_at {en : α → List Dt} {m : Nat} (hm : ∀ z, (en z).length = m) (nil : α) (zs : List α) {i r : Nat} (hi : i < zs.length) (hr : r < m) : (zs.flatMap en)[i * m + r]? = (en (zs[i]?.getD nil))[r]? := by
  rw [flat_at hm zs i r hr, List.getElem?_eq_getElem hi]; rfl
/-- For a walk: the elements of a slice. -/
theorem rws_opn {en : α → List Dt} {m : Nat} {w : World} {v : Value} {zs : List α} (hm : ∀ z, (en z).length = m) (hm0 : 0 < m) (nil : α) (h : Rdt w (rws m en zs) v) :
    ∃ a n cap, v = .slice a n cap ∧ Hid (zs.length = n) ∧ n ≤ cap ∧ n ≤ 9223372036854775807 ∧
    (0 < n → ∃ b off, a = some ⟨b, off, none⟩ ∧ b < w.heap.size ∧ ∀ i, i < n → ∀ r d, (en (zs[i]?.getD nil))[r]? = some d → ∃ u, w.cell? ⟨b, off + i * m + r, none⟩ = some u ∧ Rdt w d u) := by
  obtain ⟨a, n, cap, hv, HN, h1, h2, h3⟩ := h.opn
  have hn : zs.length = n := by
    have := HN.out
    rw [rws_len hm] at this
    exact Nat.eq_of_mul_eq_mul_right hm0 this
  refine ⟨a, n, cap, hv, hn, h1, h2, fun h0 => ?_⟩
  obtain ⟨b, off, ea, hb, hc⟩ := h3 h0
  refine ⟨b, off, ea, hb, fun i hi r d hd => ?_⟩
  have hr : r < m := by rw [← hm (zs[i]?.getD nil)]; exact (List.getElem?_eq_some_iff.1 hd).1
  obtain ⟨u, k1, k2⟩ := hc (i * m + r) d (by rw [rws_at hm nil zs (by omega) hr]; exact hd)
  exact ⟨u, by rw [Nat.add_assoc]; exact k1, k2⟩
/-- The first k of a slice's elements. -/
theorem rws_take {en : α → List Dt} {m : Nat} {w : World} {a : Option Addr} {n cap k : Nat} {zs : List α} (hm : ∀ z, (en z).length = m) (hm0 : 0 < m) (nil : α) (h : Rdt w (rws m en zs) (.slice a n cap)) (hk : k ≤ n) : Rdt w (rws m en (zs.take k)) (.slice a k cap) := by
  unfold rws at h ⊢
  have hlen := rws_len hm zs
  have hlk := rws_len hm (zs.take k)
  have hat : ∀ j, j < (zs.take k).length * m → ((zs.take k).flatMap en)[j]? = (zs.flatMap en)[j]? := fun j hj => by
    obtain ⟨i, r, hr, rfl⟩ : ∃ i r, r < m ∧ j = i * m + r := ⟨j / m, j % m, Nat.mod_lt _ hm0, by rw [Nat.mul_comm]; exact (Nat.div_add_mod j m).symm⟩
    have hi : i < (zs.take k).length := by
      by_cases e : i < (zs.take k).length
      · exact e
      · have := Nat.mul_le_mul_right m (Nat.le_of_not_lt e); omega
    have hi2 : i < zs.length := by rw [List.length_take] at hi; omega
    have hik : i < k := by rw [List.length_take] at hi; omega
    rw [rws_at hm nil (zs.take k) hi hr, rws_at hm nil zs hi2 hr, List.getElem?_take, if_pos hik]
  generalize zs.flatMap en = ds at *
  generalize (zs.take k).flatMap en = ds' at *
  cases h with
  | nil size =>
    obtain rfl : k = 0 := by omega
    have : ds' = [] := List.eq_nil_of_length_eq_zero (by simpa using hlk)
    rw [this]; exact .nil m
  | @mk size n b off cap ds us hl hu hn hc hb hcell hd =>
    have hzl : zs.length = n := Nat.eq_of_mul_eq_mul_right hm0 (by omega)
    have hkl : (zs.take k).length = k := by rw [List.length_take]; omega
    rw [hkl] at hlk hat
    have hkm := Nat.mul_le_mul_right m hk
    refine .mk (us := us.take (k * m)) hlk (by rw [List.length_take, hlk]; omega) (by omega) hc hb (fun j u hj => ?_) (fun j d u e1 e2 => ?_)
    · rw [List.getElem?_take] at hj
      split at hj
      · exact hcell j u hj
      · cases hj
    · rw [List.getElem?_take] at e2
      split at e2
      · rename_i hjk
        rw [hat j hjk] at e1
        exact hd j d u e1 e2
      · cases e2
end
end Go.Proofs.YtonpcgdnfclidaaGreatDoor
namespace Go.Proofs.YtonpcgdnfclidaaGreatDoor
open Go.RowKit

/-! ### Routes -/
structure Rou where
  st : Int
  fb : List Int
/-- The node at the other end of a fiber, or -1. -/
def othE (f : Fib) (node : Int) : Int := if node = f.a then f.b else if node = f.b then f.a else -1
/-- The nodes of a route, on from those that have been visited, the last of which is 'at'. -/
def wlk (n : Net) : List Int → Int → List Int → Option (List Int)
  | out, _, [] => some out
  | out, t, i :: is => if inB i 0 ((n.fs.length : Int) - 1) then (if othE (fbA n i.toNat) t < 0 ∨ othE (fbA n i.toNat) t ∈ out then none else wlk n (out ++ [othE (fbA n i.toNat) t]) (othE (fbA n i.toNat) t) is) else none
def rouN (n : Net) (r : Rou) : Option (List Int) := if inB r.st 0 ((n.ns.length : Int) - 1) && !r.fb.isEmpty then wlk n [r.st] r.st r.fb else none
def rouOk (n : Net) (r : Rou) : Bool := (rouN n r).isSome
theorem wlk_step {n : Net} {out : List Int} {t : Int} {xs : List Int} {k : Nat} (hk : k < xs.length) : wlk n out t (xs.drop k) = (if inB (xs[k]?.getD 0) 0 ((n.fs.length : Int) - 1) then (if othE (fbA n (xs[k]?.getD 0).toNat) t < 0 ∨ othE (fbA n (xs[k]?.getD 0).toNat) t ∈ out then none else wlk n (out ++ [othE (fbA n (xs[k]?.getD 0).toNat) t]) (othE (fbA n (xs[k]?.getD 0).toNat) t) (xs.drop (k + 1))) else none) := by
  rw [List.drop_eq_getElem_cons hk, List.getElem?_eq_getElem hk]
  rfl

/-! ### Blocks -/
def blkOk (f c : Int) : Bool := decide (0 ≤ f) && (inB c 1 24 && decide (f ≤ 24 - c))
theorem blkOk_bd {f c : Int} (h : blkOk f c = true) : 0 ≤ f ∧ 1 ≤ c ∧ f + c ≤ 24 := by
  unfold blkOk at h
  simp only [Bool.and_eq_true, decide_eq_true_eq] at h
  have := inB_true h.2.1
  omega
/-- The mask of a block. -/
def mskN (f c : Nat) : Nat := (2 ^ c - 1) * 2 ^ f
/-! ### Lights -/
structure Lgt where
  id : Int
  st : Int
  fb : List Int
  fi : Int
  ct : Int
def nilL : Lgt := ⟨0, 0, [], 0, 0⟩
def lgtD (x : Lgt) : List Dt := [.leaf (.int .i64 x.id), .leaf (.int .i64 x.st), inD x.fb, .leaf (.int .i64 x.fi), .leaf (.int .i64 x.ct)]
def lgtOk (n : Net) (x : Lgt) : Bool := rouOk n ⟨x.st, x.fb⟩ && inB x.id 1 999 && blkOk x.fi x.ct
def meets (xs ys : List Int) : Bool := xs.any fun x => ys.contains x
/-- Do two blocks have a slot in common? -/
def hitB (x y : Lgt) : Bool := decide (x.fi < y.fi + y.ct ∧ y.fi < x.fi + x.ct)
def collB (x y : Lgt) : Bool := hitB x y && meets x.fb y.fb

/-! ### Plans -/
structure Pln where
  n : Net
  ls : List Lgt
abbrev lgA (p : Pln) (i : Nat) : Lgt := p.ls[i]?.getD nilL
def ltOk (p : Pln) (i : Nat) : Bool := lgtOk p.n (lgA p i) && (!(decide (0 < i) && decide ((lgA p i).id ≤ (lgA p (i - 1)).id)) && !((p.ls.take i).any fun y => collB y (lgA p i)))
def plnOk (p : Pln) : Bool := netOk p.n && (decide (p.ls.length ≤ 12) && (List.range p.ls.length).all (ltOk p))
/-- The value reads as the plan. -/
def PlnR (w : World) (v : Value) (p : Pln) : Prop := ∃ u1 u2 u3, v = .agg #[u1, u2, u3] ∧ Rdt w (flt 1 strE p.n.ns) u1 ∧ Rdt w (flt 4 fibE p.n.fs) u2 ∧ Rdt w (rws 5 lgtD p.ls) u3 ∧ ∀ i : Nat, (nmA p.n i).size ≤ 1048576
theorem PlnR.behind {w w' : World} {v : Value} {p : Pln} (h : PlnR w v p) (hb : Below w.heap.size w w') : PlnR w' v p := by
  obtain ⟨u1, u2, u3, e, h1, h2, h3, h4⟩ := h; exact ⟨u1, u2, u3, e, h1.behind hb, h2.behind hb, h3.behind hb, h4⟩
end Go.Proofs.YtonpcgdnfclidaaGreatDoor
namespace Go.Proofs.YtonpcgdnfclidaaGreatDoor
open Go.RowKit Go.Sort
set_option maxRecDepth 100000

theorem Own.odt {w : World} {base : Nat} {v : Value} {xs : List Int} (h : Own w base v xs) : Odt w (inD xs) v v.ownBlock.toList := by
  obtain ⟨fp, h1, h2, h3⟩ := h.tree
  have : fp = v.ownBlock.toList := by
    unfold inD at h1
    generalize hD : (xs.map fun x => Dt.leaf (.int .i64 x)) = ds at h1
    cases h1 with
    | nil size => rfl
    | @mk size n g off cap ds us fs cur T hl hu hf hn hc hg hcs ht hd =>
      have : fs.flatten = [] := by
        rw [List.flatten_eq_nil_iff]
        intro f hf'
        obtain ⟨j, hj, rfl⟩ := List.mem_iff_getElem.1 hf'
        have hjd : j < ds.length := by omega
        have h1 := hd j ds[j] us[j] fs[j] (List.getElem?_eq_getElem hjd) (List.getElem?_eq_getElem (by omega)) (List.getElem?_eq_getElem hj)
        have hx : j < xs.length := by rw [← hD] at hjd; simpa using hjd
        have e : ds[j] = .leaf (.int .i64 xs[j]) := by simp [← hD]
        rw [e] at h1
        exact h1.leaf_inv.2
      rw [this]; rfl
  rw [← this]; exact h1
theorem eqIntS_same (va vb : Value) (xs : List Int) (w : World) (ha : Rd w va xs) (hb : Rd w vb xs) :
    Calls Tryz.prog 153 #[va, vb] w fun e w' => e = .returned (.bool true) ∧ Below w.heap.size w w' := by
  refine (eqIntS_any va vb xs xs w ha hb).mono ?_
  rintro e w' ⟨rfl, n, rfl⟩
  rw [eqL_refl]
  exact ⟨rfl, ⟨rfl, rfl, rfl, Nat.le_refl _, fun _ _ => rfl⟩⟩
end Go.Proofs.YtonpcgdnfclidaaGreatDoor
namespace Go.Proofs.YtonpcgdnfclidaaGreatDoor
open Go.RowKit
set_option maxRecDepth 100000

/-- The first place of a number, or -1. -/
def plI (xs : List Int) (x : Int) : Int := match xs.findIdx? (fun s => s == x) with | some i => (i : Int) | none => -1
theorem plI_none {xs : List Int} {x : Int} (h : xs.any (fun s => s == x) = false) : plI xs x = -1 := by
  unfold plI
  rw [List.findIdx?_eq_none_iff.2 fun s hs => by
    have := (List.any_eq_false.1 h) s hs
    simpa using this]
theorem plI_some {xs : List Int} {x : Int} {k : Nat} (hk : k < xs.length) (h : (xs.take k).any (fun s => s == x) = false) (e : xs[k]?.getD 0 = x) : plI xs x = (k : Int) := by
  rw [List.getElem?_eq_getElem hk] at e
  unfold plI
  rw [List.findIdx?_eq_some_iff_getElem.2 ⟨hk, by simpa using e, fun j hj => by
    have := (List.any_eq_false.1 h) (xs[j]'(by omega)) (List.mem_take_iff_getElem.2 ⟨j, by omega, rfl⟩)
    simpa using this⟩]
theorem anyI_more {xs : List Int} {x : Int} {k : Nat} (hk : k < xs.length) (h : (xs.take k).any (fun s => s == x) = false) (e : xs[k]?.getD 0 ≠ x) : (xs.take (k + 1)).any (fun s => s == x) = false := by
  rw [List.getElem?_eq_getElem hk] at e
  rw [List.take_add_one, List.any_append, h, List.getElem?_eq_getElem hk]
  simpa using e
theorem plI_geq (xs : List Int) (x : Int) : decide (0 ≤ plI xs x) = xs.contains x := by
  cases h : xs.findIdx? (fun s => s == x) with
  | none =>
    have h0 := h
    rw [List.findIdx?_eq_none_iff] at h
    unfold plI
    rw [h0]
    have : xs.contains x = false := by
      rw [← Bool.not_eq_true, List.contains_iff_mem]
      intro hm
      have := h x hm
      simp at this
    rw [this]; rfl
  | some k =>
    have h0 := h
    rw [List.findIdx?_eq_some_iff_getElem] at h
    obtain ⟨hk, e, _⟩ := h
    unfold plI
    rw [h0]
    have : xs.contains x = true := by rw [List.contains_iff_mem]; have := List.getElem_mem hk; rw [eq_of_beq e] at this; exact this
    rw [this]; simp
theorem hasI_yes {xs : List Int} {x : Int} {k : Nat} (hk : k < xs.length) (e : xs[k]?.getD 0 = x) : xs.contains x = true := by
  rw [List.getElem?_eq_getElem hk] at e
  rw [List.contains_iff_mem, ← show xs[k] = x from e]; exact List.getElem_mem hk
theorem hasI_no {xs : List Int} {x : Int} (h : xs.any (fun s => s == x) = false) : xs.contains x = false := by
  rw [← Bool.not_eq_true, List.contains_iff_mem]
  intro hm
  have := (List.any_eq_false.1 h) x hm
  simp at this
set_option maxHeartbeats 1600000 in
theorem indexI_any (v : Value) (xs : List Int) (x : Int) (w : World) (h : Rd w v xs) :
    Calls Tryz.prog 145 #[v, .int .i64 x] w fun e w' => e = .returned (.int .i64 (plI xs x)) ∧ w = w' := by
  obtain ⟨a, cap, n, HN, rfl, _, hnl, ha⟩ := h.opn
  have HA := Lib.hid ha
  have HP := Lib.hid (fun k (hk : k < xs.length) => @plI_some xs x k hk)
  have HM := Lib.hid (fun k (hk : k < xs.length) => @anyI_more xs x k hk)
  have HO := Lib.hid (@plI_none xs x)
  clear ha h
  generalize plI xs x = r at *
  go_enter Tryz.func145, Tryz.ntmps145
  go_wp2
  go_loop [5, 8] (fun _ i => ∃ k : Nat, k ≤ n ∧ i = .int .i64 k ∧ Hid ((xs.take k).any (fun s => s == x) = false)) (fun _ i => n - (intOf i).toNat)
  case atStart => exact ⟨0, Nat.zero_le _, rfl, by simp [Hid]⟩
  case round =>
    obtain ⟨k, hk, rfl, HT⟩ := hrel
    by_cases hlt : k < n
    · have hltI : (k : Int) < (n : Int) := by omega
      have hkx : k < xs.length := by rw [HN.out]; exact hlt
      obtain ⟨b, off, rfl, hbs, hcs⟩ := HA.out (by omega)
      have hc0 := hcs k hlt
      have HP1 := Lib.hid (HP.out k hkx HT.out)
      have HM1 := Lib.hid (HM.out k hkx HT.out)
      clear hcs hkx
      generalize xs[k]?.getD 0 = y at *
      by_cases he : y = x
      · have HE := Lib.hid (HP1.out he)
        have hb1 : (x == y) = true := by simp [he]
        have hb2 : (y == x) = true := by simp [he]
        clear he
        go_wp2
        go_ret
        exact ⟨by rw [HE.out]; rfl, rfl⟩
      · have HE := Lib.hid (HM1.out he)
        have hb1 : (x == y) = false := by simp; exact fun e => he e.symm
        have hb2 : (y == x) = false := by simp [he]
        clear he
        go_wp2
        go_round
        case rel => exact ⟨k + 1, by omega, by go_num, HE.out⟩
        case measure => simp [intOf]; omega
    · obtain rfl : k = n := by omega
      have hall := HT.out
      rw [← HN.out, List.take_length] at hall
      have HE := Lib.hid (HO.out hall)
      clear hall
      go_wp2
      go_ret
      exact ⟨by rw [HE.out]; rfl, rfl⟩
theorem containsI_any (v : Value) (xs : List Int) (x : Int) (w : World) (h : Rd w v xs) :
    Calls Tryz.prog 123 #[v, .int .i64 x] w fun e w' => e = .returned (.bool (xs.contains x)) ∧ w = w' := by
  have HI := Lib.hid (indexI_any v xs x w h)
  have HG := Lib.hid (plI_geq xs x)
  generalize plI xs x = r at *
  generalize xs.contains x = q at *
  obtain ⟨a, cap, n, -, rfl, -, -, -⟩ := h.opn
  clear h
  go_enter Tryz.func123, Tryz.ntmps123
  go_wp2_with (go_at_call 145; refine (HI.out).mono ?_; rintro e w' ⟨rfl, rfl⟩)
  go_ret
  exact ⟨by rw [← HG.out]; rfl, rfl⟩
set_option maxHeartbeats 1600000 in
theorem l1Has_any (v : Value) (xs : List Int) (x : Int) (w : World) (h : Rd w v xs) :
    Calls Tryz.prog 140 #[v, .int .i64 x] w fun e w' => e = .returned (.bool (xs.contains x)) ∧ w = w' := by
  obtain ⟨a, cap, n, HN, rfl, _, hnl, ha⟩ := h.opn
  have HA := Lib.hid ha
  have HP := Lib.hid (fun k (hk : k < xs.length) => @hasI_yes xs x k hk)
  have HM := Lib.hid (fun k (hk : k < xs.length) => @anyI_more xs x k hk)
  have HO := Lib.hid (@hasI_no xs x)
  clear ha h
  generalize xs.contains x = r at *
  go_enter Tryz.func140, Tryz.ntmps140
  go_wp2
  go_loop [5] (fun i => ∃ k : Nat, k ≤ n ∧ i = .int .i64 k ∧ Hid ((xs.take k).any (fun s => s == x) = false)) (fun i => n - (intOf i).toNat)
  case atStart => exact ⟨0, Nat.zero_le _, rfl, by simp [Hid]⟩
  case round =>
    obtain ⟨k, hk, rfl, HT⟩ := hrel
    by_cases hlt : k < n
    · have hltI : (k : Int) < (n : Int) := by omega
      have hkx : k < xs.length := by rw [HN.out]; exact hlt
      obtain ⟨b, off, rfl, hbs, hcs⟩ := HA.out (by omega)
      have hc0 := hcs k hlt
      have HP1 := Lib.hid (HP.out k hkx)
      have HM1 := Lib.hid (HM.out k hkx HT.out)
      clear hcs hkx
      generalize xs[k]?.getD 0 = y at *
      by_cases he : y = x
      · have HE := Lib.hid (HP1.out he)
        have hb2 : (y == x) = true := by simp [he]
        clear he
        go_wp2
        go_ret
        exact ⟨by rw [HE.out]; rfl, rfl⟩
      · have HE := Lib.hid (HM1.out he)
        have hb2 : (y == x) = false := by simp [he]
        clear he
        go_wp2
        go_round
        case rel => exact ⟨k + 1, by omega, by go_num, HE.out⟩
        case measure => simp [intOf]; omega
    · obtain rfl : k = n := by omega
      have hall := HT.out
      rw [← HN.out, List.take_length] at hall
      have HE := Lib.hid (HO.out hall)
      clear hall
      go_wp2
      go_ret
      exact ⟨by rw [HE.out]; rfl, rfl⟩
end Go.Proofs.YtonpcgdnfclidaaGreatDoor
namespace Go.Proofs.YtonpcgdnfclidaaGreatDoor
open Go.RowKit

theorem Own.pushed' {w : World} {base : Nat} {v : Value} {xs : List Int} {g off n cap : Nat} (h : Own w base v xs) (hv : v = .slice (some ⟨g, off, none⟩) n cap) (hc : n + 1 ≤ cap) (u : Int) :
    Own (w.setCell ⟨g, off + n, none⟩ (.int .i64 u)) base (.slice (some ⟨g, off, none⟩) (n + 1) cap) (xs ++ [u]) ∧ w.grownBy (w.setCell ⟨g, off + n, none⟩ (.int .i64 u)) (some g) := by
  rcases h with ⟨rfl, rfl⟩ | ⟨g', off', cap', cur, hv', hb, ⟨T, hg⟩, h1, h2, h3, h4⟩
  · simp at hv
  · rw [hv'] at hv
    simp only [Value.slice.injEq, Option.some.injEq, Addr.mk.injEq, and_true] at hv
    obtain ⟨⟨rfl, rfl⟩, rfl, rfl⟩ := hv
    refine ⟨.inr ⟨g', off', cap', cur.setIfInBounds (off' + xs.length) (.int .i64 u), by simp, hb, ⟨T, heap_setCell_same w g' (off' + xs.length) cur _ _ hg⟩, by simpa using hc, h2, by simpa using h3, ?_⟩,
      ⟨rfl, rfl, rfl, by simp, fun k _ hk => heap_setCell_other w ⟨g', off' + xs.length, none⟩ k _ (fun e => hk (by simp [e]))⟩⟩
    have hlt : xs.length < (cur.toList.drop off').length := by simp; omega
    rw [Array.toList_setIfInBounds, List.length_append]
    show List.take (xs.length + 1) (List.drop off' (cur.toList.set (off' + xs.length) (.int .i64 u))) = (xs ++ [u]).map (Value.int .i64)
    rw [List.map_append]
    show _ = ints xs ++ [Value.int .i64 u]
    rw [← h4, List.drop_set, if_neg (by omega), Nat.add_sub_cancel_left, List.take_add_one, List.getElem?_set_self hlt, List.take_set, List.set_eq_of_length_le (by simp; omega)]
    rfl
/-- append of one integer to an own slice, nil too; the new element's block has just been laid. -/
theorem wpList_pushI {P : Program} {ops : Array Oper} {rest : List Oper} {o : Oper} {a : Act} {Q : Exit → Act → World → Prop} {wr : World} {y : Int} (hgd : o.guard = none) (s x : Operand) (T : TypeId)
    (ho : o.op = .call { callee := .builtin .append, args := #[s, x], argTypes := #[T, T] }) (ht : P.underlying T = some (.slice 3))
    (hinfo : (P.info? 3).map (fun i => (i.zero, i.size, i.bytes)) = some (some (.int .i64 0), 1, 8))
    (base : Nat) (v : Value) (xs : List Int) (hs : a.eval s = v) (hown : Own wr base v xs)
    (hx : a.eval x = .slice (some ⟨wr.heap.size, 0, none⟩) 1 1) (hn : xs.length ≤ 4000000) (hbase : base ≤ wr.heap.size)
    (h : ∀ v' w', Own w' base v' (xs ++ [y]) → wr.grownBy w' v.ownBlock → (∀ g, v'.ownBlock = some g → v.ownBlock = some g ∨ wr.heap.size ≤ g) → wpList P ops Q rest (a.put o.dst v') w') :
    wpList P ops Q (o :: rest) a (wr.alloc (.cells #[.int .i64 y] 3)) := by
  have h0 := hown
  rcases hown with ⟨rfl, rfl⟩ | ⟨g, f, cap, cur, rfl, hb, ⟨T', hg⟩, h1, h2, h3, h4⟩
  · obtain ⟨i0, hi, hz0, hz1, hz2⟩ := info_parts hinfo
    have hr : (wr.alloc (.cells #[.int .i64 y] 3)).ownsRow wr.heap.size 3 1 (.slice none 0 0) 0 (ints []) := ⟨by simp, .inl ⟨rfl, rfl⟩⟩
    refine wpList_append_own _ hgd s x T ho wr.heap.size 3 i0 (.int .i64 0) 1 8 ht hi hz0 hz1 hz2 rfl (by decide) (.slice none 0 0) 0 (ints []) hs hr ⟨wr.heap.size, 0, none⟩ 1 1 [.int .i64 y] hx rfl ?_ ?_ (by unfold maxLen; omega) (by omega) (by simp) ?_
    · intro j u hu
      rcases j with _ | j
      · simp at hu; subst hu
        simp [Addr.add, World.cell?_alloc_at]
      · simp at hu
    · intro u hu; simp at hu; subst hu; rfl
    · intro v' w' g1 g2 _
      have g3 : w'.ownsRow wr.heap.size 3 1 v' (0 + 1) (ints ([] ++ [y])) := by simpa [ints] using g1
      have o3 := own_of_row g3
      exact h v' w' (o3.mono hbase) ((World.grownBy_alloc _ _ _).trans' g2) (fun g hg => .inr (o3.lt g hg).1)
  · obtain ⟨i0, hi, hz0, hz1, hz2⟩ := info_parts hinfo
    have hba : Below wr.heap.size wr (wr.alloc (.cells #[.int .i64 y] 3)) := (Below.refl _ _).alloc (Nat.le_refl _) _
    have ho2 := h0.belowAll hba
    obtain ⟨hl, hc⟩ := ho2.cellAt rfl
    have hg0 : wr.grownBy (wr.alloc (.cells #[.int .i64 y] 3)) (some g) := ⟨hba.os, hba.tape, hba.output, hba.size, fun k hk _ => hba.block k hk⟩
    refine wpList_append_arg _ hgd s x T ho 3 i0 (.int .i64 0) 1 8 ht hi hz0 hz1 hz2 rfl (by decide) g f xs.length cap (ints xs) hs (by simp [hl]) ?_ ⟨wr.heap.size, 0, none⟩ 1 1 [.int .i64 y] hx rfl ?_ ?_ ?_ (by unfold maxLen; omega) (by omega) ?_ ?_
    · intro j u hu
      have hj : j < xs.length := by have := (List.getElem?_eq_some_iff.1 hu).1; simpa using this
      rw [hc j hj, ← hu]
      simp [hj]
    · intro j u hu
      rcases j with _ | j
      · simp at hu; subst hu
        simp [Addr.add, World.cell?_alloc_at]
      · simp at hu
    · intro u hu
      simp at hu; subst hu; rfl
    · intro hr j hj
      obtain rfl : j = 0 := by simpa using hj
      have hblt : g < wr.heap.size := (Array.getElem?_eq_some_iff.1 hg).1
      have hg' : (wr.alloc (.cells #[.int .i64 y] 3)).heap[g]? = some (.cells cur T' (0, 0)) := (hba.block g hblt).trans hg
      refine ⟨?_, frozen_of_row _ _ _ _ _ hg'⟩
      rw [cell_of_row _ _ _ _ _ _ hg']
      simp; omega
    · intro hr
      have hst := ho2.pushed' rfl (by omega) y
      rw [show f + xs.length * 1 = f + xs.length from by omega]
      exact h _ _ hst.1 (hg0.trans' hst.2) (fun g' hg' => .inl (by simpa [Value.ownBlock] using hg'))
    · intro hr v' w' h1 h2
      have h3 : w'.ownsRow (wr.alloc (.cells #[.int .i64 y] 3)).heap.size 3 1 v' (xs.length + 1) (ints (xs ++ [y])) := by simpa [ints] using h1
      have o3 := own_of_row h3
      exact h v' w' (o3.mono (by simp; omega)) (hg0.trans' ⟨h2.os, h2.tape, h2.output, h2.size, fun k hk _ => h2.block k hk (by simp)⟩) (fun g' hg' => .inr (by have := (o3.lt g' hg').1; simp at this; omega))

end Go.Proofs.YtonpcgdnfclidaaGreatDoor
namespace Go.Proofs.YtonpcgdnfclidaaGreatDoor
open Go.RowKit Go.Sort
set_option maxRecDepth 100000

theorem othE_a {f : Fib} {t : Int} (h : t = f.a) : othE f t = f.b := by unfold othE; rw [if_pos h]
theorem othE_b {f : Fib} {t : Int} (h : ¬ t = f.a) (h2 : t = f.b) : othE f t = f.a := by unfold othE; rw [if_neg h, if_pos h2]
theorem othE_no {f : Fib} {t : Int} (h : ¬ t = f.a) (h2 : ¬ t = f.b) : othE f t = -1 := by unfold othE; rw [if_neg h, if_neg h2]
theorem otherEnd_any (f : Fib) (t : Int) (w : World) :
    Calls Tryz.prog 122 #[fibV f, .int .i64 t] w fun e w' => e = .returned (.int .i64 (othE f t)) ∧ Below w.heap.size w w' := by
  unfold fibV
  have HA := Lib.hid (@othE_a f t)
  have HB := Lib.hid (@othE_b f t)
  have HN := Lib.hid (@othE_no f t)
  obtain ⟨bx, bc, -, -⟩ := box_facts w #[.int .i64 f.a, .int .i64 f.b, .int .i64 f.l, .int .i64 f.r] 110
  have q0 := bc 0 _ rfl
  have q1 := bc 1 _ rfl
  have HBX := Lib.hid bx
  clear bc bx
  generalize othE f t = o at *
  by_cases h1 : t = f.a
  · have HE := Lib.hid (HA.out h1)
    have b1 : (t == f.a) = true := by simp [h1]
    have b2 : decide (t = f.a) = true := by simp [h1]
    clear h1
    go_enter Tryz.func122, Tryz.ntmps122
    go_wp2
    go_ret
    exact ⟨by rw [HE.out]; rfl, HBX.out⟩
  have b1 : (t == f.a) = false := by simp [h1]
  have b2 : decide (t = f.a) = false := by simp [h1]
  by_cases h2 : t = f.b
  · have HE := Lib.hid (HB.out h1 h2)
    have b3 : (t == f.b) = true := by simp [h2]
    have b4 : decide (t = f.b) = true := by simp [h2]
    clear h1 h2
    go_enter Tryz.func122, Tryz.ntmps122
    go_wp2
    go_ret
    exact ⟨by rw [HE.out]; rfl, HBX.out⟩
  have b3 : (t == f.b) = false := by simp [h2]
  have b4 : decide (t = f.b) = false := by simp [h2]
  have HE := Lib.hid (HN.out h1 h2)
  clear h1 h2
  go_enter Tryz.func122, Tryz.ntmps122
  go_wp2
  go_ret
  exact ⟨by rw [HE.out]; rfl, HBX.out⟩
theorem l2Other_any (u1 u2 : Value) (n : Net) (k : Nat) (t : Int) (w : World) (h : Rdt w (flt 4 fibE n.fs) u2) (h1 : ∃ a m c, u1 = .slice a m c) (hk : k < n.fs.length) :
    Calls Tryz.prog 161 #[.agg #[u1, u2], .int .i64 k, .int .i64 t] w fun e w' => e = .returned (.int .i64 (othE (fbA n k) t)) ∧ Below w.heap.size w w' := by
  obtain ⟨a1, m1, c1, rfl⟩ := h1
  obtain ⟨a2, m2, c2, rfl, HN2, hc2, hm2, ha2⟩ := flt_opn (m := 4) (enc := fibE) (fun _ => rfl) (by omega) nilB h
  have hk2 : k < m2 := by have := HN2.out; omega
  obtain ⟨b, off, rfl, hbs, hcs⟩ := ha2 (by omega)
  obtain ⟨bx, bc, -, -⟩ := box_facts w #[.slice a1 m1 c1, .slice (some ⟨b, off, none⟩) m2 c2] 38
  have q0 := bc 0 _ rfl
  have q1 := bc 1 _ rfl
  have HBX := Lib.hid bx
  have e0 := (bx.cell (p := ⟨b, off + k * 4 + 0, none⟩) hbs).trans (hcs k hk2 0 _ rfl)
  have e1 := (bx.cell (p := ⟨b, off + k * 4 + 1, none⟩) hbs).trans (hcs k hk2 1 _ rfl)
  have e2 := (bx.cell (p := ⟨b, off + k * 4 + 2, none⟩) hbs).trans (hcs k hk2 2 _ rfl)
  have e3 := (bx.cell (p := ⟨b, off + k * 4 + 3, none⟩) hbs).trans (hcs k hk2 3 _ rfl)
  simp only [Nat.add_zero] at e0
  have hkI : (k : Int) < (m2 : Int) := by omega
  unfold fbA
  clear hcs bc bx ha2 h hk
  generalize n.fs[k]?.getD nilB = f at *
  have HA := Lib.hid (@othE_a f t)
  have HB := Lib.hid (@othE_b f t)
  have HN := Lib.hid (@othE_no f t)
  have HBY := Lib.hid (fun (w1 : World) => (box_facts w1 #[.int .i64 f.a, .int .i64 f.b, .int .i64 f.l, .int .i64 f.r] 110).1)
  generalize othE f t = o at *
  go_enter Tryz.func161, Tryz.ntmps161
  by_cases h1 : t = f.a
  · have HE := Lib.hid (HA.out h1)
    have b1 : (t == f.a) = true := by simp [h1]
    have b2 : decide (t = f.a) = true := by simp [h1]
    clear h1
    go_wp2
    go_ret
    exact ⟨by rw [HE.out]; rfl, HBX.out.trans ((HBY.out _).mono HBX.out.size)⟩
  have b1 : (t == f.a) = false := by simp [h1]
  have b2 : decide (t = f.a) = false := by simp [h1]
  by_cases h2 : t = f.b
  · have HE := Lib.hid (HB.out h1 h2)
    have b3 : (t == f.b) = true := by simp [h2]
    have b4 : decide (t = f.b) = true := by simp [h2]
    clear h1 h2
    go_wp2
    go_ret
    exact ⟨by rw [HE.out]; rfl, HBX.out.trans ((HBY.out _).mono HBX.out.size)⟩
  have b3 : (t == f.b) = false := by simp [h2]
  have b4 : decide (t = f.b) = false := by simp [h2]
  have HE := Lib.hid (HN.out h1 h2)
  clear h1 h2
  go_wp2
  go_ret
  exact ⟨by rw [HE.out]; rfl, HBX.out.trans ((HBY.out _).mono HBX.out.size)⟩
end Go.Proofs.YtonpcgdnfclidaaGreatDoor
