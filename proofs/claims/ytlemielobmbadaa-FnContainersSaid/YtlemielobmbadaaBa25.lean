/- Joined: XWrtP XRdcP. -/
import Derived.Test.YtlemielobmbadaaBa24
namespace Go.Proofs.Ytlemielobmbadaa
open Go.RowKit

def conOk (xs : List Int) : Bool := decide (xs.length = 12) && bytL xs
theorem conOk_parts {xs : List Int} (h : conOk xs = true) : xs.length = 12 ∧ bytL xs = true := by
  simpa [conOk] using h
def wrtOk (xss : List (List Int)) (p : Int) : Bool := inB (xss.length : Int) 1 11 && inB p 0 11 && xss.all conOk
theorem wrtOk_parts {xss : List (List Int)} {p : Int} (h : wrtOk xss p = true) : (1 ≤ xss.length ∧ xss.length ≤ 11) ∧ (0 ≤ p ∧ p ≤ 11) ∧ xss.all conOk = true := by
  simp only [wrtOk, Bool.and_eq_true] at h
  have h1 := inB_true h.1.1; have h2 := inB_true h.1.2
  exact ⟨by omega, h2, h.2⟩
def allW (xss : List (List Int)) (p : Nat) : List Int := List.replicate p 0 ++ xss.flatten
theorem allW_zero (p : Nat) (xss : List (List Int)) : allW (xss.take 0) p = List.replicate p 0 := by simp [allW]
theorem allW_step {xss : List (List Int)} {p k : Nat} (h : k < xss.length) : allW (xss.take (k + 1)) p = allW (xss.take k) p ++ (xss[k]?.getD []) := by
  rw [allW, allW, List.take_add_one, List.flatten_append, List.getElem?_eq_getElem h, ← List.append_assoc]; simp
theorem all_take_step {xss : List (List Int)} {k : Nat} (h : k < xss.length) (h1 : (xss.take k).all conOk = true) (h2 : conOk (xss[k]?.getD []) = true) : (xss.take (k + 1)).all conOk = true := by
  rw [List.take_add_one, List.all_append, h1, List.getElem?_eq_getElem h] at *
  simpa using h2
theorem all_no {xss : List (List Int)} {k : Nat} (h : k < xss.length) (h2 : conOk (xss[k]?.getD []) = false) : xss.all conOk = false := by
  rw [List.all_eq_false]
  rw [List.getElem?_eq_getElem h] at h2
  exact ⟨xss[k], List.getElem_mem h, by simpa using h2⟩
theorem allW_len {xss : List (List Int)} (p : Nat) (h : xss.all conOk = true) : (allW xss p).length = p + 12 * xss.length := by
  induction xss with
  | nil => simp [allW]
  | cons xs xss ih =>
    simp only [List.all_cons, Bool.and_eq_true] at h
    have := ih h.2
    have h12 := (conOk_parts h.1).1
    simp only [allW, List.length_append, List.length_replicate, List.flatten_cons, List.length_cons] at this ⊢
    omega
def padN (l : Nat) : Nat := (12 - l % 12) % 12
def padW (l : List Int) : List Int := l ++ List.replicate (padN l.length) 0
theorem padN_lt {L j : Nat} (h : j ≤ padN L) (h2 : (L + j) % 12 ≠ 0) : j < padN L := by
  unfold padN at *; omega
theorem padN_eq {L j : Nat} (h : j ≤ padN L) (h2 : (L + j) % 12 = 0) : j = padN L := by
  unfold padN at *; omega
theorem padN_mod (L : Nat) : (L + padN L) % 12 = 0 := by unfold padN; omega
theorem padW_len (l : List Int) : (padW l).length = l.length + padN l.length := by simp [padW]
def wrtTo (P : List Int) (p : Int) (k : Nat) : List Frm := (List.range k).map fun (i : Nat) => ⟨(i : Int), p, sub P (12 * i) 12⟩
theorem wrtTo_len (P : List Int) (p : Int) (k : Nat) : (wrtTo P p k).length = k := by simp [wrtTo]
theorem wrtTo_step (P : List Int) (p : Int) (k : Nat) : wrtTo P p (k + 1) = wrtTo P p k ++ [⟨(k : Int), p, sub P (12 * k) 12⟩] := by simp [wrtTo, List.range_succ]
theorem wrtTo_cells (P : List Int) (p : Int) (k : Nat) : (wrtTo P p (k + 1)).flatMap frC = (wrtTo P p k).flatMap frC ++ [.leaf (.int .i64 (k : Int)), .leaf (.int .i64 p), inD (sub P (12 * k) 12)] := by
  rw [wrtTo_step, List.flatMap_append]; simp [frC]
def wrtP (xss : List (List Int)) (p : Int) : List Int := padW (allW xss p.toNat)
def wrtR (xss : List (List Int)) (p : Int) : List Frm := if wrtOk xss p then wrtTo (wrtP xss p) p ((wrtP xss p).length / 12) else []
theorem wrtR_no {xss : List (List Int)} {p : Int} (h : wrtOk xss p = false) : wrtR xss p = [] := by unfold wrtR; rw [h]; rfl
theorem wrtR_yes {xss : List (List Int)} {p : Int} (h : wrtOk xss p = true) {P : List Int} {M : Nat} (hP : P = wrtP xss p) (hM : P.length = 12 * M) : wrtR xss p = wrtTo P p M := by
  unfold wrtR; rw [if_pos h, ← hP, hM]; congr 1; omega
theorem wrtR_q (xss : List (List Int)) (p : Int) : qAt (wrtR xss p) (wrtR xss p).length ≤ 1073741824 := by
  cases h : wrtOk xss p
  · rw [wrtR_no h]; simp [qAt]
  · obtain ⟨⟨h1, h2⟩, ⟨h3, h4⟩, h5⟩ := wrtOk_parts h
    unfold wrtR; rw [if_pos h]
    have hl : (wrtP xss p).length ≤ 1000 := by
      unfold wrtP; rw [padW_len, allW_len _ h5]; unfold padN; omega
    generalize (wrtP xss p) = P at *
    have : ∀ k, qAt (wrtTo P p k) (wrtTo P p k).length ≤ 14 * k := by
      intro k
      rw [qAt, List.take_length]
      induction k with
      | zero => simp [wrtTo]
      | succ k ih =>
        rw [wrtTo_step, List.map_append, List.sum_append]
        have : (sub P (12 * k) 12).length ≤ 12 := by simp [sub]; omega
        simp [szF]; omega
    have := this (P.length / 12)
    omega
def WrtP (w : World) (xss : List (List Int)) (p : Int) (e : Ending) (w' : World) : Prop := ∃ v, e = .returned (.tuple #[v, .bool (wrtOk xss p)]) ∧ Ofr w' w.heap.size (frD (wrtR xss p)) v ∧ Below w.heap.size w w'
theorem WrtP.no {w w' : World} {xss : List (List Int)} {p : Int} {v : Value} (h : wrtOk xss p = false) (ho : Ofr w' w.heap.size (.rows 3 []) v) (hb : Below w.heap.size w w') : WrtP w xss p (.returned (.tuple #[v, .bool false])) w' :=
  ⟨v, by rw [h], by rw [wrtR_no h]; exact ho, hb⟩
theorem WrtP.yes {w w' : World} {xss : List (List Int)} {p : Int} {v : Value} {fs : List Frm} (h : wrtOk xss p = true) (hf : wrtR xss p = fs) (ho : Ofr w' w.heap.size (frD fs) v) (hb : Below w.heap.size w w') : WrtP w xss p (.returned (.tuple #[v, .bool true])) w' :=
  ⟨v, by rw [h], by rw [hf]; exact ho, hb⟩
end Go.Proofs.Ytlemielobmbadaa
namespace Go.Proofs.Ytlemielobmbadaa
open Go.RowKit
set_option maxRecDepth 100000

def frsOk (fs : List Frm) : Bool := decide (fs.length ≤ 12) && fs.all frmOk
theorem frs_take {fs : List Frm} {k : Nat} (h : k < fs.length) (h1 : (fs.take k).all frmOk = true) (h2 : frmOk (fs[k]?.getD nilF) = true) : (fs.take (k + 1)).all frmOk = true := by
  rw [List.take_add_one, List.all_append, h1, List.getElem?_eq_getElem h] at *
  simpa using h2
theorem frs_no {fs : List Frm} {k : Nat} (h : k < fs.length) (h2 : frmOk (fs[k]?.getD nilF) = false) : fs.all frmOk = false := by
  rw [List.all_eq_false]
  rw [List.getElem?_eq_getElem h] at h2
  exact ⟨fs[k], List.getElem_mem h, by simpa using h2⟩
theorem frs_get {fs : List Frm} (h : fs.all frmOk = true) (i : Nat) (hi : i < fs.length) : frmOk (fs[i]?.getD nilF) = true := by
  rw [List.getElem?_eq_getElem hi]
  exact List.all_eq_true.1 h _ (List.getElem_mem hi)
theorem notFrame_any (v : Value) (f : Frm) (w : World) (h : RdF w v f) :
    Calls Try.prog 124 #[v] w fun e w' => e = .returned (.bool (!frmOk f)) ∧ Below w.heap.size w w' := by
  obtain ⟨u, rfl, hu⟩ := h
  have hal := (Below.refl w.heap.size w).alloc (Nat.le_refl _) (.cells #[.int .i64 f.c, .int .i64 f.p, u] 50)
  have hv := implValid_any (.agg #[.int .i64 f.c, .int .i64 f.p, u]) f _ ⟨u, rfl, hu.belowAll hal⟩
  have HV := Lib.hid hv
  have HB := Lib.hid hal
  obtain ⟨a, c, n, -, rfl, -⟩ := hu.opn
  clear hu hal hv
  go_enter Try.func124, Try.ntmps124
  go_wp2_with fail
  refine HV.out.mono ?_
  rintro e w2 ⟨rfl, b2⟩
  have HB2 := Lib.hid (HB.out.trans (b2.mono HB.out.size))
  go_wp2
  go_ret
  exact ⟨rfl, HB2.out⟩
set_option maxHeartbeats 1600000 in
theorem indexFr_any (v : Value) (fs : List Frm) (w : World) (h : Rdt w (frD fs) v) (hF : IsFn 124) :
    Calls Try.prog 129 #[v, .func (.func 124) #[] #[]] w fun e w' => ∃ r : Int, e = .returned (.int .i64 r) ∧ decide (0 ≤ r) = !(fs.all frmOk) ∧ Below w.heap.size w w' := by
  obtain ⟨a, n, cap, rfl, HN, _, hn, ha⟩ := frD_opn h
  have HA := Lib.hid ha
  have hF := show ∀ (args : Array Value) (w : World), (callFunc 124 args).run Try.prog w = .ok (.enter 124 args) w from hF
  have HT1 := Lib.hid (fun k (h : k < fs.length) => @frs_take fs k h)
  have HT2 := Lib.hid (fun k (h : k < fs.length) => @frs_no fs k h)
  clear ha h
  go_enter Try.func129, Try.ntmps129
  go_wp2
  go_loopw [5, 8] (fun _ i wr => ∃ k : Nat, k ≤ n ∧ i = .int .i64 k ∧ Hid ((fs.take k).all frmOk = true) ∧ Hid (Below w.heap.size w wr)) (fun _ i _ => n - (intOf i).toNat)
  case atStart => exact ⟨0, by omega, rfl, rfl, Below.refl _ _⟩
  case round =>
    obtain ⟨k, hk, rfl, HT, HB⟩ := hrel
    by_cases hlt : k < n
    · obtain ⟨b, off, rfl, hbs, hcs⟩ := HA.out (by omega)
      obtain ⟨u, p1, p2, p3, hru⟩ := hcs k hlt
      have hltI : (k : Int) < (n : Int) := by omega
      have hkx : k < fs.length := by rw [HN.out]; exact hlt
      have d1 := (HB.out.cell (p := ⟨b, off + k * 3, none⟩) hbs).trans p1
      have d2 := (HB.out.cell (p := ⟨b, off + k * 3 + 1, none⟩) hbs).trans p2
      have d3 := (HB.out.cell (p := ⟨b, off + k * 3 + 2, none⟩) hbs).trans p3
      have HS := Lib.hid (notFrame_any (.agg #[.int .i64 (fs[k]?.getD nilF).c, .int .i64 (fs[k]?.getD nilF).p, u]) (fs[k]?.getD nilF) wr ⟨u, rfl, hru.belowAll HB.out⟩)
      have H1 := Lib.hid (HT1.out k hkx HT.out)
      have H2 := Lib.hid (HT2.out k hkx)
      have hz := HB.out.size
      clear hcs hru p1 p2 p3
      generalize fs[k]?.getD nilF = f at *
      generalize frmOk f = ok at *
      cases ok
      · have HNO := Lib.hid (show decide (0 ≤ (k : Int)) = !(fs.all frmOk) by rw [H2.out rfl]; simp)
        go_wp2_with fail
        refine HS.out.mono ?_
        rintro e w2 ⟨rfl, b2⟩
        have HB2 := Lib.hid (HB.out.trans (b2.mono hz))
        clear b2
        go_wp2
        go_ret
        exact ⟨_, rfl, HNO.out, HB2.out⟩
      · have H1' := Lib.hid (H1.out rfl)
        go_wp2_with fail
        refine HS.out.mono ?_
        rintro e w2 ⟨rfl, b2⟩
        have HB2 := Lib.hid (HB.out.trans (b2.mono hz))
        clear b2
        go_wp2
        go_roundw
        case rel => exact ⟨k + 1, by omega, by go_num, H1'.out, HB2.out⟩
        case measure => simp [intOf]; omega
    · obtain rfl : k = n := by omega
      have hh := HT.out
      rw [← HN.out, List.take_length] at hh
      have HH := Lib.hid hh
      clear hh
      go_wp2
      go_ret
      exact ⟨-1, rfl, by rw [HH.out]; rfl, HB.out⟩
def FrsP (w : World) (fs : List Frm) (e : Ending) (w' : World) : Prop := e = .returned (.bool (frsOk fs)) ∧ Below w.heap.size w w'
theorem areFrames_any (v : Value) (fs : List Frm) (w : World) (h : Rdt w (frD fs) v) :
    Calls Try.prog 104 #[v] w (FrsP w fs) := by
  have HI := Lib.hid (indexFr_any v fs w h (isFn_of Try.func124 (by kernel_rfl) (by kernel_rfl)))
  have HC := Lib.hid (show Calls Try.prog 123 #[v, .func (.func 124) #[] #[]] w (fun e w' => e = .returned (.bool (!(fs.all frmOk))) ∧ Below w.heap.size w w') from by
    go_enter Try.func123, Try.ntmps123
    go_wp2_with fail
    refine HI.out.mono ?_
    rintro e w2 ⟨r, rfl, hr, b2⟩
    have HB := Lib.hid b2
    have HR := Lib.hid hr
    clear b2 hr
    go_wp2
    go_ret
    exact ⟨by rw [← HR.out]; rfl, HB.out⟩)
  obtain ⟨a, n, cap, rfl, HN, _, hn, -⟩ := frD_opn h
  have HK := Lib.hid (show frsOk fs = (decide (n ≤ 12) && fs.all frmOk) by rw [frsOk, HN.out])
  clear HI h
  generalize fs.all frmOk = al at *
  by_cases h12 : n ≤ 12
  · have hI : (n : Int) ≤ 12 := by omega
    have hIb : decide ((n : Int) ≤ 12) = true := by simpa using hI
    have HF := Lib.hid (show frsOk fs = al by rw [HK.out]; simp [h12])
    clear h12
    go_enter Try.func104, Try.ntmps104
    go_wp2_with fail
    refine HC.out.mono ?_
    rintro e w2 ⟨rfl, b2⟩
    have HB := Lib.hid b2
    clear b2
    go_wp2
    go_ret
    exact ⟨by rw [HF.out]; cases al <;> rfl, HB.out⟩
  · have hI : ¬ (n : Int) ≤ 12 := by omega
    have hIb : decide ((n : Int) ≤ 12) = false := by simpa using hI
    have HF := Lib.hid (show frsOk fs = false by rw [HK.out]; simp [h12])
    clear h12
    go_enter Try.func104, Try.ntmps104
    go_wp2
    go_ret
    exact ⟨by rw [HF.out]; rfl, Below.refl _ _⟩
set_option maxHeartbeats 1600000 in
theorem l23Frames_any (v : Value) (fs : List Frm) (w : World) (h : Rdt w (frD fs) v) :
    Calls Try.prog 101 #[v] w (FrsP w fs) := by
  obtain ⟨a, n, cap, rfl, HN, _, hn, ha⟩ := frD_opn h
  have HA := Lib.hid ha
  have HK := Lib.hid (show frsOk fs = (decide (n ≤ 12) && fs.all frmOk) by rw [frsOk, HN.out])
  have HT1 := Lib.hid (fun k (h : k < fs.length) => @frs_take fs k h)
  have HT2 := Lib.hid (fun k (h : k < fs.length) => @frs_no fs k h)
  clear ha h
  go_enter Try.func101, Try.ntmps101
  go_wp2
  go_loopw [3] (fun i wr => ∃ k : Nat, k ≤ n ∧ k ≤ 13 ∧ i = .int .i64 k ∧ Hid ((fs.take k).all frmOk = true) ∧ Hid (Below w.heap.size w wr)) (fun i _ => n - (intOf i).toNat)
  case atStart => exact ⟨0, by omega, by omega, rfl, rfl, Below.refl _ _⟩
  case round =>
    obtain ⟨k, hk, hk13, rfl, HT, HB⟩ := hrel
    by_cases hlt : k < n ∧ k ≤ 12
    · obtain ⟨hlt, hk12⟩ := hlt
      obtain ⟨b, off, rfl, hbs, hcs⟩ := HA.out (by omega)
      obtain ⟨u, p1, p2, p3, hru⟩ := hcs k hlt
      have hltI : (k : Int) < (n : Int) := by omega
      have h12I : (k : Int) ≤ 12 := by omega
      have hb1 : decide ((k : Int) < (n : Int)) = true := by simpa using hltI
      have hb2 : decide ((k : Int) ≤ 12) = true := by simpa using h12I
      have hkx : k < fs.length := by rw [HN.out]; exact hlt
      have d1 := (HB.out.cell (p := ⟨b, off + k * 3, none⟩) hbs).trans p1
      have d2 := (HB.out.cell (p := ⟨b, off + k * 3 + 1, none⟩) hbs).trans p2
      have d3 := (HB.out.cell (p := ⟨b, off + k * 3 + 2, none⟩) hbs).trans p3
      have HS := Lib.hid (show Calls Try.prog 95 _ wr (fun e w' => e = .returned (.bool (frmOk (fs[k]?.getD nilF))) ∧ Below wr.heap.size wr w') from l23Good_any (.agg #[.int .i64 (fs[k]?.getD nilF).c, .int .i64 (fs[k]?.getD nilF).p, u]) (fs[k]?.getD nilF) wr ⟨u, rfl, hru.belowAll HB.out⟩)
      have H1 := Lib.hid (HT1.out k hkx HT.out)
      have H2 := Lib.hid (HT2.out k hkx)
      have hz := HB.out.size
      clear hcs hru p1 p2 p3
      generalize fs[k]?.getD nilF = f at *
      generalize frmOk f = ok at *
      cases ok
      · have HNO := Lib.hid (show frsOk fs = false by rw [HK.out, H2.out rfl]; simp)
        go_wp2_with fail
        refine HS.out.mono ?_
        rintro e w2 ⟨rfl, b2⟩
        have HB2 := Lib.hid (HB.out.trans (b2.mono hz))
        clear b2
        go_wp2
        go_ret
        exact ⟨by rw [HNO.out]; rfl, HB2.out⟩
      · have H1' := Lib.hid (H1.out rfl)
        go_wp2_with fail
        refine HS.out.mono ?_
        rintro e w2 ⟨rfl, b2⟩
        have HB2 := Lib.hid (HB.out.trans (b2.mono hz))
        clear b2
        go_wp2
        go_roundw
        case rel => exact ⟨k + 1, by omega, by omega, by go_num, H1'.out, HB2.out⟩
        case measure => simp [intOf]; omega
    · have HF := Lib.hid (show frsOk fs = decide (n ≤ 12) from by
        rw [HK.out]
        by_cases h12 : n ≤ 12
        · have : k = n := by omega
          have hh := HT.out
          rw [this, ← HN.out, List.take_length] at hh
          simp [h12, hh]
        · simp [h12])
      have hor : (decide ((k : Int) < (n : Int)) = false ∧ ¬ (k : Int) < (n : Int)) ∨ ((decide ((k : Int) < (n : Int)) = true ∧ (k : Int) < (n : Int)) ∧ decide ((k : Int) ≤ 12) = false ∧ ¬ (k : Int) ≤ 12) := by
        by_cases h : k < n
        · exact .inr ⟨⟨by simp; omega, by omega⟩, by simp; omega, by omega⟩
        · exact .inl ⟨by simp; omega, by omega⟩
      have hd : decide ((n : Int) ≤ 12) = decide (n ≤ 12) := by
        by_cases h : n ≤ 12
        · have h2 : (n : Int) ≤ 12 := by omega
          simp [h, h2]
        · have h2 : ¬ (n : Int) ≤ 12 := by omega
          simp [h, h2]
      have HD := Lib.hid hd
      clear hd hlt
      rcases hor with ⟨f1, f2⟩ | ⟨⟨f1, f2⟩, f3, f4⟩
      all_goals
        go_wp2
        go_ret
        exact ⟨by rw [HF.out, ← HD.out]; rfl, HB.out⟩
end Go.Proofs.Ytlemielobmbadaa
