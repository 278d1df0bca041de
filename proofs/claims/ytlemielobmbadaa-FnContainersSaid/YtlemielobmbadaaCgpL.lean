/- Walk: FnContainers. -/
import Derived.Test.YtlemielobmbadaaBa33
import Derived.Test.YtlemielobmbadaaCgpE
import Derived.Test.YtlemielobmbadaaWrtW
import Derived.Test.YtlemielobmbadaaWrtS
import Derived.Test.YtlemielobmbadaaRdcW
import Derived.Test.YtlemielobmbadaaMovS
import Derived.StillTailTactics
namespace Go.Proofs.Ytlemielobmbadaa
open Go.RowKit
set_option maxRecDepth 100000

theorem rdcGood {xss : List (List Int)} {fs : List Frm} (h1 : frsOk fs = true) (h2 : rdR fs = xss) (v : Value) (w : World) (hr : Rdt w (frD fs) v) :
    Calls Try.prog 50 #[v] w fun e w' => ∃ v', e = .returned (.tuple #[v', .bool true]) ∧ Ofr w' w.heap.size (ssD xss) v' ∧ Below w.heap.size w w' := by
  refine (implRdc_any v fs w hr).mono ?_
  rintro e w' ⟨v', rfl, o, b⟩
  rw [h2] at o
  rw [h1]
  exact ⟨v', rfl, o, b⟩
theorem movGood {p d : Int} (h : movOk p d = true) (w : World) :
    Calls Try.prog 55 #[.int .i64 (movR p d), .int .i64 (-d)] w fun e w' => e = .returned (.tuple #[.int .i64 p, .bool true]) ∧ w = w' := by
  have hb := mov_back h
  refine (implMov_any (movR p d) (-d) w).mono ?_
  rintro e w' ⟨rfl, rfl⟩
  rw [hb.1, hb.2]
  exact ⟨rfl, rfl⟩
theorem jusM_no {f : Int} {ws : List Int} {size lo hi : Int} (h : jusOk f ws size lo hi = false) : jusM f ws size lo hi = [] := by unfold jusM; rw [h]; rfl
theorem jusF_len (f : Int) (ws : List Int) (size lo hi : Int) : (jusF f ws size lo hi).length = (jusM f ws size lo hi).length := by
  unfold jusF jusM
  split
  · rw [movTo_len, filTo_len]
  · rfl
theorem jus_step {f : Int} {ws : List Int} {size lo hi : Int} (h : jusOk f ws size lo hi = true) {k : Nat} (hk : k < ws.length) :
    (0 ≤ fillAt f ws lo hi k ∧ fillAt f ws lo hi k ≤ 200) ∧ (0 ≤ ws[k]?.getD 0 ∧ ws[k]?.getD 0 ≤ 14) ∧ (-1 ≤ (jusM f ws size lo hi)[k]?.getD 0 ∧ (jusM f ws size lo hi)[k]?.getD 0 ≤ 1) ∧ (jusF f ws size lo hi)[k]?.getD 0 = fillAt f ws lo hi (k + 1) ∧ fillAt f ws lo hi k + ws[k]?.getD 0 - 12 - (jusM f ws size lo hi)[k]?.getD 0 = fillAt f ws lo hi (k + 1) := by
  have h0 := h
  unfold jusOk at h0
  rw [Bool.and_eq_true] at h0
  obtain ⟨hp, ht⟩ := h0
  obtain ⟨h1, h2, h3, h4, h5⟩ := jusPre_parts hp
  have hM : jusM f ws size lo hi = movTo f ws lo hi ws.length := by unfold jusM; rw [if_pos h]
  have hF : jusF f ws size lo hi = filTo f ws lo hi ws.length := by unfold jusF; rw [if_pos h]
  have hgood : ∀ j, j < ws.length → (0 ≤ ws[j]?.getD 0 ∧ ws[j]?.getD 0 ≤ 14) ∧ fillAt f ws lo hi j + ws[j]?.getD 0 ≤ size ∧ 0 ≤ fillAt f ws lo hi (j + 1) := fun j hj => by
    have := jusTo_at ht hj
    simp only [jusGood, Bool.and_eq_true, decide_eq_true_eq] at this
    exact ⟨inB_true this.1.1, this.1.2, this.2⟩
  have hfill : 0 ≤ fillAt f ws lo hi k ∧ fillAt f ws lo hi k ≤ 200 := by
    rcases k with _ | k
    · show 0 ≤ f ∧ f ≤ 200; omega
    · obtain ⟨q1, q2, q3⟩ := hgood k (by omega)
      have hb := mvt_bd (fillAt f ws lo hi k + ws[k]?.getD 0) lo hi
      refine ⟨q3, ?_⟩
      show fillAt f ws lo hi k + ws[k]?.getD 0 - 12 - mvt _ lo hi ≤ 200
      omega
  refine ⟨hfill, (hgood k hk).1, ?_, ?_, ?_⟩
  · rw [hM, movTo_get _ _ _ _ hk]; exact mvt_bd _ _ _
  · rw [hF, filTo_get _ _ _ _ hk]
  · rw [hM, jus_fill hk, filTo_get _ _ _ _ hk]
set_option maxHeartbeats 6400000 in
theorem FnContainers_walk (a0 : Option Addr) (len0 cap0 : Nat) (z0 : List Int) (w : World) (hr : RawB w a0 len0 cap0 z0) :
    Calls Try.prog 8 #[.slice a0 len0 cap0] w fun e w' => e = .returned (.bool true) ∧ Below w.heap.size w w' := by
  by_cases hbig : (65536 : Int) < (len0 : Int)
  · have hd : decide ((65536 : Int) < (len0 : Int)) = true := by simpa using hbig
    go_enter Try.func8, Try.ntmps8
    go_wp2_with fail
    refine (vBig_any _ _ _ _).mono ?_
    rintro e w' ⟨rfl, rfl⟩
    go_wp2
    go_ret
    exact ⟨rfl, Below.refl _ _⟩
  have hd : decide ((65536 : Int) < (len0 : Int)) = false := by simpa using hbig
  have hrd := hr.rd (by omega)
  have HRD := Lib.hid hrd
  have HRL := Lib.hid (fun (w' : World) (hb : Below w.heap.size w w') => RdB.below hrd hb)
  clear hr hrd
  go_enter Try.func8, Try.ntmps8
  go_wp2_with fail
  refine (vBig_any _ _ _ _).mono ?_
  rintro e w' ⟨rfl, rfl⟩
  go_wp2_with fail
  refine (drawWc_any _ _ HRD.out).mono ?_
  rintro e w1 ⟨v1, xss, p, rfl, o1, b1⟩
  have B1 := Lib.hid b1
  have R1 := Lib.hid o1.rd
  have HWI := Lib.hid (show ∀ (w : World) (v : Value), Rdt w (ssD xss) v → Calls Try.prog 31 #[v, .int .i64 p] w (fun e w' => ∃ v, e = .returned (.tuple #[v, .bool (wrtOk xss p)]) ∧ Ofr w' w.heap.size (frD (wrtR xss p)) v ∧ Below w.heap.size w w') from fun w v h => implWrt_any v xss p w h)
  have HWS := Lib.hid (show ∀ (w : World) (v : Value), Rdt w (ssD xss) v → Calls Try.prog 29 #[v, .int .i64 p] w (fun e w' => ∃ v, e = .returned (.tuple #[v, .bool (wrtOk xss p)]) ∧ Ofr w' w.heap.size (frD (wrtR xss p)) v ∧ Below w.heap.size w w') from fun w v h => specWrt_any v xss p w h)
  have HRG := Lib.hid (fun (h : wrtOk xss p = true) => fun v w h2 => rdcGood (wrt_back h).1 (wrt_back h).2.1 v w h2)
  have HGG := Lib.hid (fun (h : wrtOk xss p = true) => fun v w h2 => gaps_any v (wrtR xss p) w h2 (wrt_back h).1 (wrt_back h).2.2)
  obtain ⟨a1, n, c1, rfl, HN, -, hn9, -⟩ := ssD_opn o1.rd
  clear b1 o1
  generalize wrtOk xss p = ok at *
  generalize wrtR xss p = fr at *
  have hne : (ok != ok) = false := by simp
  go_wp2_with fail
  refine (HWI.out _ _ R1.out).mono ?_
  rintro e w2 ⟨v2, rfl, o2, b2⟩
  have B2 := Lib.hid (B1.out.trans (b2.mono B1.out.size))
  have R2 := Lib.hid (R1.out.behind b2)
  have F2 := Lib.hid o2.rd
  clear b2 o2 HWI R1 B1
  go_wp2_with fail
  refine (HWS.out _ _ R2.out).mono ?_
  rintro e w3 ⟨v3, rfl, o3, b3⟩
  have B3 := Lib.hid (B2.out.trans (b3.mono B2.out.size))
  have R3 := Lib.hid (R2.out.behind b3)
  have F3 := Lib.hid (F2.out.behind b3)
  clear b3 o3 HWS R2 B2 F2
  go_upto_if 56 with fail
  go_cut [] from 57 to 100 (fun wx => Hid (Below w.heap.size w wx))
  case first =>
    cases ok
    · go_wp2_with fail
      go_meet
      exact B3.out
    go_wp2_with fail
    refine (HRG.out (by trivial) _ _ F3.out).mono ?_
    rintro e w4 ⟨v4, rfl, o4, b4⟩
    have B4 := Lib.hid (B3.out.trans (b4.mono B3.out.size))
    have R4 := Lib.hid (R3.out.behind b4)
    have F4 := Lib.hid (F3.out.behind b4)
    have S4 := Lib.hid o4.rd
    obtain ⟨a4, n4, c4, rfl, HN4, -, -, -⟩ := ssD_opn o4.rd
    obtain rfl : n = n4 := HN.out.symm.trans HN4.out
    clear b4 o4 R3 F3 B3 HN4
    go_wp2_with fail
    refine (HGG.out (by trivial) _ _ F4.out).mono ?_
    rintro e w5 ⟨a5, c5, rfl, b5⟩
    have B5 := Lib.hid (B4.out.trans (b5.mono B4.out.size))
    have R5 := R4.out.behind b5
    have S5 := S4.out.behind b5
    obtain ⟨a, n', ca, e1, -, -, -, HA⟩ := ssD_opn S5
    obtain ⟨b, m, cb, e2, -, -, -, HBB⟩ := ssD_opn R5
    cases e1
    cases e2
    have HA := Lib.hid HA
    have HBB := Lib.hid HBB
    have hnn : ((n : Int) != (n : Int)) = false := by simp
    clear b5 R4 S4 F4 B4 R5 S5 HRG HGG
    go_wp2
    go_loopw [13] (fun i wr => ∃ k : Nat, k ≤ n ∧ i = .int .i64 k ∧ Hid (Below w5.heap.size w5 wr)) (fun i _ => n - (intOf i).toNat)
    case atStart => exact ⟨0, by omega, rfl, Below.refl _ _⟩
    case round =>
      obtain ⟨k, hk, rfl, HB⟩ := hrel
      by_cases hlt : k < n
      · obtain ⟨g1, q1, rfl, hg1, hc1⟩ := HA.out (by omega)
        obtain ⟨g2, q2, rfl, hg2, hc2⟩ := HBB.out (by omega)
        have hltI : (k : Int) < (n : Int) := by omega
        obtain ⟨u1, p1, r1⟩ := hc1 k hlt
        obtain ⟨u2, p2, r2⟩ := hc2 k hlt
        have d1 := (HB.out.cell (p := ⟨g1, q1 + k, none⟩) hg1).trans p1
        have d2 := (HB.out.cell (p := ⟨g2, q2 + k, none⟩) hg2).trans p2
        have hB1 := HB.out.drew
        have HQ := Lib.hid (vSame u1 u2 _ wr.drew (r1.belowAll hB1) (r2.belowAll hB1))
        clear hc1 hc2 p1 p2 r1 r2
        go_wp2
        go_still_tail 8, (by kernel_rfl)
        go_wp2_with fail
        refine HQ.out.mono ?_
        rintro e w2 ⟨rfl, dr⟩
        have hB2 := Lib.hid (dr.below hB1)
        go_wp2
        go_roundw
        case rel => exact ⟨k + 1, by omega, by go_num, hB2⟩
        case measure => simp [intOf]; omega
      · obtain rfl : k = n := by omega
        go_wp2
        go_meet
        exact B5.out.trans (HB.out.mono B5.out.size)
  case rest =>
  have B5 := hcut
  clear hcut HRG HGG F3 R3 B3 HN hne hn9
  go_wp2_with fail
  refine (drawMv_any _ _ (HRL.out _ B5.out)).mono ?_
  rintro e w6 ⟨p, d, rfl, ⟨p0, p1⟩, ⟨d0, d1⟩, b6⟩
  have B6 := Lib.hid (B5.out.trans (b6.mono B5.out.size))
  clear b6 B5
  have HMI := Lib.hid (show ∀ w : World, Calls Try.prog 55 #[.int .i64 p, .int .i64 d] w (fun e w' => e = .returned (.tuple #[.int .i64 (movR p d), .bool (movOk p d)]) ∧ w = w') from fun w => implMov_any p d w)
  have HMS := Lib.hid (show ∀ w : World, Calls Try.prog 56 #[.int .i64 p, .int .i64 d] w (fun e w' => e = .returned (.tuple #[.int .i64 (movR p d), .bool (movOk p d)]) ∧ w = w') from fun w => specMov_any p d w)
  have HMG := Lib.hid (fun h : movOk p d = true => movGood h)
  generalize movOk p d = ok at *
  generalize movR p d = q at *
  have hne : (ok != ok) = false := by simp
  have hqq : (q != q) = false := by simp
  have hpp : (p != p) = false := by simp
  go_wp2_with fail
  refine (HMI.out _).mono ?_
  rintro e w7 ⟨rfl, rfl⟩
  go_wp2_with fail
  refine (HMS.out _).mono ?_
  rintro e w8 ⟨rfl, rfl⟩
  clear HMI HMS
  go_upto_if 126 with fail
  go_cut [] from 127 to 140 (fun wx => Hid (Below w.heap.size w wx))
  case first =>
    cases ok
    · go_wp2_with fail
      go_meet
      exact B6.out
    go_wp2_with fail
    refine (HMG.out (by trivial) _).mono ?_
    rintro e w9 ⟨rfl, rfl⟩
    go_wp2
    go_meet
    exact B6.out
  case rest =>
  have B7 := hcut
  clear hcut HMG B6 hne hqq hpp p0 p1 d0 d1
  go_wp2_with fail
  refine (drawJu_any _ _ (HRL.out _ B7.out)).mono ?_
  rintro e w9 ⟨v9, xs, f, size, lo, hi, rfl, o9, b9⟩
  have B9 := Lib.hid (B7.out.trans (b9.mono B7.out.size))
  have R9 := Lib.hid o9.rd
  have HJI := Lib.hid (show ∀ (w : World) (v : Value), Rd w v xs → Calls Try.prog 58 #[.int .i64 f, v, .int .i64 size, .int .i64 lo, .int .i64 hi] w (fun e w' => ∃ v1 v2, e = .returned (.tuple #[v1, v2, .bool (jusOk f xs size lo hi)]) ∧ Own w' w.heap.size v1 (jusM f xs size lo hi) ∧ Own w' w.heap.size v2 (jusF f xs size lo hi) ∧ Below w.heap.size w w') from fun w v h => implJus_any f v xs size lo hi w h)
  have HJS := Lib.hid (show ∀ (w : World) (v : Value), Rd w v xs → Calls Try.prog 59 #[.int .i64 f, v, .int .i64 size, .int .i64 lo, .int .i64 hi] w (fun e w' => ∃ v1 v2, e = .returned (.tuple #[v1, v2, .bool (jusOk f xs size lo hi)]) ∧ Own w' w.heap.size v1 (jusM f xs size lo hi) ∧ Own w' w.heap.size v2 (jusF f xs size lo hi) ∧ Below w.heap.size w w') from fun w v h => specJus_any f v xs size lo hi w h)
  have HST := Lib.hid (fun (h : jusOk f xs size lo hi = true) k (hk : k < xs.length) => jus_step h hk)
  have HNM := Lib.hid (fun (h : jusOk f xs size lo hi = false) => show (jusM f xs size lo hi).length = 0 by rw [jusM_no h]; rfl)
  have HYM := Lib.hid (fun (h : jusOk f xs size lo hi = true) => show (jusM f xs size lo hi).length = xs.length by unfold jusM; rw [if_pos h, movTo_len])
  have HFL := Lib.hid (jusF_len f xs size lo hi)
  have HF0 := Lib.hid (show fillAt f xs lo hi 0 = f from rfl)
  clear b9 o9 B7
  obtain ⟨a9, c9, n9, HX9, rfl, -, -, -⟩ := R9.out.opn
  generalize jusOk f xs size lo hi = ok at *
  generalize jusM f xs size lo hi = ms at *
  generalize jusF f xs size lo hi = fl at *
  generalize fillAt f xs lo hi = fa at *
  have hne : (ok != ok) = false := by simp
  go_wp2_with fail
  refine (HJI.out _ _ R9.out).mono ?_
  rintro e w10 ⟨v1, v2, rfl, o1, o2, b10⟩
  have B10 := Lib.hid (B9.out.trans (b10.mono B9.out.size))
  have R10 := Lib.hid (R9.out.belowAll b10)
  have M10 := Lib.hid o1.rd
  have F10 := Lib.hid o2.rd
  clear b10 o1 o2 R9 B9 HJI
  go_wp2_with fail
  refine (HJS.out _ _ R10.out).mono ?_
  rintro e w11 ⟨v3, v4, rfl, o3, o4, b11⟩
  have B11 := Lib.hid (B10.out.trans (b11.mono B10.out.size))
  have R11 := Lib.hid (R10.out.belowAll b11)
  have M11 := Lib.hid (M10.out.belowAll b11)
  have F11 := Lib.hid (F10.out.belowAll b11)
  have M12 := Lib.hid o3.rd
  have F12 := Lib.hid o4.rd
  clear b11 o3 o4 R10 B10 M10 F10 HJS
  go_wp2_with fail
  refine (vSame _ _ ms _ M11.out M12.out).mono ?_
  rintro e w12 ⟨rfl, n12, rfl⟩
  go_wp2_with fail
  refine (vSame _ _ fl _ (F11.out.drewN n12) (F12.out.drewN n12)).mono ?_
  rintro e w13 ⟨rfl, n13, rfl⟩
  have hdr : Dr w11 ((w11.drewN n12).drewN n13) := ((Dr.refl w11).drewN n12).drewN n13
  have B13 := Lib.hid (hdr.below B11.out)
  have R13 := R11.out.dr hdr
  have M13 := M11.out.dr hdr
  have F13 := F11.out.dr hdr
  clear R11 M11 F11 M12 F12 B11 hdr
  generalize (w11.drewN n12).drewN n13 = W at *
  obtain ⟨am, cm, nm, HXM, rfl, -, hnm, ham⟩ := M13.opn
  obtain ⟨af, cf, nf, HXF, rfl, -, -, haf⟩ := F13.opn
  obtain ⟨ar, cr, nr, HXR, e1, -, -, har⟩ := R13.opn
  cases e1
  have hnf : nf = nm := by rw [← HXF.out, HFL.out, HXM.out]
  subst hnf
  have HNM2 := Lib.hid (fun h => show nf = 0 from HXM.out ▸ HNM.out h)
  have HYM2 := Lib.hid (fun h => show nf = n9 from HXM.out ▸ HX9.out ▸ HYM.out h)
  have HAM := Lib.hid ham
  have HAF := Lib.hid haf
  have HAR := Lib.hid har
  have HST2 := Lib.hid (fun h k (hk : k < n9) => HST.out h k (by rw [HX9.out]; exact hk))
  clear R13 M13 F13 ham haf har HST HNM HYM HFL HXR HXF HXM
  go_wp2
  go_loopw [22, 33] (fun fv iv wr => ∃ k : Nat, k ≤ nf ∧ fv = .int .i64 (fa k) ∧ iv = .int .i64 (k : Int) ∧ Hid (Dr W wr)) (fun _ iv _ => nf - (intOf iv).toNat)
  case atStart => exact ⟨0, by omega, by rw [HF0.out], rfl, Dr.refl _⟩
  case round =>
    obtain ⟨k, hk, rfl, rfl, HD⟩ := hrel
    by_cases hlt : k < nf
    · have hok : ok = true := by
        cases ok
        · have := HNM2.out rfl; omega
        · rfl
      subst hok
      have hk9 : k < n9 := by have := HYM2.out rfl; omega
      have hk9I : (k : Int) < (n9 : Int) := by omega
      have hltI : (k : Int) < (nf : Int) := by omega
      have hltb : decide ((k : Int) < (nf : Int)) = true := decide_eq_true hltI
      obtain ⟨⟨f0, f1⟩, ⟨x0, x1⟩, ⟨m0, m1⟩, e1, e2⟩ := HST2.out rfl k hk9
      obtain ⟨g1, q1, rfl, hg1, hc1⟩ := HAM.out (by omega)
      obtain ⟨g2, q2, rfl, hg2, hc2⟩ := HAF.out (by omega)
      obtain ⟨g3, q3, rfl, hg3, hc3⟩ := HAR.out (by omega)
      have hB : Below W.heap.size W wr := HD.out.below (Below.refl _ _)
      have p1 := (hB.cell (p := ⟨g1, q1 + k, none⟩) hg1).trans (hc1 k hlt)
      have p2 := (hB.cell (p := ⟨g2, q2 + k, none⟩) hg2).trans (hc2 k hlt)
      have p3 := (hB.cell (p := ⟨g3, q3 + k, none⟩) hg3).trans (hc3 k hk9)
      rw [e1] at p2
      have HE := Lib.hid e2
      clear hc1 hc2 hc3 hB e1 e2
      generalize xs[k]?.getD 0 = x at *
      generalize ms[k]?.getD 0 = m at *
      have hfe : ((fa k + x - 12 - m) != fa (k + 1)) = false := by rw [HE.out]; simp
      go_wp2
      go_quiet (fail)
      go_wp2
      go_roundw
      case rel => exact ⟨k + 1, by omega, by rw [HE.out], by go_num, HD.out.drewN _⟩
      case measure => simp only [intOf]; omega
    · obtain rfl : k = nf := by omega
      go_wp2
      go_ret
      exact ⟨rfl, HD.out.below B13.out⟩
end Go.Proofs.Ytlemielobmbadaa
