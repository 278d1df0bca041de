/- Walks: the laws' functions on lists of strings. -/
import Derived.Test.YtphhenlokbodnaaNetS
import Derived.Test.YtphhenlokbodnaaMid
import Derived.Test.YtphhenlokbodnaaNumP
import Derived.Laws.IdiomStrings
namespace Go.Proofs.Ytphhenlokbodnaa
open Go.RowKit Go.Sort
set_option maxRecDepth 100000

def digE (q : Nat) : List UInt8 := if q = 0 then [] else digs q
theorem digE_step {q : Nat} (h : 0 < q) : digE q = digE (q / 10) ++ [UInt8.ofNat (48 + q % 10)] := by
  unfold digE
  rw [if_neg (by omega)]
  by_cases h1 : q < 10
  · rw [digs_small h1, if_pos (by omega), Nat.mod_eq_of_lt h1]; rfl
  · rw [digs_big h1, if_neg (by omega)]
def mkTx (k : Nat) : ByteArray := mk (109 :: digs k)
set_option maxHeartbeats 1600000 in
theorem markText_any (k : Nat) (h0 : 0 < k) (hk : k ≤ 4503599627370496) (w : World) :
    Calls Try.prog 68 #[.int .i64 k] w fun e w' => e = .returned (.string (mkTx k)) ∧ Below w.heap.size w w' := by
  have HM := Lib.hid (show mkTx k = mk (109 :: digE k) by unfold mkTx digE; rw [if_neg (by omega)])
  have hkI : (0 : Int) < (k : Int) := by omega
  have hkn : ¬ (k : Int) ≤ 0 := by omega
  generalize mkTx k = r at *
  go_enter Try.func68, Try.ntmps68
  go_wp2
  clear hkI hkn
  go_loopw [0, 3] (fun x s wr => ∃ (q : Nat) (l : List UInt8), q ≤ k ∧ x = .int .i64 q ∧ s = .string (mk l) ∧ l.length + q ≤ k ∧ Hid (digE q ++ l = digE k) ∧ Hid (Below w.heap.size w wr)) (fun x _ _ => (intOf x).toNat)
  case atStart => exact ⟨k, [], Nat.le_refl _, rfl, rfl, by simp, by simp [Hid], Below.refl _ _⟩
  case round =>
    obtain ⟨q, l, hq, rfl, rfl, hl, HD, HB⟩ := hrel
    by_cases h1 : 0 < q
    · have h1I : (0 : Int) < (q : Int) := by omega
      have HDS := Lib.hid (digE_step h1)
      have hq1 : (q : Int) / 10 = ((q / 10 : Nat) : Int) := by omega
      have hr1 : (q : Int) % 10 = ((q % 10 : Nat) : Int) := by omega
      have hq2 : (q : Int).tdiv 10 = ((q / 10 : Nat) : Int) := by rw [Int.tdiv_eq_ediv_of_nonneg (by omega)]; exact hq1
      have hr2 : (q : Int).tmod 10 = ((q % 10 : Nat) : Int) := by rw [Int.tmod_eq_emod_of_nonneg (by omega)]; exact hr1
      have hb10 : q % 10 < 10 := by omega
      have hadv : q / 10 < q := by omega
      generalize q / 10 = a at *
      generalize q % 10 = b at *
      have hb : ((b : Nat) : Int) < 10 := by omega
      have hw1 : IntKind.i64.wrap (48 + (b : Int)) = 48 + (b : Int) := IntWalk.i64_in _ (by omega)
      have HU := Lib.hid (show (UInt8.ofNat (48 + b)).toNat = 48 + b by simp [UInt8.toNat_ofNat']; omega)
      have hw2 : IntKind.u8.wrap (48 + (b : Int)) = (((UInt8.ofNat (48 + b)).toNat : Nat) : Int) := by rw [HU.out]; unfold IntKind.wrap IntKind.bits IntKind.signed; simp; omega
      generalize UInt8.ofNat (48 + b) = c at *
      have hcv : (convert 112 9 (.slice (some ⟨wr.heap.size, 0, none⟩) 1 1)).run Try.prog (wr.alloc (.cells #[.int .u8 (c.toNat : Int)] 5)) = .ok (.string ⟨#[c]⟩) (wr.alloc (.cells #[.int .u8 (c.toNat : Int)] 5)) := by
        refine run_convert_bytes_back (P := Try.prog) (wr.alloc (.cells #[.int .u8 (c.toNat : Int)] 5)) 112 9 5 ⟨wr.heap.size, 0, none⟩ 1 [c] Try.underlying112 Try.underlying5 Try.underlying9 (fun j hj => ?_)
        obtain rfl : j = 0 := by simpa using hj
        exact blkc (heap_alloc_new wr (.cells #[.int .u8 (c.toNat : Int)] 5)) (j := 0) rfl
      have hn1 : ¬ 9223372036854775807 < 1 + l.length := by omega
      have HL2 := Lib.hid (show digE a ++ (c :: l) = digE k by rw [← HD.out, HDS.out, List.append_assoc]; rfl)
      clear hw1
      go_wp2
      go_roundw
      case rel => exact ⟨a, c :: l, by omega, rfl, by rw [show ({ data := #[c] } : ByteArray) = mk [c] from rfl, mk_append]; rfl, by simp; omega, HL2.out, HB.out.alloc HB.out.size _⟩
      case measure => simp [intOf]; omega
    · obtain rfl : q = 0 := by omega
      have hd := HD.out
      unfold digE at hd
      rw [if_pos rfl, List.nil_append] at hd
      have HE := Lib.hid (show mk (109 :: l) = r by rw [HM.out, hd]; rfl)
      clear hd HD
      have h00 : ¬ (0 : Int) < ((0 : Nat) : Int) := by omega
      have hn2 : ¬ 9223372036854775807 < 1 + l.length := by omega
      go_wp2
      go_ret
      exact ⟨by rw [← HE.out, show mk (109 :: l) = mk [109] ++ mk l from by rw [mk_append]; rfl]; rfl, HB.out⟩
/-! ### Sizes, copies, comparisons, marks -/
def totS (ns : List ByteArray) : Nat := (ns.map (·.size)).sum
theorem totS_step {ns : List ByteArray} {k : Nat} (h : k < ns.length) : totS (ns.take (k + 1)) = totS (ns.take k) + (ns[k]?.getD nilS).size := by
  rw [totS, totS, List.take_add_one, List.map_append, List.sum_append, List.getElem?_eq_getElem h]; simp
theorem totS_le (ns : List ByteArray) (k : Nat) : totS (ns.take k) ≤ totS ns := by
  rw [totS, totS]
  conv => rhs; rw [← List.take_append_drop k ns, List.map_append, List.sum_append]
  omega
theorem totS_mem (ns : List ByteArray) (k : Nat) : (ns[k]?.getD nilS).size ≤ totS ns := by
  by_cases h : k < ns.length
  · have h1 := totS_step h
    have h2 := totS_le ns (k + 1)
    omega
  · rw [List.getElem?_eq_none (by omega)]; exact Nat.zero_le _
set_option maxHeartbeats 1600000 in
theorem szStringS_any (v : Value) (ns : List ByteArray) (l : Int) (w : World) (h : Rwt w (flt 1 strE ns) v) (h0 : 0 ≤ l) (h1 : l ≤ 1048576) (hs : ∀ i : Nat, (ns[i]?.getD nilS).size ≤ maxLen) :
    Calls Try.prog 34 #[v, .int .i64 l] w fun e w' => e = .returned (.int .i64 (if l < (ns.length : Int) + totS ns then -1 else l - ((ns.length : Int) + totS ns))) ∧ w = w' := by
  obtain ⟨a, n, cap, rfl, HN, hn, ha⟩ := flt_opnw (m := 1) (enc := strE) (fun _ => rfl) (by omega) nilS h
  have HT := Lib.hid (fun k (h : k < ns.length) => @totS_step ns k h)
  have hal : totS (ns.take ns.length) = totS ns := by rw [List.take_length]
  have hle := totS_le ns
  rw [HN.out] at hal ⊢
  have HAL := Lib.hid hal
  have HLE := Lib.hid hle
  have HA := Lib.hid ha
  have HS := Lib.hid hs
  obtain ⟨T, hT⟩ : ∃ T, T = totS ns := ⟨_, rfl⟩
  rw [← hT] at hal hle ⊢
  have HTT := Lib.hid hT
  obtain ⟨r, hr⟩ : ∃ r : Int, r = (if l < (n : Int) + T then -1 else l - ((n : Int) + T)) := ⟨_, rfl⟩
  rw [← hr]
  have HRL := Lib.hid (show l < (n : Int) + T → r = -1 from fun h => by rw [hr, if_pos h])
  have HRG := Lib.hid (show ¬ l < (n : Int) + T → r = l - ((n : Int) + T) from fun h => by rw [hr, if_neg h])
  clear hal h ha hT hr hle hs
  by_cases hc : l - n < 0
  · have hb : decide (l - n < 0) = true := by simpa using hc
    have HE := Lib.hid (HRL.out (by omega))
    go_enter Try.func34, Try.ntmps34
    go_wp2
    go_ret
    exact ⟨by rw [HE.out]; rfl, rfl⟩
  have hb : decide (l - n < 0) = false := by simpa using hc
  go_enter Try.func34, Try.ntmps34
  go_wp2
  clear hb
  go_loop [1, 5] (fun x i => ∃ (k : Nat) (q : Int), k ≤ n ∧ i = .int .i64 k ∧ x = .int .i64 q ∧ 0 ≤ q ∧ q ≤ 1048576 ∧ Hid ((n : Int) + totS (ns.take k) + q = l)) (fun _ i => n - (intOf i).toNat)
  case atStart => exact ⟨0, l - n, by omega, rfl, rfl, by omega, by omega, by show (n : Int) + ((totS (ns.take 0) : Nat) : Int) + (l - n) = l; simp [totS]; omega⟩
  case round =>
    obtain ⟨k, q, hk, rfl, rfl, h2, h3, HR⟩ := hrel
    by_cases hlt : k < n
    · have hltI : (k : Int) < (n : Int) := by omega
      obtain ⟨b, off, rfl, hbs, hcs⟩ := HA.out (by omega)
      have hc0 := hcs k hlt 0 _ rfl
      rw [Nat.mul_one, Nat.add_zero] at hc0
      have HTK := Lib.hid (HT.out k (by rw [HN.out]; exact hlt))
      have HLK := Lib.hid (HLE.out (k + 1))
      have hsk := HS.out k
      clear hcs
      unfold maxLen at hsk
      generalize ns[k]?.getD nilS = s at *
      by_cases hx : q < (s.size : Int)
      · have hb : decide (q - (s.size : Int) < 0) = true := decide_eq_true (by omega)
        have HE := Lib.hid (HRL.out (by have := HR.out; have := HTK.out; have := HLK.out; have := HTT.out; omega))
        go_wp2
        go_ret
        exact ⟨by rw [HE.out]; rfl, rfl⟩
      · have hb : decide (q - (s.size : Int) < 0) = false := decide_eq_false (by omega)
        go_wp2
        go_round
        case rel => exact ⟨k + 1, q - s.size, by omega, by go_num, rfl, by omega, by omega, by show (n : Int) + ((totS (ns.take (k + 1)) : Nat) : Int) + (q - s.size) = l; have := HR.out; rw [HTK.out]; omega⟩
        case measure => simp [intOf]; omega
    · obtain rfl : k = n := by omega
      have HE := Lib.hid (HRG.out (by have := HR.out; have := HAL.out; have := HTT.out; omega))
      have HE2 := Lib.hid (show q = l - ((k : Int) + T) by have := HR.out; have := HAL.out; have := HTT.out; omega)
      go_wp2
      go_ret
      exact ⟨by rw [HE.out, ← HE2.out]; rfl, rfl⟩
theorem Try.infoStrS : (Try.prog.info? 9).map (fun i => (i.zero, i.size, i.bytes)) = some (some (.string ⟨#[]⟩), 1, 16) := by kernel_rfl
set_option maxHeartbeats 1600000 in
theorem toStringS_any (v : Value) (zs : List ByteArray) (w : World) (h : Rwt w (flt 1 strE zs) v) (hr : zs.length ≤ 1048576) :
    Calls Try.prog 37 #[v] w fun e w' => ∃ v', e = .returned v' ∧ Ofr w' w.heap.size (flt 1 strE zs) v' ∧ Below w.heap.size w w' := by
  obtain ⟨i0, hi, hz0, hz1, hz2⟩ := info_parts Try.infoStrS
  obtain ⟨a, n, cap, rfl, HN, hn, ha⟩ := flt_opnw (m := 1) (enc := strE) (fun _ => rfl) (by omega) nilS h
  have HA := Lib.hid ha
  have HL := Lib.hid (fun k hk => fillG_len nilS zs n k HN.out hk)
  have HST := Lib.hid (fun k hk => fillG_step nilS zs n k HN.out hk)
  have HAL := Lib.hid (fillG_all nilS zs n HN.out)
  rw [HN.out] at hr
  clear ha h
  go_enter Try.func37, Try.ntmps37
  go_wp2_with (refine wpList_make_full _ rfl _ _ 22 rfl w.heap.size 9 i0 (.string ⟨#[]⟩) 1 Try.underlying22 hi hz0 hz1 _ _ _ _ n rfl rfl rfl rfl (by rw [hz2]; omega) (by unfold maxLen; omega) (Nat.le_refl _) ?_; intro w1 hown1 hgrow1)
  have HO1 := Lib.hid (show Ofr w1 w.heap.size (flt 1 strE (fillG nilS zs n 0)) (.slice (some ⟨w.heap.size, 0, none⟩) n n) from by
    rw [fillG_zero]
    exact made_flat (m := 1) (enc := strE) (fun _ => rfl) (by omega) nilS rfl hown1)
  have HB1 := Lib.hid (show Below w.heap.size w w1 from (Below.refl _ _).grown hgrow1 (Nat.le_refl _) (by simp))
  clear hown1 hgrow1
  go_loopw [4] (fun i wr => ∃ k : Nat, k ≤ n ∧ i = .int .i64 k ∧ Hid (Ofr wr w.heap.size (flt 1 strE (fillG nilS zs n k)) (.slice (some ⟨w.heap.size, 0, none⟩) n n)) ∧ Hid (Below w.heap.size w wr)) (fun i _ => n - (intOf i).toNat)
  case atStart => exact ⟨0, by omega, rfl, HO1.out, HB1.out⟩
  case round =>
    obtain ⟨k, hk, rfl, HO, HB⟩ := hrel
    by_cases hlt : k < n
    · obtain ⟨b, off, rfl, hbs, hcs⟩ := HA.out (by omega)
      have hltI : (k : Int) < (n : Int) := by omega
      have d0 := (HB.out.cell (p := ⟨b, off + k * 1 + 0, none⟩) hbs).trans (hcs k hlt 0 _ rfl)
      simp only [Nat.add_zero, Nat.mul_one] at d0
      have HSK := Lib.hid (HST.out k hlt)
      have HLK := Lib.hid (HL.out k (by omega))
      clear hcs HO1 HB1
      generalize zs[k]?.getD nilS = z at *
      obtain ⟨g, o, cp, ev, hg1, hg2, hcc, hfz, hof⟩ := flt_put (enc := strE) (m := 1) (fun _ => rfl) (by omega) HO.out HB.out.size (k := k) (by rw [HLK.out]; exact hlt) z
      simp only [Value.slice.injEq, Option.some.injEq, Addr.mk.injEq, and_true] at ev
      obtain ⟨⟨rfl, rfl⟩, -, rfl⟩ := ev
      rw [HSK.out] at hof
      simp only [Nat.zero_add, Nat.mul_one] at hcc hof
      obtain ⟨q0, c0⟩ := hcc 0 (by omega)
      simp only [Nat.add_zero] at c0
      have f0 := hfz k
      have HB2 := Lib.hid (setRow_below (Nat.le_refl w.heap.size) (strE z) wr k HB.out)
      simp only [setRow, strE] at hof HB2
      have HOF := Lib.hid hof
      clear hof hfz hcc
      go_wp2
      go_roundw
      case rel => exact ⟨k + 1, by omega, by go_num, HOF.out, HB2.out⟩
      case measure => simp [intOf]; omega
    · obtain rfl : k = n := by omega
      have hof := HO.out
      rw [HAL.out] at hof
      have HOF := Lib.hid hof
      go_wp2
      go_ret
      exact ⟨_, rfl, HOF.out, HB.out⟩
set_option maxHeartbeats 1600000 in
theorem eqStringS_same (va vb : Value) (zs : List ByteArray) (w : World) (ha : Rdt w (flt 1 strE zs) va) (hb : Rdt w (flt 1 strE zs) vb) :
    Calls Try.prog 45 #[va, vb] w fun e w' => e = .returned (.bool true) ∧ Below w.heap.size w w' := by
  obtain ⟨a, n, ca, rfl, HN, _, hn, HA⟩ := flt_opn (m := 1) (enc := strE) (fun _ => rfl) (by omega) nilS ha
  obtain ⟨b, n2, cb, rfl, HM, _, _, HBB⟩ := flt_opn (m := 1) (enc := strE) (fun _ => rfl) (by omega) nilS hb
  obtain rfl : n = n2 := HN.out.symm.trans HM.out
  have HA := Lib.hid HA
  have HBB := Lib.hid HBB
  clear HM ha hb
  have hne : ((n : Int) != (n : Int)) = false := by simp
  go_enter Try.func45, Try.ntmps45
  go_wp2
  go_loopw [5] (fun i wr => ∃ k : Nat, k ≤ n ∧ i = .int .i64 k ∧ Hid (Below w.heap.size w wr)) (fun i _ => n - (intOf i).toNat)
  case atStart => exact ⟨0, by omega, rfl, Below.refl _ _⟩
  case round =>
    obtain ⟨k, hk, rfl, HB⟩ := hrel
    by_cases hlt : k < n
    · obtain ⟨g1, o1, rfl, hg1, hc1⟩ := HA.out (by omega)
      obtain ⟨g2, o2, rfl, hg2, hc2⟩ := HBB.out (by omega)
      have hltI : (k : Int) < (n : Int) := by omega
      have x0 := rg ((HB.out.cell (p := ⟨g1, o1 + k * 1 + 0, none⟩) hg1).trans (hc1 k hlt 0 _ rfl))
      have y0 := rg ((HB.out.cell (p := ⟨g2, o2 + k * 1 + 0, none⟩) hg2).trans (hc2 k hlt 0 _ rfl))
      simp only [Nat.add_zero, Nat.mul_one] at x0 y0
      generalize zs[k]?.getD nilS = z at *
      clear hc1 hc2
      have hzz : (z.toList == z.toList) = true := by simp
      go_wp2
      refine wp_region_quiet_below (by kernel_rfl) (by kernel_rfl) ?_
      repeat (go_big_quiet_step (fail))
      refine wpQuiet_nil ?_
      rintro _ ⟨⟨dq, osq⟩, rfl⟩
      go_wp2
      go_roundw
      case rel => exact ⟨k + 1, by omega, by go_num, HB.out.trans ((below_regrown _ dq osq).mono HB.out.size)⟩
      case measure => simp [intOf]; omega
    · obtain rfl : k = n := by omega
      go_wp2
      go_ret
      exact ⟨rfl, HB.out⟩
set_option maxHeartbeats 3200000 in
theorem markStringS_any (v : Value) (zs : List ByteArray) (fp : List Nat) (q : Nat) (w : World) (h : Odt w (flt 1 strE zs) v fp) (hn : fp.Nodup) (hb : zs.length ≤ 4194304) (hq : 0 < q) (hq2 : q ≤ 1125899906842624) :
    Calls Try.prog 50 #[v, .int .i64 q] w fun e w' => e = .returned (.int .i64 (q + (zs.length : Int))) ∧ Odt w' (flt 1 strE ((List.range zs.length).map fun i : Nat => mkTx (q + i))) v fp ∧ Wr w w' fp := by
  obtain ⟨a, n, cap, rfl, HN, _, hnl, -⟩ := flt_opn (m := 1) (enc := strE) (fun _ => rfl) (by omega) nilS h.rd
  obtain ⟨f, hf⟩ : ∃ f : Nat → ByteArray, f = fun i : Nat => mkTx (q + i) := ⟨_, rfl⟩
  have HFE := Lib.hid (fun i => congrFun hf i)
  rw [← hf, HN.out]
  rw [HN.out] at hb
  clear hf
  have HST := Lib.hid (fun k (h : k < n) => mkG_step f zs k (by rw [HN.out]; exact h))
  have HLN := Lib.hid (fun k (h : k ≤ n) => (mkG_len f zs k (by rw [HN.out]; exact h)).trans HN.out)
  have HALL := Lib.hid (mkG_all f zs n HN.out)
  have HH := Lib.hid h
  clear h
  go_enter Try.func50, Try.ntmps50
  go_wp2
  go_loopw [1, 5] (fun x i wr => ∃ k : Nat, k ≤ n ∧ i = .int .i64 k ∧ x = .int .i64 ((q + k : Nat) : Int) ∧ Hid (Odt wr (flt 1 strE (mkG f zs k)) (.slice a n cap) fp) ∧ Hid (Wr w wr fp)) (fun _ i _ => n - (intOf i).toNat)
  case atStart => exact ⟨0, by omega, rfl, int_eq (by simp), by rw [mkG_zero]; exact HH.out, Wr.refl _ _⟩
  case round =>
    obtain ⟨k, hk, rfl, rfl, HO, HW⟩ := hrel
    by_cases hlt : k < n
    · have hltI : (k : Int) < (n : Int) := by omega
      have hfk := HFE.out k
      obtain ⟨p, hp⟩ : ∃ p : Nat, p = q + k := ⟨_, rfl⟩
      rw [← hp] at hfk ⊢
      have HMT := Lib.hid (fun w => markText_any p (by omega) (by omega) w)
      have hp2 : (p : Int) ≤ 1125899940397056 := by omega
      have HP := Lib.hid hp
      rw [← hfk] at HMT
      have HSK := Lib.hid (HST.out k hlt)
      have HLK := Lib.hid (HLN.out k (by omega))
      clear hp hfk
      generalize f k = tx at *
      go_wp2_with fail
      refine (HMT.out _).mono ?_
      rintro e w2 ⟨rfl, b2⟩
      have HO2 := HO.out.behind b2
      have HW2 := HW.out.trans (Wr.of_below b2)
      obtain ⟨g, off, rfl, hcc, hfz, hset⟩ := flt_mark (enc := strE) (m := 1) (fun _ => rfl) (by omega) HO2 hn (k := k) (by rw [HLK.out]; exact hlt)
      obtain ⟨s1, s2⟩ := hset tx
      rw [HSK.out] at s1
      obtain ⟨q0, c0⟩ := hcc 0 (by omega)
      have f0 := hfz (off + k * 1)
      simp only [Nat.add_zero, Nat.mul_one] at c0 f0
      simp only [setRow, strE, Nat.mul_one] at s1 s2
      have HS1 := Lib.hid s1
      have HS2 := Lib.hid (HW2.trans s2)
      clear s1 s2 hset hcc hfz b2 HO2 HW2
      go_wp2
      go_roundw
      case rel => exact ⟨k + 1, by omega, by go_num, int_eq (by rw [HP.out]; omega), HS1.out, HS2.out⟩
      case measure => simp [intOf]; omega
    · obtain rfl : k = n := by omega
      have ho := HO.out
      rw [HALL.out] at ho
      have HOF := Lib.hid ho
      clear HO ho
      go_wp2
      go_ret
      exact ⟨ret_int (by omega), HOF.out, HW.out⟩
end Go.Proofs.Ytphhenlokbodnaa
