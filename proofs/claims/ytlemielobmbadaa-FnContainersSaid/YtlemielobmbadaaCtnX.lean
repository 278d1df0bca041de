/- Walks: the laws' functions on lists of lists: sizes, copies, marks. -/
import Derived.Test.YtlemielobmbadaaBa26
import Derived.Test.YtlemielobmbadaaPivW
namespace Go.Proofs.Ytlemielobmbadaa
open Go.RowKit
set_option maxRecDepth 100000

theorem szIntS_any (v : Value) (xs : List Int) (l : Int) (w : World) (h : Rw w v xs) (h0 : 0 ≤ l) (h1 : l ≤ 1048576) :
    Calls Try.prog 83 #[v, .int .i64 l] w fun e w' => e = .returned (.int .i64 (if l < xs.length then -1 else l - xs.length)) ∧ w' = w := by
  obtain ⟨a, cap, n, HX, rfl, hla, _⟩ := h
  rw [HX.out]
  by_cases hc : l - n < 0
  · have hb : decide (l - n < 0) = true := by simpa using hc
    have e : (if l < (n : Int) then (-1 : Int) else l - n) = -1 := if_pos (by omega)
    rw [e]
    go_enter Try.func83, Try.ntmps83
    go_wp2
    go_ret
    exact ⟨rfl, rfl⟩
  · have hb : decide (l - n < 0) = false := by simpa using hc
    have e : (if l < (n : Int) then (-1 : Int) else l - n) = l - n := if_neg (by omega)
    rw [e]
    go_enter Try.func83, Try.ntmps83
    go_wp2
    go_ret
    exact ⟨rfl, rfl⟩
def tot (xss : List (List Int)) : Nat := (xss.map List.length).sum
theorem tot_step {xss : List (List Int)} {k : Nat} (h : k < xss.length) : tot (xss.take (k + 1)) = tot (xss.take k) + (xss[k]?.getD []).length := by
  rw [tot, tot, List.take_add_one, List.map_append, List.sum_append, List.getElem?_eq_getElem h]; simp
theorem tot_all (xss : List (List Int)) : tot (xss.take xss.length) = tot xss := by rw [List.take_length]
theorem tot_le (xss : List (List Int)) (k : Nat) : tot (xss.take k) ≤ tot xss := by
  rw [tot, tot]
  conv => rhs; rw [← List.take_append_drop k xss, List.map_append, List.sum_append]
  omega
theorem tot_mem {xss : List (List Int)} {k : Nat} (h : k < xss.length) : (xss[k]?.getD []).length ≤ tot xss := by
  have h1 := tot_step h
  have h2 := tot_le xss (k + 1)
  omega
def SzP (n T : Nat) (l : Int) (w : World) (e : Ending) (w' : World) : Prop := ∃ r : Int, e = .returned (.int .i64 r) ∧ w' = w ∧ -1 ≤ r ∧ (0 ≤ r → (n : Int) + T ≤ l)
set_option maxHeartbeats 1600000 in
theorem szIntSS_any (v : Value) (xss : List (List Int)) (w : World) (h : Rwt w (ssD xss) v) :
    Calls Try.prog 28 #[v, .int .i64 1048576] w (SzP xss.length (tot xss) 1048576 w) := by
  obtain ⟨a, n, cap, rfl, HN, hn, ha⟩ := ssD_opnw h
  have HT := Lib.hid (fun k (h : k < xss.length) => @tot_step xss k h)
  have hal := tot_all xss
  rw [HN.out] at hal ⊢
  have HAL := Lib.hid hal
  clear hal h
  by_cases hc : (1048576 : Int) - n < 0
  · have hb : decide ((1048576 : Int) - n < 0) = true := by simpa using hc
    go_enter Try.func28, Try.ntmps28
    go_wp2
    go_ret
    exact ⟨-1, rfl, rfl, by omega, fun h => by omega⟩
  have hb : decide ((1048576 : Int) - n < 0) = false := by simpa using hc
  have hc' : (n : Int) ≤ 1048576 := by omega
  go_enter Try.func28, Try.ntmps28
  go_wp2
  go_loop [1, 5] (fun x i => ∃ (k : Nat) (r : Int), k ≤ n ∧ i = .int .i64 k ∧ x = .int .i64 r ∧ 0 ≤ r ∧ r ≤ 1048576 ∧ Hid ((n : Int) + tot (xss.take k) + r = 1048576)) (fun _ i => n - (intOf i).toNat)
  case atStart => exact ⟨0, 1048576 - n, by omega, rfl, rfl, by omega, by omega, by show (n : Int) + ((tot (xss.take 0) : Nat) : Int) + (1048576 - n) = 1048576; simp [tot]; omega⟩
  case round =>
    obtain ⟨k, r, hk, rfl, rfl, h0, h1, HR⟩ := hrel
    by_cases hlt : k < n
    · obtain ⟨b, off, rfl, hbs, hcs⟩ := ha (by omega)
      obtain ⟨u, hcell, hru⟩ := hcs k hlt
      have hltI : (k : Int) < (n : Int) := by omega
      have hlb : decide ((k : Int) < (n : Int)) = true := by simpa using hltI
      have HS := Lib.hid (szIntS_any u _ r w hru h0 h1)
      have HTK := Lib.hid (HT.out k (show k < xss.length by rw [HN.out]; exact hlt))
      clear hcs hru
      generalize xss[k]?.getD [] = x at *
      by_cases hx : r < (x.length : Int)
      · rw [if_pos hx] at HS
        go_wp2_with fail
        refine HS.out.mono ?_
        rintro e w2 ⟨rfl, rfl⟩
        go_wp2
        go_ret
        exact ⟨-1, rfl, rfl, by omega, fun h => by omega⟩
      · rw [if_neg hx] at HS
        have hnn : ¬ r - (x.length : Int) < 0 := by omega
        have hnb : decide (r - (x.length : Int) < 0) = false := by simpa using hnn
        go_wp2_with fail
        refine HS.out.mono ?_
        rintro e w2 ⟨rfl, rfl⟩
        go_wp2
        go_round
        case rel => exact ⟨k + 1, r - x.length, by omega, by go_num, rfl, by omega, by omega, by show (n : Int) + ((tot (xss.take (k + 1)) : Nat) : Int) + (r - x.length) = 1048576; have := HR.out; rw [HTK.out]; omega⟩
        case measure => simp [intOf]; omega
    · obtain rfl : k = n := by omega
      go_wp2
      go_ret
      exact ⟨r, rfl, rfl, by omega, fun _ => by have := HR.out; rw [HAL.out] at this; omega⟩
set_option maxHeartbeats 800000 in
theorem toIntS_rd (v : Value) (zs : List Int) (w : World) (h : Rw w v zs) (hr : zs.length ≤ 1048576) :
    Calls Try.prog 86 #[v] w fun e w' => ∃ v', e = .returned v' ∧ Own w' w.heap.size v' zs ∧ Below w.heap.size w w' := by
  obtain ⟨i0, hi, hz0, hz1, hz2⟩ := info_parts Try.infoInt
  obtain ⟨a, cap, len, HX, rfl, hla, ha⟩ := h
  rw [HX.out] at hr
  go_enter Try.func86, Try.ntmps86
  go_wp2_with (refine wpList_make_full _ rfl _ _ 24 rfl w.heap.size 3 i0 (.int .i64 0) 1 Try.underlying24 hi hz0 hz1 _ _ _ _ len rfl rfl rfl rfl (by rw [hz2]; omega) (by unfold maxLen; omega) (Nat.le_refl _) ?_; intro w1 hown1 hgrow1)
  have hown2 : Own w1 w.heap.size (.slice (some ⟨w.heap.size, 0, none⟩) len len) (zs.take 0 ++ List.replicate (len - 0) 0) := by
    refine own_of_row (n := len) ?_
    have e : (madeCells (Value.int .i64 0).cells (len * 1)).toList = ints (zs.take 0 ++ List.replicate (len - 0) 0) := by
      rw [Nat.mul_one]
      have := toList_madeCells_one (.int .i64 0) len
      simpa [ints, Value.cells] using this
    rw [← e]; exact hown1
  have hb1 : Below w.heap.size w w1 := (Below.refl _ _).grown hgrow1 (Nat.le_refl _) (by simp)
  clear hown1 hgrow1
  have hsz : w.heap.size < w1.heap.size := (hown2.lt w.heap.size rfl).2
  go_loopw [4] (fun i wr => ∃ k : Nat, k ≤ len ∧ i = .int .i64 k ∧ Own wr w.heap.size (.slice (some ⟨w.heap.size, 0, none⟩) len len) (zs.take k ++ List.replicate (len - k) 0) ∧ Below w.heap.size w wr) (fun i _ => len - (intOf i).toNat)
  case atStart => exact ⟨0, by omega, rfl, hown2, hb1⟩
  case round =>
    obtain ⟨k, hk, rfl, hown, hbel⟩ := hrel
    by_cases hlt : k < len
    · obtain ⟨b, off, rfl, hbs, hc⟩ := ha (show 0 < len by omega)
      have hck : wr.cell? ⟨b, off + k, none⟩ = some (.int .i64 ((zs[k]?.getD 0))) := (hbel.cell (p := ⟨b, off + k, none⟩) hbs).trans (hc k hlt)
      have hlen : (zs.take k ++ List.replicate (len - k) 0).length = len := by have := HX.out; simp; omega
      have hcell := (hown.cellAt rfl).2 k (by omega)
      have hfr := hown.frozenAt rfl k
      have hst := hown.stored rfl k (by omega) ((zs[k]?.getD 0))
      rw [set_rep zs len k (by have := HX.out; omega) hlt] at hst
      rw [Nat.zero_add] at hcell hst
      have HS := Lib.hid hst
      have HB := Lib.hid hbel
      have HO := Lib.hid hown
      clear hst hown hlen hbel
      go_wp2
      go_roundw
      case rel => exact ⟨k + 1, by omega, by go_num, HS.out.1, HB.out.grown HS.out.2 (by have := HB.out.size; omega) (by simp)⟩
      case measure => simp [intOf]; omega
    · obtain rfl : k = len := by omega
      have hz : zs.take k ++ List.replicate (k - k) 0 = zs := by rw [Nat.sub_self, List.replicate_zero, List.append_nil, ← HX.out, List.take_length]
      go_wp2
      go_ret
      exact ⟨_, rfl, by rw [hz] at hown; exact hown, hbel⟩
/-- The first k copied, the others not yet. -/
def toTo (xss : List (List Int)) (n k : Nat) : Dt := .rows 1 ((xss.take k).map inD ++ List.replicate (n - k) (.rows 1 []))
theorem toTo_step {xss : List (List Int)} {n k : Nat} (hn : n ≤ xss.length) (hk : k < n) : ((xss.take k).map inD ++ List.replicate (n - k) (Dt.rows 1 [])).set k (inD (xss[k]?.getD [])) = (xss.take (k + 1)).map inD ++ List.replicate (n - (k + 1)) (.rows 1 []) := by
  have hl : ((xss.take k).map inD).length = k := by simp; omega
  rw [List.set_append_right _ _ (by omega), hl, Nat.sub_self]
  obtain ⟨m, hm⟩ : ∃ m, n - k = m + 1 := ⟨n - k - 1, by omega⟩
  rw [hm, List.replicate_succ, List.set_cons_zero, show n - (k + 1) = m by omega, List.take_add_one, List.map_append, List.append_assoc, List.getElem?_eq_getElem (show k < xss.length by omega)]
  rfl
theorem made_rows {w1 : World} {base n g : Nat} (h : w1.ownsRow base 24 1 (.slice (some ⟨g, 0, none⟩) n n) n (List.replicate n (.slice none 0 0))) : Ofr w1 base (.rows 1 (List.replicate n (.rows 1 []))) (.slice (some ⟨g, 0, none⟩) n n) := by
  refine Grw.ofr (T := 24) (n := n) ⟨_, List.replicate n [], h, by simp, by simp, fun j d u f e1 e2 e3 => ?_, by simp, by simp, by simp⟩
  have hj : j < n := by have := (List.getElem?_eq_some_iff.1 e1).1; simpa using this
  simp [hj] at e1 e2 e3
  subst e1; subst e2; subst e3
  exact .nil 1
set_option maxHeartbeats 1600000 in
theorem toIntSS_any (v : Value) (xss : List (List Int)) (w : World) (h : Rwt w (ssD xss) v) (hr : xss.length ≤ 1048576) (hl : ∀ i : Nat, (xss[i]?.getD []).length ≤ 1048576) :
    Calls Try.prog 30 #[v] w fun e w' => ∃ v', e = .returned v' ∧ Ofr w' w.heap.size (ssD xss) v' ∧ Below w.heap.size w w' := by
  obtain ⟨i0, hi, hz0, hz1, hz2⟩ := info_parts Try.infoSl
  obtain ⟨a, n, cap, rfl, HN, hn, ha⟩ := ssD_opnw h
  have HL := Lib.hid hl
  have HE := Lib.hid (show toTo xss n n = ssD xss by rw [toTo, Nat.sub_self, List.replicate_zero, List.append_nil, ← HN.out, List.take_length]; rfl)
  rw [HN.out] at hr
  clear hl h
  go_enter Try.func30, Try.ntmps30
  go_wp2_with (refine wpList_make_full _ rfl _ _ 39 rfl w.heap.size 24 i0 (.slice none 0 0) 1 Try.underlying39 hi hz0 hz1 _ _ _ _ n rfl rfl rfl rfl (by rw [hz2]; omega) (by unfold maxLen; omega) (Nat.le_refl _) ?_; intro w1 hown1 hgrow1)
  have HO1 := Lib.hid (show Ofr w1 w.heap.size (toTo xss n 0) (.slice (some ⟨w.heap.size, 0, none⟩) n n) from by
    have e : (madeCells (Value.slice none 0 0).cells (n * 1)).toList = List.replicate n (.slice none 0 0) := by
      rw [Nat.mul_one]
      have := toList_madeCells_one (.slice none 0 0) n
      simpa [Value.cells] using this
    rw [e] at hown1
    have := made_rows hown1
    simpa [toTo] using this)
  have HB1 := Lib.hid (show Below w.heap.size w w1 from (Below.refl _ _).grown hgrow1 (Nat.le_refl _) (by simp))
  clear hown1 hgrow1
  go_loopw [4] (fun i wr => ∃ k : Nat, k ≤ n ∧ i = .int .i64 k ∧ Hid (Ofr wr w.heap.size (toTo xss n k) (.slice (some ⟨w.heap.size, 0, none⟩) n n)) ∧ Hid (Below w.heap.size w wr)) (fun i _ => n - (intOf i).toNat)
  case atStart => exact ⟨0, by omega, rfl, HO1.out, HB1.out⟩
  case round =>
    obtain ⟨k, hk, rfl, HO, HB⟩ := hrel
    by_cases hlt : k < n
    · obtain ⟨b, off, rfl, hbs, hcs⟩ := ha (by omega)
      obtain ⟨u, hcell, hru⟩ := hcs k hlt
      have hltI : (k : Int) < (n : Int) := by omega
      have hck := (HB.out.cell (p := ⟨b, off + k, none⟩) hbs).trans hcell
      have HS := Lib.hid (toIntS_rd u _ wr (hru.behind HB.out) (HL.out k))
      have HST := Lib.hid (toTo_step (xss := xss) (n := n) (k := k) (by rw [HN.out]; exact Nat.le_refl _) hlt)
      have hnk : k < ((xss.take k).map inD ++ List.replicate (n - k) (Dt.rows 1 [])).length := by have := HN.out; simp; omega
      have HNK := Lib.hid hnk
      clear hcs hru hcell hnk HO1 HB1
      go_wp2_with fail
      refine HS.out.mono ?_
      rintro e w2 ⟨u2, rfl, o2, b2⟩
      obtain ⟨a5, c5, n5, -, rfl, -⟩ := o2.rd.opn
      obtain ⟨g, o, n', cp, ev, hg1, hg2, ⟨u0, hc0⟩, hfr, hof⟩ := Ofr.put (show Ofr wr w.heap.size (.rows 1 _) _ from HO.out) HB.out.size b2 o2.ofr HNK.out
      simp only [Value.slice.injEq, Option.some.injEq, Addr.mk.injEq, and_true] at ev
      obtain ⟨⟨rfl, rfl⟩, rfl, rfl⟩ := ev
      rw [HST.out] at hof
      rw [Nat.zero_add] at hc0 hfr hof
      have HOF := Lib.hid hof
      have HB2 := Lib.hid (HB.out.trans (b2.mono HB.out.size))
      clear hof o2 b2
      go_wp2
      go_roundw
      case rel => exact ⟨k + 1, by omega, by go_num, HOF.out, HB2.out.setCell (p := ⟨w.heap.size, k, none⟩) (Nat.le_refl _) _⟩
      case measure => simp [intOf]; omega
    · obtain rfl : k = n := by omega
      have hof := HO.out
      rw [HE.out] at hof
      have HOF := Lib.hid hof
      go_wp2
      go_ret
      exact ⟨_, rfl, HOF.out, HB.out⟩
end Go.Proofs.Ytlemielobmbadaa
