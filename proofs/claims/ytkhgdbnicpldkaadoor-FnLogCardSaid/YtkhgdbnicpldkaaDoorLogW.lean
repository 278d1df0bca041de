/- Walks: the program's reading of records. -/
import Derived.Test.YtkhgdbnicpldkaaDoorLogC
namespace Go.Proofs.YtkhgdbnicpldkaaDoor
open Go.RowKit

/-- The library's MaxLen is a number. -/
def MaxOk (w : World) : Prop := ∃ m : Int, w.cell? ⟨0, 0, none⟩ = some (.int .i64 m)
theorem MaxOk.below {w w' : World} (h : MaxOk w) (hb : Below w.heap.size w w') : MaxOk w' := by
  obtain ⟨m, hm⟩ := h
  exact ⟨m, by rw [hb.cell (p := ⟨0, 0, none⟩) (World.block_lt_of_cell? w _ hm)]; exact hm⟩
theorem MaxOk.drewN {w : World} (h : MaxOk w) (n : Nat) : MaxOk (w.drewN n) := h
theorem TabOk.drewN {w : World} (h : TabOk w) (n : Nat) : TabOk (w.drewN n) := h
theorem cut_any (s : ByteArray) (b : UInt8) (w : World) (hs : s.size < 4294967281) (hm : MaxOk w) :
    Calls Tryd.prog 76 #[.string s, .string ⟨#[b]⟩] w fun e w' => e = .returned (.tuple #[.string (mk (bef b s.data.toList)), .string (mk (aft b s.data.toList)), .bool (hasB b s.data.toList)]) ∧ ∃ n, w' = w.drewN n := by
  obtain ⟨m, hm⟩ := hm
  refine (Tryd.strings_Cut s ⟨#[b]⟩ m w hs hm).mono ?_
  rintro e w' ⟨rfl, h⟩
  have e : Go.Lib.cut s.data.toList (⟨#[b]⟩ : ByteArray).data.toList = (bef b s.data.toList, aft b s.data.toList, hasB b s.data.toList) := cut_one _ _
  rw [e]
  exact ⟨rfl, h⟩
theorem aft_len (b : UInt8) (l : L) : (aft b l).length ≤ l.length := by rw [aft_drop, List.length_drop]; omega

def RdPost (w : World) (s : L) (k : Nat) (e : Ending) (w' : World) : Prop :=
  Below w.heap.size w w' ∧ ((∃ c r, rdR s k = some (c, r) ∧ e = .returned (.tuple #[.agg #[.string (mk c), .string (mk r)], .int .i64 (((bef 10 s).length : Int) + 1), .bool true])) ∨
    (rdR s k = none ∧ ∃ x y : ByteArray, e = .returned (.tuple #[.agg #[.string x, .string y], .int .i64 0, .bool false])))
theorem rd_no {s : L} {k : Nat} (h : hasB 10 s = false ∨ ¬ k < 60 ∨ pI k (bef 10 s) = none) : rdR s k = none := by
  unfold rdR
  split
  · rename_i hh
    rcases h with h | h | h
    · rw [h] at hh; simp at hh
    · exact absurd hh.2 h
    · exact h
  · rfl
theorem pI_no {k : Nat} {line : L} (h : ¬ (recOk (mk (bef 64 (aft 32 (bef 35 line)))) (mk (aft 64 (aft 32 (bef 35 line)))) = true ∧ lineL k (bef 64 (aft 32 (bef 35 line))) (aft 64 (aft 32 (bef 35 line))) = line ++ [10])) : pI k line = none := by
  unfold pI; simp only; rw [if_neg h]
theorem pI_yes {k : Nat} {line : L} (h1 : recOk (mk (bef 64 (aft 32 (bef 35 line)))) (mk (aft 64 (aft 32 (bef 35 line)))) = true) (h2 : lineL k (bef 64 (aft 32 (bef 35 line))) (aft 64 (aft 32 (bef 35 line))) = line ++ [10]) :
    pI k line = some (bef 64 (aft 32 (bef 35 line)), aft 64 (aft 32 (bef 35 line))) := by
  unfold pI; simp only; rw [if_pos ⟨h1, h2⟩]

set_option maxHeartbeats 3200000 in
set_option maxRecDepth 100000 in
theorem readRecord_any (s : ByteArray) (k : Nat) (hs : s.size ≤ 4294960000) (hk : k ≤ 1000) (w : World) (ht : TabOk w) (hm : MaxOk w) :
    Calls Tryd.prog 69 #[.string s, .int .i64 k] w (RdPost w s.data.toList k) := by
  obtain ⟨sl, hsl⟩ : ∃ l, s.data.toList = l := ⟨_, rfl⟩
  have hs' : sl.length ≤ 4294960000 := by rw [← hsl, ← size_data]; exact hs
  have HSL := Lib.hid hsl
  clear hsl
  rw [HSL.out]
  obtain ⟨ln, hln⟩ : ∃ l, bef 10 sl = l := ⟨_, rfl⟩
  obtain ⟨tx, htx⟩ : ∃ l, bef 35 ln = l := ⟨_, rfl⟩
  obtain ⟨rs, hrs⟩ : ∃ l, aft 32 tx = l := ⟨_, rfl⟩
  obtain ⟨c, hc⟩ : ∃ l, bef 64 rs = l := ⟨_, rfl⟩
  obtain ⟨r, hr⟩ : ∃ l, aft 64 rs = l := ⟨_, rfl⟩
  have l1 : ln.length ≤ 4294960000 := by have := bef_len 10 sl; rw [hln] at this; omega
  have l2 : tx.length ≤ 4294960000 := by have := bef_len 35 ln; rw [htx] at this; omega
  have l3 : rs.length ≤ 4294960000 := by have := aft_len 32 tx; rw [hrs] at this; omega
  have l4 : c.length ≤ 4294960000 := by have := bef_len 64 rs; rw [hc] at this; omega
  have l5 : r.length ≤ 4294960000 := by have := aft_len 64 rs; rw [hr] at this; omega
  have K1 : Hid (∀ w, MaxOk w → Calls Tryd.prog 76 #[.string s, .string ⟨#[10]⟩] w fun e w' => e = .returned (.tuple #[.string (mk ln), .string (mk (aft 10 sl)), .bool (hasB 10 sl)]) ∧ ∃ n, w' = w.drewN n) := fun w hm => by
    have := cut_any s 10 w (by omega) hm
    rw [HSL.out, hln] at this; exact this
  have K2 : Hid (∀ w, MaxOk w → Calls Tryd.prog 76 #[.string (mk ln), .string ⟨#[35]⟩] w fun e w' => e = .returned (.tuple #[.string (mk tx), .string (mk (aft 35 ln)), .bool (hasB 35 ln)]) ∧ ∃ n, w' = w.drewN n) := fun w hm => by
    have := cut_any (mk ln) 35 w (by rw [mk_size]; omega) hm
    rw [data_mk, htx] at this; exact this
  have K3 : Hid (∀ w, MaxOk w → Calls Tryd.prog 76 #[.string (mk tx), .string ⟨#[32]⟩] w fun e w' => e = .returned (.tuple #[.string (mk (bef 32 tx)), .string (mk rs), .bool (hasB 32 tx)]) ∧ ∃ n, w' = w.drewN n) := fun w hm => by
    have := cut_any (mk tx) 32 w (by rw [mk_size]; omega) hm
    rw [data_mk, hrs] at this; exact this
  have K4 : Hid (∀ w, MaxOk w → Calls Tryd.prog 76 #[.string (mk rs), .string ⟨#[64]⟩] w fun e w' => e = .returned (.tuple #[.string (mk c), .string (mk r), .bool (hasB 64 rs)]) ∧ ∃ n, w' = w.drewN n) := fun w hm => by
    have := cut_any (mk rs) 64 w (by rw [mk_size]; omega) hm
    rw [data_mk, hc, hr] at this; exact this
  have HNO := Lib.hid (fun h => rd_no (s := sl) (k := k) h)
  rw [hln] at HNO
  have HPN := Lib.hid (fun h => pI_no (k := k) (line := ln) h)
  have HPY := Lib.hid (fun h1 h2 => pI_yes (k := k) (line := ln) h1 h2)
  rw [htx, hrs, hc, hr] at HPN HPY
  have HLN := Lib.hid hln
  clear hln htx hrs hc hr
  have hb0 : Below w.heap.size w (w.alloc (.cells #[.string ⟨#[]⟩, .string ⟨#[]⟩] 27)) := (Below.refl _ _).alloc (Nat.le_refl _) _
  have HMW := Lib.hid (fun w' (hb : Below w.heap.size w w') => hm.below hb)
  have HTW := Lib.hid (fun w' (hb : Below w.heap.size w w') => ht.below hb)
  clear ht hm
  go_enter Tryd.func69, Tryd.ntmps69
  go_wp2_with fail
  refine (K1.out _ (HMW.out _ hb0)).mono ?_
  rintro e w1 ⟨rfl, n1, rfl⟩
  have hb1 := below_drewN hb0 n1
  go_wp2_with fail
  refine (K2.out _ (HMW.out _ hb1)).mono ?_
  rintro e w1 ⟨rfl, n2, rfl⟩
  have hb2 := below_drewN hb0 (n1 + n2)
  go_wp2_with fail
  refine (K3.out _ (HMW.out _ hb2)).mono ?_
  rintro e w1 ⟨rfl, n3, rfl⟩
  have hb3 := below_drewN hb0 (n1 + n2 + n3)
  go_wp2_with fail
  refine (K4.out _ (HMW.out _ hb3)).mono ?_
  rintro e w1 ⟨rfl, n4, rfl⟩
  have hb4 := below_drewN hb0 (n1 + n2 + n3 + n4)
  have hst : Below w.heap.size w (((((w.alloc (.cells #[.string ⟨#[]⟩, .string ⟨#[]⟩] 27)).drewN (n1 + n2 + n3 + n4)).setCell ⟨w.heap.size, 0, none⟩ (.string ⟨#[]⟩)).setCell ⟨w.heap.size, 1, none⟩ (.string ⟨#[]⟩)).alloc (.cells #[.string (mk c), .string (mk r)] 27)) :=
    ((hb4.setCell (p := ⟨w.heap.size, 0, none⟩) (Nat.le_refl _) _).setCell (p := ⟨w.heap.size, 1, none⟩) (Nat.le_refl _) _).alloc (by simp) _
  cases hf : hasB 10 sl
  · have HN := Lib.hid (HNO.out (.inl hf))
    have HST := Lib.hid hst
    clear hst
    go_wp2
    exact bodyPost_ret (v := .tuple #[.agg #[.string ⟨#[]⟩, .string ⟨#[]⟩], .int .i64 0, .bool false]) (by simp [results, Tryd.results69, go_sem]) rfl ⟨HST.out, .inr ⟨HN.out, _, _, rfl⟩⟩
  by_cases hk6 : k < 60
  case neg =>
    have HN := Lib.hid (HNO.out (.inr (.inl hk6)))
    have hkI : (60 : Int) ≤ (k : Int) := by omega
    have HST := Lib.hid hst
    clear hst
    go_wp2
    exact bodyPost_ret (v := .tuple #[.agg #[.string ⟨#[]⟩, .string ⟨#[]⟩], .int .i64 0, .bool false]) (by simp [results, Tryd.results69, go_sem]) rfl ⟨HST.out, .inr ⟨HN.out, _, _, rfl⟩⟩
  have hkI : ¬ (60 : Int) ≤ (k : Int) := by omega
  clear hst
  have hz1 : ((w.alloc (.cells #[.string ⟨#[]⟩, .string ⟨#[]⟩] 27)).drewN (n1 + n2 + n3 + n4)).heap.size = w.heap.size + 1 := by simp
  have hB5 : Below w.heap.size w (((w.alloc (.cells #[.string ⟨#[]⟩, .string ⟨#[]⟩] 27)).drewN (n1 + n2 + n3 + n4)).alloc (.cells #[.string (mk c), .string (mk r)] 27)) := hb4.alloc (by simp) _
  have hcells : ∀ w6, Below (w.heap.size + 2) (((w.alloc (.cells #[.string ⟨#[]⟩, .string ⟨#[]⟩] 27)).drewN (n1 + n2 + n3 + n4)).alloc (.cells #[.string (mk c), .string (mk r)] 27)) w6 →
      w6.cell? ⟨w.heap.size, 0, none⟩ = some (.string ⟨#[]⟩) ∧ w6.cell? ⟨w.heap.size, 1, none⟩ = some (.string ⟨#[]⟩) ∧ w6.frozen? ⟨w.heap.size, 0, none⟩ = false ∧ w6.frozen? ⟨w.heap.size, 1, none⟩ = false ∧
      w6.cell? ⟨w.heap.size + 1, 0, none⟩ = some (.string (mk c)) ∧ w6.cell? ⟨w.heap.size + 1, 1, none⟩ = some (.string (mk r)) := fun w6 hb => by
    have g0 : w6.heap[w.heap.size]? = some (.cells #[.string ⟨#[]⟩, .string ⟨#[]⟩] 27 (0, 0)) := by
      rw [hb.block _ (by omega), heap_alloc_old _ _ (by rw [hz1]; omega)]
      exact heap_alloc_new w _
    have g1 : w6.heap[w.heap.size + 1]? = some (.cells #[.string (mk c), .string (mk r)] 27 (0, 0)) := by
      rw [hb.block _ (by omega)]
      have := heap_alloc_new ((w.alloc (.cells #[.string ⟨#[]⟩, .string ⟨#[]⟩] 27)).drewN (n1 + n2 + n3 + n4)) (.cells #[.string (mk c), .string (mk r)] 27)
      rw [hz1] at this
      exact this
    refine ⟨?_, ?_, frozen_of_row _ _ _ _ _ g0, frozen_of_row _ _ _ _ _ g0, ?_, ?_⟩
    · rw [cell_of_row _ _ _ _ _ _ g0]; rfl
    · rw [cell_of_row _ _ _ _ _ _ g0]; rfl
    · rw [cell_of_row _ _ _ _ _ _ g1]; rfl
    · rw [cell_of_row _ _ _ _ _ _ g1]; rfl
  have HC := Lib.hid hcells
  have HB5 := Lib.hid hB5
  have hs5 : (((w.alloc (.cells #[.string ⟨#[]⟩, .string ⟨#[]⟩] 27)).drewN (n1 + n2 + n3 + n4)).alloc (.cells #[.string (mk c), .string (mk r)] 27)).heap.size = w.heap.size + 2 := by simp
  have HS5 := Lib.hid hs5
  clear hcells hB5 hz1 hs5
  have HREC := Lib.hid (fun w => implIsRec_any (mk c) (mk r) w (by rw [mk_size]; unfold maxLen; omega) (by rw [mk_size]; unfold maxLen; omega))
  cases hok : recOk (mk c) (mk r)
  · have HN := Lib.hid (HNO.out (.inr (.inr (HPN.out (by rw [hok]; simp)))))
    rw [hok] at HREC
    go_wp2_with fail
    refine (HREC.out _).mono ?_
    rintro e w6 ⟨rfl, b6⟩
    rw [HS5.out] at b6
    obtain ⟨q1, q2, q3, q4, q5, q6⟩ := HC.out w6 b6
    have hbf := Lib.hid (((HB5.out.trans (b6.mono (by omega))).setCell (p := ⟨w.heap.size, 0, none⟩) (Nat.le_refl _) (.string ⟨#[]⟩)).setCell (p := ⟨w.heap.size, 1, none⟩) (Nat.le_refl _) (.string ⟨#[]⟩))
    clear b6
    go_wp2
    exact bodyPost_ret (v := .tuple #[.agg #[.string ⟨#[]⟩, .string ⟨#[]⟩], .int .i64 0, .bool false]) (by simp [results, Tryd.results69, go_sem, q1, q2]) rfl ⟨hbf.out, .inr ⟨HN.out, _, _, rfl⟩⟩
  have HENC := Lib.hid (fun w ht => encodeRec_any k (by omega) (mk c) (mk r) hok w ht)
  rw [data_mk, data_mk] at HENC
  rw [hok] at HREC
  have HOK := Lib.hid hok
  clear hok
  generalize hll : lineL k c r = ll at *
  go_wp2_with fail
  refine (HREC.out _).mono ?_
  rintro e w6 ⟨rfl, b6⟩
  rw [HS5.out] at b6
  obtain ⟨q1, q2, q3, q4, q5, q6⟩ := HC.out w6 b6
  have B6 := HB5.out.trans (b6.mono (by omega))
  go_wp2_with fail
  refine (HENC.out _ (HTW.out _ B6)).mono ?_
  rintro e w7 ⟨rfl, b7⟩
  have hs6 : w.heap.size + 2 ≤ w6.heap.size := by have := b6.size; rw [HS5.out] at this; exact this
  obtain ⟨p1, p2, p3, p4, p5, p6⟩ := HC.out w7 (b6.trans (b7.mono hs6))
  have hb7 := B6.trans (b7.mono (by omega))
  have HB7 := Lib.hid hb7
  have z1 : ¬ 9223372036854775807 < ln.length + 1 := by omega
  have z2 : (mk ln ++ ⟨#[10]⟩ : ByteArray).toList = ln ++ [10] := by rw [ByteArray.toList_eq, data_append]
  clear b6 b7 B6 hb7 q1 q2 q3 q4 q5 q6
  by_cases heq : ll = ln ++ [10]
  · have HPK := Lib.hid (HPY.out HOK.out heq)
    have HYES := Lib.hid (show rdR sl k = some (c, r) from by unfold rdR; rw [if_pos ⟨hf, hk6⟩, HLN.out]; exact HPK.out)
    have HLE := Lib.hid (show ((bef 10 sl).length : Int) = (ln.length : Int) from by rw [HLN.out])
    have hc1 : (ll == ln ++ [10]) = true := by simpa using heq
    have hc2 : (ll != ln ++ [10]) = false := by simpa using heq
    have hbf := Lib.hid ((HB7.out.setCell (p := ⟨w.heap.size, 0, none⟩) (Nat.le_refl _) (.string (mk c))).setCell (p := ⟨w.heap.size, 1, none⟩) (Nat.le_refl _) (.string (mk r)))
    clear hll heq HPK
    go_wp2
    exact bodyPost_ret (v := .tuple #[.agg #[.string (mk c), .string (mk r)], .int .i64 ((ln.length : Int) + 1), .bool true]) (by simp [results, Tryd.results69, go_sem, p1, p2]) rfl ⟨hbf.out, .inl ⟨c, r, HYES.out, by rw [HLE.out]⟩⟩
  · have HPK := Lib.hid (HPN.out (fun h => heq h.2))
    have HN := Lib.hid (HNO.out (.inr (.inr HPK.out)))
    have hc1 : (ll == ln ++ [10]) = false := by simpa using heq
    have hc2 : (ll != ln ++ [10]) = true := by simpa using heq
    have hbf := Lib.hid ((HB7.out.setCell (p := ⟨w.heap.size, 0, none⟩) (Nat.le_refl _) (.string ⟨#[]⟩)).setCell (p := ⟨w.heap.size, 1, none⟩) (Nat.le_refl _) (.string ⟨#[]⟩))
    clear hll heq HPK
    go_wp2
    exact bodyPost_ret (v := .tuple #[.agg #[.string ⟨#[]⟩, .string ⟨#[]⟩], .int .i64 0, .bool false]) (by simp [results, Tryd.results69, go_sem, p1, p2]) rfl ⟨hbf.out, .inr ⟨HN.out, _, _, rfl⟩⟩
end Go.Proofs.YtkhgdbnicpldkaaDoor
