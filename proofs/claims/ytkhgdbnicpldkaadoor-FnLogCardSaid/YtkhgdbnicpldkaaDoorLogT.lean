/- Walks: the reference's record of a line. -/
import Derived.Test.YtkhgdbnicpldkaaDoorLogS
import Derived.Deep.CutRange
namespace Go.Proofs.YtkhgdbnicpldkaaDoor
open Go.RowKit

def ReadPost (w : World) (line : L) (k : Nat) (e : Ending) (w' : World) : Prop :=
  Below w.heap.size w w' ∧ ((∃ c r, pI k line = some (c, r) ∧ e = .returned (.tuple #[.agg #[.string (mk c), .string (mk r)], .bool true])) ∨ (pI k line = none ∧ ∃ x y : ByteArray, e = .returned (.tuple #[.agg #[.string x, .string y], .bool false])))
theorem pS_no {k : Nat} {line : L} (h : ¬ ((aheadL k).length ≤ (bef 35 line).length ∧ (bef 35 line).take (aheadL k).length = aheadL k ∧ hasB 64 ((bef 35 line).drop (aheadL k).length) = true ∧
    recOk (mk (bef 64 ((bef 35 line).drop (aheadL k).length))) (mk (aft 64 ((bef 35 line).drop (aheadL k).length))) = true ∧
    lineL k (bef 64 ((bef 35 line).drop (aheadL k).length)) (aft 64 ((bef 35 line).drop (aheadL k).length)) = line ++ [10])) : pI k line = none := by
  rw [← pS_eq]; unfold pS; simp only; rw [if_neg h]
theorem has_ne {b : UInt8} {l : L} (h : hasB b l = true) : (bef b l).length ≠ l.length := by have := has_len h; omega

/-- An operation that is not wanted: taken first. -/
theorem skipH {P : Program} {ops : Array Oper} {Q : Exit → Act → World → Prop} {md : Region.Mode} {S : World → Prop} (i : Nat) {oi : Oper} {fuel : Nat} {listed : Array Bool} {a : Act} {w : World} (hi : ops[i]? = some oi)
    (hs : Region.noSelect ops = true) (hf : Region.free md ops listed i = true) (hr : (Region.ready md ops listed).contains i = true) (hQ : ∀ c a w, Q (.panic c) (a.put oi.dst undef) w → Q (.panic c) a w)
    (hw : Region.wanted oi (yielded ops a.tmps) = false) (hS : S w) (h : wpAnyH P md ops Q S fuel (listed.setIfInBounds i true) (a.put oi.dst undef) w) : wpAnyH P md ops Q S (fuel + 1) listed a w :=
  wpAnyH_take hi hs hf hr hQ (.inr ⟨hw, rfl⟩) hS h

set_option maxHeartbeats 6400000 in
set_option maxRecDepth 100000 in
theorem l27Read_any (s : ByteArray) (k : Nat) (hs : s.size ≤ 3000000) (hk : k ≤ 99) (w : World) :
    Calls Tryd.prog 68 #[.string s, .int .i64 k] w (ReadPost w s.data.toList k) := by
  have hd := digs_len 1 k (by omega)
  have HNUM := Lib.hid (fun w => l1Num_any k (by omega) w)
  have HSP1 := Lib.hid (fun w => l1Split_any s 35 (by omega) w)
  have HPN := Lib.hid (fun h => pS_no (k := k) (line := s.data.toList) h)
  have hsz := size_data s
  obtain ⟨sl, hsl⟩ : ∃ l, s.data.toList = l := ⟨_, rfl⟩
  have HSL := Lib.hid hsl
  rw [hsl] at HSP1 HPN hsz ⊢
  clear hsl
  obtain ⟨ah, hah⟩ : ∃ l, aheadL k = l := ⟨_, rfl⟩
  have hal : ah.length = (digs k).length + 1 := by rw [← hah]; simp [aheadL]
  have HAH := Lib.hid (show mk (digs k) ++ ⟨#[32]⟩ = mk ah from by rw [← hah]; exact mk_append _ _)
  obtain ⟨tx, htx⟩ : ∃ l, bef 35 sl = l := ⟨_, rfl⟩
  have htl : tx.length ≤ sl.length := by rw [← htx]; exact bef_len _ _
  obtain ⟨rs, hrs⟩ : ∃ l, tx.drop ah.length = l := ⟨_, rfl⟩
  have hrl : rs.length ≤ tx.length := by rw [← hrs, List.length_drop]; omega
  obtain ⟨c, hc⟩ : ∃ l, bef 64 rs = l := ⟨_, rfl⟩
  obtain ⟨r, hr⟩ : ∃ l, aft 64 rs = l := ⟨_, rfl⟩
  have hcl : c.length ≤ rs.length := by rw [← hc]; exact bef_len _ _
  have hrrl : r.length ≤ rs.length := by rw [← hr, aft_drop, List.length_drop]; omega
  rw [hah, htx, hrs, hc, hr] at HPN
  have HSP2 := Lib.hid (fun w => l1Split_any (mk rs) 64 (by rw [mk_size]; omega) w)
  rw [data_mk] at HSP2
  have HTX := Lib.hid htx
  have HCC := Lib.hid hc
  have HRR := Lib.hid hr
  have HRS := Lib.hid hrs
  have HTK := Lib.hid (show (mk tx).extract 0 ah.length = mk (tx.take ah.length) from by rw [ext_take, data_mk])
  have HDR := Lib.hid (show (mk tx).extract ah.length (mk tx).size = mk rs from by rw [ext_drop, data_mk, hrs])
  have HD2 := Lib.hid (show (mk rs).extract (c.length + 1) (mk rs).size = mk r from by rw [ext_drop, data_mk, ← hr, aft_drop, hc])
  rw [mk_size] at HDR HD2
  have HLS := Lib.hid hah
  clear hah htx hrs hc hr
  have hds : ¬ 9223372036854775807 < (digs k).length + 1 := by omega
  have hahl : ah.length ≤ 3 := by omega
  clear hal hd
  have hb0 : Below w.heap.size w (w.alloc (.cells #[.string ⟨#[]⟩, .string ⟨#[]⟩] 27)) := (Below.refl _ _).alloc (Nat.le_refl _) _
  go_enter Tryd.func68, Tryd.ntmps68
  go_wp2_with fail
  refine (HNUM.out _).mono ?_
  rintro e w1 ⟨rfl, n1, rfl⟩
  have hb1 := below_drewN hb0 n1
  go_wp2_with fail
  rw [HAH.out]
  refine (HSP1.out _).mono ?_
  rintro e w2 ⟨g2, m2, cap2, rfl, h21, h22, h23, h24, h25, h26, _, b2⟩
  rw [HTX.out] at h26
  have hz1 : ((w.alloc (.cells #[.string ⟨#[]⟩, .string ⟨#[]⟩] 27)).drewN n1).heap.size = w.heap.size + 1 := by simp
  rw [hz1] at b2
  have hB2 := Lib.hid (hb1.trans (b2.mono (by omega)))
  have g0 : w2.heap[w.heap.size]? = some (.cells #[.string ⟨#[]⟩, .string ⟨#[]⟩] 27 (0, 0)) := by
    rw [b2.block _ (by omega)]; exact heap_alloc_new w _
  have hgs : w.heap.size < w2.heap.size := (Array.getElem?_eq_some_iff.1 g0).1
  have HG0 := Lib.hid g0
  have q1 : w2.cell? ⟨w.heap.size, 0, none⟩ = some (.string ⟨#[]⟩) := by rw [cell_of_row _ _ _ _ _ _ g0]; rfl
  have q2 : w2.cell? ⟨w.heap.size, 1, none⟩ = some (.string ⟨#[]⟩) := by rw [cell_of_row _ _ _ _ _ _ g0]; rfl
  have q3 : w2.frozen? ⟨w.heap.size, 0, none⟩ = false := frozen_of_row _ _ _ _ _ g0
  have q4 : w2.frozen? ⟨w.heap.size, 1, none⟩ = false := frozen_of_row _ _ _ _ _ g0
  have hBs := Lib.hid ((hB2.out.setCell (p := ⟨w.heap.size, 0, none⟩) (Nat.le_refl _) (.string ⟨#[]⟩)).setCell (p := ⟨w.heap.size, 1, none⟩) (Nat.le_refl _) (.string ⟨#[]⟩))
  clear b2 g0 hb0 hb1 hz1
  by_cases hA : ah.length ≤ tx.length
  case neg =>
    have HN := Lib.hid (HPN.out (fun h => hA h.1))
    have hAI : (tx.length : Int) < (ah.length : Int) := by omega
    go_wp2
    exact bodyPost_ret (v := .tuple #[.agg #[.string ⟨#[]⟩, .string ⟨#[]⟩], .bool false]) (by simp [results, Tryd.results68, go_sem, q1, q2]) rfl ⟨hBs.out, .inr ⟨HN.out, _, _, rfl⟩⟩
  have hAI : ¬ (tx.length : Int) < (ah.length : Int) := by omega
  have hAI2 : (ah.length : Int) ≤ (tx.length : Int) := by omega
  by_cases hT : tx.take ah.length = ah
  case neg =>
    have HN := Lib.hid (HPN.out (fun h => hT h.2.1))
    have hc1 : (tx.take ah.length != ah) = true := by simpa using hT
    have hc2 : (tx.take ah.length == ah) = false := by simpa using hT
    have hz : ((mk tx).extract 0 ah.length).toList = tx.take ah.length := by rw [HTK.out]; simp
    clear hT
    go_wp2
    exact bodyPost_ret (v := .tuple #[.agg #[.string ⟨#[]⟩, .string ⟨#[]⟩], .bool false]) (by simp [results, Tryd.results68, go_sem, q1, q2]) rfl ⟨hBs.out, .inr ⟨HN.out, _, _, rfl⟩⟩
  have hc1 : (tx.take ah.length != ah) = false := by simpa using hT
  have hc2 : (tx.take ah.length == ah) = true := by simpa using hT
  have hz : ((mk tx).extract 0 ah.length).toList = tx.take ah.length := by rw [HTK.out]; simp
  have HT := Lib.hid hT
  clear hT
  go_wp2_with fail
  rw [HDR.out]
  refine (HSP2.out _).mono ?_
  rintro e w3 ⟨g3, m3, cap3, rfl, h31, h32, h33, h34, h35, h36, _, b3⟩
  rw [HCC.out] at h36
  have hB3 := Lib.hid (hB2.out.trans (b3.mono (by omega)))
  have g0 : w3.heap[w.heap.size]? = some (.cells #[.string ⟨#[]⟩, .string ⟨#[]⟩] 27 (0, 0)) := by
    rw [b3.block _ hgs]; exact HG0.out
  have hgs3 : w.heap.size < w3.heap.size := (Array.getElem?_eq_some_iff.1 g0).1
  have HG3 := Lib.hid g0
  clear q1 q2 q3 q4 hBs HG0
  have q1 : w3.cell? ⟨w.heap.size, 0, none⟩ = some (.string ⟨#[]⟩) := by rw [cell_of_row _ _ _ _ _ _ g0]; rfl
  have q2 : w3.cell? ⟨w.heap.size, 1, none⟩ = some (.string ⟨#[]⟩) := by rw [cell_of_row _ _ _ _ _ _ g0]; rfl
  have q3 : w3.frozen? ⟨w.heap.size, 0, none⟩ = false := frozen_of_row _ _ _ _ _ g0
  have q4 : w3.frozen? ⟨w.heap.size, 1, none⟩ = false := frozen_of_row _ _ _ _ _ g0
  have hBs := Lib.hid ((hB3.out.setCell (p := ⟨w.heap.size, 0, none⟩) (Nat.le_refl _) (.string ⟨#[]⟩)).setCell (p := ⟨w.heap.size, 1, none⟩) (Nat.le_refl _) (.string ⟨#[]⟩))
  clear b3 g0
  cases h64 : hasB 64 rs
  · have HN := Lib.hid (HPN.out (fun h => by rw [h64] at h; simp at h))
    have hcl2 : c.length = rs.length := by rw [← HCC.out, (bef_none h64).1]
    have hc3 : ((c.length : Int) == (rs.length : Int)) = true := by rw [hcl2]; simp
    have hc4 : (c.length == rs.length) = true := by rw [hcl2]; simp
    clear hcl2
    go_wp2
    exact bodyPost_ret (v := .tuple #[.agg #[.string ⟨#[]⟩, .string ⟨#[]⟩], .bool false]) (by simp [results, Tryd.results68, go_sem, q1, q2]) rfl ⟨hBs.out, .inr ⟨HN.out, _, _, rfl⟩⟩
  have hcl2 : c.length + 1 ≤ rs.length := by rw [← HCC.out]; exact has_len h64
  have hcl3 : (c.length : Int) + 1 ≤ (rs.length : Int) := by omega
  have hc3 : ((c.length : Int) == (rs.length : Int)) = false := by rw [beq_eq_false_iff_ne]; omega
  have hc4 : (c.length == rs.length) = false := by rw [beq_eq_false_iff_ne]; omega
  clear hBs
  go_wp2
  rw [HD2.out]
  have hs4 : (w3.alloc (.cells #[.string (mk c), .string (mk r)] 27)).heap.size = w3.heap.size + 1 := by simp
  have hB4 := hB3.out.alloc (by omega) (.cells #[.string (mk c), .string (mk r)] 27)
  have hcells : ∀ w6, Below (w3.heap.size + 1) (w3.alloc (.cells #[.string (mk c), .string (mk r)] 27)) w6 →
      w6.cell? ⟨w.heap.size, 0, none⟩ = some (.string ⟨#[]⟩) ∧ w6.cell? ⟨w.heap.size, 1, none⟩ = some (.string ⟨#[]⟩) ∧ w6.frozen? ⟨w.heap.size, 0, none⟩ = false ∧ w6.frozen? ⟨w.heap.size, 1, none⟩ = false ∧
      w6.cell? ⟨w3.heap.size, 0, none⟩ = some (.string (mk c)) ∧ w6.cell? ⟨w3.heap.size, 1, none⟩ = some (.string (mk r)) := fun w6 hb => by
    have g0 : w6.heap[w.heap.size]? = some (.cells #[.string ⟨#[]⟩, .string ⟨#[]⟩] 27 (0, 0)) := by
      rw [hb.block _ (by omega), heap_alloc_old _ _ hgs3]; exact HG3.out
    have g1 : w6.heap[w3.heap.size]? = some (.cells #[.string (mk c), .string (mk r)] 27 (0, 0)) := by
      rw [hb.block _ (by omega)]; exact heap_alloc_new w3 _
    refine ⟨?_, ?_, frozen_of_row _ _ _ _ _ g0, frozen_of_row _ _ _ _ _ g0, ?_, ?_⟩
    · rw [cell_of_row _ _ _ _ _ _ g0]; rfl
    · rw [cell_of_row _ _ _ _ _ _ g0]; rfl
    · rw [cell_of_row _ _ _ _ _ _ g1]; rfl
    · rw [cell_of_row _ _ _ _ _ _ g1]; rfl
  have HC := Lib.hid hcells
  have HREC := Lib.hid (fun w => l27Good_any (mk c) (mk r) w (by rw [mk_size]; unfold maxLen; omega) (by rw [mk_size]; unfold maxLen; omega))
  generalize hw4 : w3.alloc (.cells #[.string (mk c), .string (mk r)] 27) = w4 at *
  have HB4 := Lib.hid hB4
  clear hw4 hB4 hcells q1 q2 q3 q4
  obtain ⟨q1, q2, q3, q4, q5, q6⟩ := HC.out w4.drew ((Below.refl _ _).drew)
  have hBase := Lib.hid (show w.heap.size ≤ w4.heap.size from HB4.out.size)
  have hsz4 : w3.heap.size + 1 ≤ w4.heap.size := by omega
  go_cut [5] from 53 to 63 (fun s5 wx => ∃ b : Bool, s5 = .bool b ∧ wx.cell? ⟨w.heap.size, 0, none⟩ = some (.string (mk c)) ∧ wx.cell? ⟨w.heap.size, 1, none⟩ = some (.string (mk r)) ∧ Hid (Below w.heap.size w wx) ∧ Hid (b = true ↔ recOk (mk c) (mk r) = true ∧ lineL k c r = sl ++ [10]))
  case first =>
    cases hok : recOk (mk c) (mk r)
    · rw [hok] at HREC
      have HOK := Lib.hid hok
      clear hok
      refine wp_region_held_drew (S := fun w' => w'.cell? ⟨w3.heap.size, 0, none⟩ = some (.string (mk c)) ∧ w'.cell? ⟨w3.heap.size, 1, none⟩ = some (.string (mk r))) (by kernel_rfl) ⟨q5, q6⟩ (fun hH => ?_)
      refine wpAnyH_take (i := 0) (v := .agg #[.string (mk c), .string (mk r)]) rfl (by kernel_rfl) (by kernel_rfl) (by kernel_rfl) (fun _ _ _ h => h) (Or.inl ⟨by rfl, ?_⟩) hH ?_
      · rintro w' ⟨h1, h2⟩; go_simp
      try simp only [Act.put, List.setIfInBounds_toArray]
      refine wpAnyH_take (i := 1) (v := .agg #[.string (mk c), .string (mk r)]) rfl (by kernel_rfl) (by kernel_rfl) (by kernel_rfl) (fun _ _ _ h => h) (Or.inl ⟨by rfl, ?_⟩) hH ?_
      · rintro w' ⟨h1, h2⟩; go_simp
      try simp only [Act.put]
      refine wpAnyH_ready (rs := [2]) (by kernel_rfl) (by simp) ?_
      refine AllReadyH.cons rfl (fun K hK => ?_) AllReadyH.nil
      go_simp
      go_at_call 43
      refine (HREC.out _).mono ?_
      rintro e w5 ⟨rfl, b5⟩
      have B5 := (Below.refl _ w4).drew.trans (b5.mono (show w3.heap.size + 1 ≤ w4.drew.heap.size from hsz4))
      obtain ⟨p1, p2, p3, p4, p5, p6⟩ := HC.out w5 B5
      refine hK.out _ _ ⟨p5, p6⟩ (fun hH => ?_)
      clear hK K
      try simp only [Act.put, List.setIfInBounds_toArray, List.set_cons_zero, List.set_cons_succ]
      refine wpAnyH_take (i := 3) (v := .bool false) rfl (by kernel_rfl) (by kernel_rfl) (by kernel_rfl) (fun _ _ _ h => h) (Or.inl ⟨by rfl, fun w' _ => ?_⟩) hH ?_
      · go_simp
      try simp only [Act.put, List.setIfInBounds_toArray]
      refine skipH 4 rfl (by kernel_rfl) (by kernel_rfl) (by kernel_rfl) (fun _ _ _ h => h) (by rfl) hH ?_
      try simp only [Act.put]
      refine skipH 5 rfl (by kernel_rfl) (by kernel_rfl) (by kernel_rfl) (fun _ _ _ h => h) (by rfl) hH ?_
      try simp only [Act.put]
      refine skipH 7 rfl (by kernel_rfl) (by kernel_rfl) (by kernel_rfl) (fun _ _ _ h => h) (by rfl) hH ?_
      try simp only [Act.put]
      refine skipH 8 rfl (by kernel_rfl) (by kernel_rfl) (by kernel_rfl) (fun _ _ _ h => h) (by rfl) hH ?_
      try simp only [Act.put]
      refine skipH 6 rfl (by kernel_rfl) (by kernel_rfl) (by kernel_rfl) (fun _ _ _ h => h) (by rfl) hH ?_
      try simp only [Act.put]
      refine skipH 9 rfl (by kernel_rfl) (by kernel_rfl) (by kernel_rfl) (fun _ _ _ h => h) (by rfl) hH ?_
      try simp only [Act.put]
      refine wpAnyH_take (i := 10) (v := .bool false) rfl (by kernel_rfl) (by kernel_rfl) (by kernel_rfl) (fun _ _ _ h => h) (Or.inl ⟨by rfl, fun w' _ => ?_⟩) hH ?_
      · go_simp
      try simp only [Act.put]
      refine wpAnyH_ready (rs := [11]) (by kernel_rfl) (by simp) ?_
      refine AllReadyH.cons rfl (fun K hK => ?_) AllReadyH.nil
      go_simp
      refine hK.out _ _ ⟨by rw [World.cell?_setCell_other _ _ _ _ (by simp <;> omega), World.cell?_setCell_other _ _ _ _ (by simp <;> omega)]; exact p5, by rw [World.cell?_setCell_other _ _ _ _ (by simp <;> omega), World.cell?_setCell_other _ _ _ _ (by simp <;> omega)]; exact p6⟩ (fun hH => ?_)
      clear hK K
      try simp only [Act.put, List.setIfInBounds_toArray, List.set_cons_zero, List.set_cons_succ]
      refine wpAnyH_ready (rs := [12]) (by kernel_rfl) (by simp) ?_
      refine AllReadyH.cons rfl (fun K hK => ?_) AllReadyH.nil
      go_simp
      refine hK.out _ _ hH (fun hH => ?_)
      clear hK K
      refine wpAnyH_done (by kernel_rfl) ?_ _
      go_wp2_with fail
      go_meet
      have hB5 := (((HB4.out.drew.trans (b5.mono (show w.heap.size ≤ w4.drew.heap.size from hBase.out))).setCell (p := ⟨w.heap.size, 0, none⟩) (Nat.le_refl _) (.string (mk c))).setCell (p := ⟨w.heap.size, 1, none⟩) (Nat.le_refl _) (.string (mk r)))
      exact ⟨_, rfl, by simp [go_sem, p1], by simp [go_sem, p2], hB5, ⟨(fun h => by cases h), (fun h => by have := h.1; rw [HOK.out] at this; cases this)⟩⟩
    rw [hok] at HREC
    have HLN := Lib.hid (fun w => l27Line_any k hk (mk c) (mk r) (by have := recOk_parts hok; omega) (by have := recOk_parts hok; omega) w)
    rw [data_mk, data_mk] at HLN
    have HOK := Lib.hid hok
    clear hok
    generalize hll : lineL k c r = ll at *
    have z1 : ¬ 9223372036854775807 < s.size + 1 := by omega
    have z3 : ¬ 9223372036854775807 < sl.length + 1 := by omega
    have hz2 : (s ++ ⟨#[10]⟩ : ByteArray).toList = sl ++ [10] := by rw [ByteArray.toList_eq, data_append, HSL.out]
    go_region_held3 (fun w' => w'.cell? ⟨w3.heap.size, 0, none⟩ = some (.string (mk c)) ∧ w'.cell? ⟨w3.heap.size, 1, none⟩ = some (.string (mk r)))
             (first | exact ⟨q5, q6⟩ | exact ⟨p5, p6⟩ | exact ⟨r5, r6⟩ | (refine ⟨?_, ?_⟩ <;> (rw [World.cell?_setCell_other _ _ _ _ (by simp <;> omega), World.cell?_setCell_other _ _ _ _ (by simp <;> omega)]; first | assumption)))
             ((first
               | (go_at_call 43; refine (HREC.out _).mono ?_; rintro e w5 ⟨rfl, b5⟩; obtain ⟨p1, p2, p3, p4, p5, p6⟩ := HC.out w5 ((Below.refl _ w4).drew.trans (b5.mono (show w3.heap.size + 1 ≤ w4.drew.heap.size from hsz4))))
               | (go_at_call 44; refine (HLN.out _).mono ?_; rintro e w6 ⟨rfl, b6⟩; have B5 := (Below.refl _ w4).drew.trans (b5.mono (show w3.heap.size + 1 ≤ w4.drew.heap.size from hsz4)); obtain ⟨r1, r2, r3, r4, r5, r6⟩ := HC.out w6 (B5.trans (b6.mono (Nat.le_trans hsz4 B5.size))))))
    all_goals
      go_wp2_with fail
      go_meet
      · have h5 : w.heap.size ≤ w5.heap.size := Nat.le_trans hBase.out B5.size
        have hB6 := ((((HB4.out.drew.trans (b5.mono (show w.heap.size ≤ w4.drew.heap.size from hBase.out))).trans (b6.mono h5)).setCell (p := ⟨w.heap.size, 0, none⟩) (Nat.le_refl _) (.string (mk c))).setCell (p := ⟨w.heap.size, 1, none⟩) (Nat.le_refl _) (.string (mk r)))
        exact ⟨_, rfl, by simp [go_sem, r1], by simp [go_sem, r2], hB6, ⟨fun h => ⟨HOK.out, by simpa using h⟩, fun h => by simpa using h.2⟩⟩
  case rest =>
  obtain ⟨b, rfl, r1, r2, hB, hV⟩ := hcut
  cases b
  · have HN := Lib.hid (HPN.out (fun h => by have := hV.out.2 ⟨h.2.2.2.1, h.2.2.2.2⟩; simp at this))
    clear hV
    go_wp2
    exact bodyPost_ret (v := .tuple #[.agg #[.string (mk c), .string (mk r)], .bool false]) (by simp [results, Tryd.results68, go_sem, r1, r2]) rfl ⟨hB.out, .inr ⟨HN.out, _, _, rfl⟩⟩
  · have HY := Lib.hid (pI_iff.2 (hV.out.1 rfl))
    clear hV
    go_wp2
    exact bodyPost_ret (v := .tuple #[.agg #[.string (mk c), .string (mk r)], .bool true]) (by simp [results, Tryd.results68, go_sem, r1, r2]) rfl ⟨hB.out, .inl ⟨c, r, HY.out, rfl⟩⟩
end Go.Proofs.YtkhgdbnicpldkaaDoor
