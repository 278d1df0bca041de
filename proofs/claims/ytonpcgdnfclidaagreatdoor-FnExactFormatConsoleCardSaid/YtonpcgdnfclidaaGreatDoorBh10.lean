/- Joined: XLogS XLogT XLogO XLogQ XRlgW XLogV. -/
import Derived.Test.YtonpcgdnfclidaaGreatDoorBh09
import Derived.Deep.CutRange
namespace Go.Proofs.YtonpcgdnfclidaaGreatDoor
open Go.RowKit

/-- What is asked of a text's parts: the first one, and whether there is another. -/
def SpPost (w : World) (s : L) (b : UInt8) (e : Ending) (w' : World) : Prop :=
  ∃ g n cap, e = .returned (.slice (some ⟨g, 0, none⟩) n cap) ∧ 1 ≤ n ∧ n ≤ s.length + 1 ∧ n ≤ cap ∧ (2 ≤ n ↔ hasB b s = true) ∧ g < w'.heap.size ∧ w'.cell? ⟨g, 0, none⟩ = some (.string (mk (bef b s))) ∧ w.heap.size ≤ g ∧ Below w.heap.size w w'
theorem bef_at {s : ByteArray} {b : UInt8} {k : Nat} (hk : k < s.size) (h : hasB b (s.data.toList.take k) = false) (e : s[k] = b) : bef b s.data.toList = s.data.toList.take k ∧ hasB b s.data.toList = true := by
  have e1 : s.data.toList = s.data.toList.take k ++ b :: s.data.toList.drop (k + 1) := by
    have h1 := List.take_append_drop k s.data.toList
    rw [List.drop_eq_getElem_cons (by simpa using hk)] at h1
    rw [← e]
    exact h1.symm
  obtain ⟨b1, b2, b3⟩ := bef_app (r := s.data.toList.drop (k + 1)) h
  rw [← e1] at b1 b3
  exact ⟨b1, b3⟩
theorem has_step {s : ByteArray} {b : UInt8} {k : Nat} (hk : k < s.size) (h : hasB b (s.data.toList.take k) = false) (e : s[k] ≠ b) : hasB b (s.data.toList.take (k + 1)) = false := by
  unfold hasB at *
  rw [take_snoc s k hk, List.any_append, h]
  simp [e]

set_option maxHeartbeats 3200000 in
set_option maxRecDepth 100000 in
theorem l1Split_any (s : ByteArray) (b : UInt8) (hs : s.size ≤ 4000000) (w : World) :
    Calls Tryz.prog 115 #[.string s, .int .u8 (b.toNat : Int)] w (SpPost w s.data.toList b) := by
  have HSZ := Lib.hid (size_data s)
  have HTK := Lib.hid (ext_take s)
  have HDR := Lib.hid (ext_drop s)
  have HAT := Lib.hid (fun k hk h e => bef_at (s := s) (b := b) (k := k) hk h e)
  have HST := Lib.hid (fun k hk h e => has_step (s := s) (b := b) (k := k) hk h e)
  have HTA := Lib.hid (take_all s)
  have HBN := Lib.hid (fun h => bef_none (b := b) (l := s.data.toList) h)
  generalize hsl : s.data.toList = sl at *
  have h0 : (w.alloc (.cells #[] 9)).ownsRow w.heap.size 9 1 (.slice (some ⟨w.heap.size, 0, none⟩) 0 0) 0 [] :=
    World.ownsRow_lit (base := w.heap.size) (e := 9) (size := 1) w #[] 0 (Nat.le_refl _) (by simp) rfl
  have hb0 : Below w.heap.size w (w.alloc (.cells #[] 9)) := (Below.refl _ _).alloc (Nat.le_refl _) _
  clear hsl
  go_enter Tryz.func115, Tryz.ntmps115
  go_wp2
  go_loopw [5, 6, 7] (fun o f i wr => ∃ (k n m : Nat) (ss : List Value), k ≤ s.size ∧ i = .int .i64 k ∧ n ≤ k ∧ f = .int .i64 n ∧ m ≤ k ∧ Hid ((m = 0 → n = 0 ∧ hasB b (sl.take k) = false) ∧ (0 < m → hasB b sl = true ∧ ss[0]? = some (.string (mk (bef b sl))))) ∧
      wr.ownsRow w.heap.size 9 1 o m ss ∧ Hid (Below w.heap.size w wr)) (fun _ _ i _ => s.size - (intOf i).toNat)
  case atStart => exact ⟨0, 0, 0, [], by omega, rfl, by omega, rfl, by omega, ⟨fun _ => ⟨rfl, by simp [hasB]⟩, fun h => by omega⟩, h0, hb0⟩
  case round =>
    obtain ⟨k, n, m, ss, hk, rfl, hn, rfl, hm, HI, ho, HB⟩ := hrel
    have hsz : w.heap.size ≤ wr.heap.size := HB.out.size
    by_cases hlt : k < s.size
    · have hnI : (n : Int) ≤ (k : Int) := by omega
      have hkI : (k : Int) ≤ (s.size : Int) := by omega
      by_cases he : s[k] = b
      · have h1 : ((s[k].toNat : Int) == (b.toNat : Int)) = true := by rw [he]; simp
        have HN : Hid (m = 0 → s.extract n k = mk (bef b sl) ∧ hasB b sl = true) := fun h0 => by
          obtain ⟨rfl, h2⟩ := HI.out.1 h0
          obtain ⟨a1, a2⟩ := HAT.out k hlt h2 he
          exact ⟨by rw [HTK.out, a1], a2⟩
        clear he
        go_wp2_with (at_builtin; refine wpList_pushCells rfl (.tmp 20) (.tmp 25) 22 rfl 9 (.string ⟨#[]⟩) 1 16 Tryz.underlying22 Tryz.infoStr rfl (by omega) (by omega) w.heap.size _ m ss rfl ho #[.string (s.extract n k)] rfl (by simp [Value.oneCell']) rfl rfl (by omega) hsz ?_; intro v5 w5 ho5 hg5; have hB5 := Lib.hid (below_row HB.out ho hg5 (Nat.le_refl _) hsz))
        go_roundw
        case rel =>
          refine ⟨k + 1, k + 1, m + 1, _, by omega, by go_num, by omega, by go_num, by omega, ⟨fun h => by omega, fun _ => ?_⟩, ho5, hB5.out⟩
          by_cases h0 : m = 0
          · have hl := ho.1
            subst h0
            have : ss = [] := List.eq_nil_of_length_eq_zero (by simpa using hl)
            subst this
            exact ⟨(HN.out rfl).2, by rw [← (HN.out rfl).1]; rfl⟩
          · obtain ⟨a1, a2⟩ := HI.out.2 (by omega)
            exact ⟨a1, by rw [List.getElem?_append_left (by have := ho.1; omega)]; exact a2⟩
        case measure => simp [intOf]; omega
      · have h1 : ((s[k].toNat : Int) == (b.toNat : Int)) = false := by
          rw [beq_eq_false_iff_ne]; intro e; exact he (UInt8.toNat_inj.1 (by omega))
        have HN := Lib.hid (fun h => HST.out k hlt h he)
        clear he
        go_wp2
        go_roundw
        case rel => exact ⟨k + 1, n, m, ss, by omega, by go_num, by omega, rfl, by omega, ⟨fun h => ⟨(HI.out.1 h).1, HN.out (HI.out.1 h).2⟩, HI.out.2⟩, ho, HB.out⟩
        case measure => simp [intOf]; omega
    · obtain rfl : k = s.size := by omega
      have hnI : (n : Int) ≤ (s.size : Int) := by omega
      have HN : Hid (m = 0 → s.extract n s.size = mk (bef b sl) ∧ hasB b sl = false) := fun h0 => by
        obtain ⟨rfl, h2⟩ := HI.out.1 h0
        rw [HTA.out] at h2
        exact ⟨by rw [HDR.out, (HBN.out h2).1]; rfl, h2⟩
      go_wp2_with (at_builtin; refine wpList_pushCells rfl (.tmp 29) (.tmp 33) 22 rfl 9 (.string ⟨#[]⟩) 1 16 Tryz.underlying22 Tryz.infoStr rfl (by omega) (by omega) w.heap.size _ m ss rfl ho #[.string (s.extract n s.size)] rfl (by simp [Value.oneCell']) rfl rfl (by omega) hsz ?_; intro v5 w5 ho5 hg5; have hB5 := Lib.hid (below_row HB.out ho hg5 (Nat.le_refl _) hsz))
      go_ret
      obtain ⟨g, cap, rfl, hgb, hglt⟩ := ho5.form (by omega)
      have hcap : m + 1 ≤ cap := by
        rcases ho5.2 with ⟨h, _⟩ | ⟨g', cap', cur, h, _, _, h3, _⟩
        · simp at h
        · simp only [Value.slice.injEq] at h
          obtain ⟨_, _, rfl⟩ := h
          exact h3
      have hc := ho5.cells (g := g) rfl
      refine ⟨g, m + 1, cap, rfl, by omega, by have := HSZ.out; omega, hcap, ?_, hglt, ?_, hgb, hB5.out⟩
      · by_cases h0 : m = 0
        · have := (HN.out h0).2
          rw [this, h0]; simp
        · rw [(HI.out.2 (by omega)).1]; simp; omega
      · have h2 : (ss ++ [Value.string (s.extract n s.size)])[0]? = some (.string (mk (bef b sl))) := by
          by_cases h0 : m = 0
          · have hl := ho.1
            subst h0
            have : ss = [] := List.eq_nil_of_length_eq_zero (by simpa using hl)
            subst this
            rw [← (HN.out rfl).1]; rfl
          · rw [List.getElem?_append_left (by have := ho.1; omega)]; exact (HI.out.2 (by omega)).2
        have := hc 0 _ h2
        simpa [Addr.add] using this
end Go.Proofs.YtonpcgdnfclidaaGreatDoor
namespace Go.Proofs.YtonpcgdnfclidaaGreatDoor
open Go.RowKit

def ReadPost (w : World) (line : L) (k : Nat) (e : Ending) (w' : World) : Prop :=
  Below w.heap.size w w' ∧ ((∃ c r, pI k line = some (c, r) ∧ e = .returned (.tuple #[.agg #[.string (mk c), .string (mk r)], .bool true])) ∨ (pI k line = none ∧ ∃ x y : ByteArray, e = .returned (.tuple #[.agg #[.string x, .string y], .bool false])))
theorem pS_no {k : Nat} {line : L} (h : ¬ ((aheadL k).length ≤ (bef 35 line).length ∧ (bef 35 line).take (aheadL k).length = aheadL k ∧ hasB 64 ((bef 35 line).drop (aheadL k).length) = true ∧
    recOk (mk (bef 64 ((bef 35 line).drop (aheadL k).length))) (mk (aft 64 ((bef 35 line).drop (aheadL k).length))) = true ∧
    lineL k (bef 64 ((bef 35 line).drop (aheadL k).length)) (aft 64 ((bef 35 line).drop (aheadL k).length)) = line ++ [10])) : pI k line = none := by
  rw [← pS_eq]; unfold pS; simp only; rw [if_neg h]
/-- An operation that is not wanted: taken first. -/
theorem skipH {P : Program} {ops : Array Oper} {Q : Exit → Act → World → Prop} {md : Region.Mode} {S : World → Prop} (i : Nat) {oi : Oper} {fuel : Nat} {listed : Array Bool} {a : Act} {w : World} (hi : ops[i]? = some oi)
    (hs : Region.noSelect ops = true) (hf : Region.free md ops listed i = true) (hr : (Region.ready md ops listed).contains i = true) (hQ : ∀ c a w, Q (.panic c) (a.put oi.dst undef) w → Q (.panic c) a w)
    (hw : Region.wanted oi (yielded ops a.tmps) = false) (hS : S w) (h : wpAnyH P md ops Q S fuel (listed.setIfInBounds i true) (a.put oi.dst undef) w) : wpAnyH P md ops Q S (fuel + 1) listed a w :=
  wpAnyH_take hi hs hf hr hQ (.inr ⟨hw, rfl⟩) hS h

set_option maxHeartbeats 6400000 in
set_option maxRecDepth 100000 in
theorem l27Read_any (s : ByteArray) (k : Nat) (hs : s.size ≤ 3000000) (hk : k ≤ 99) (w : World) :
    Calls Tryz.prog 116 #[.string s, .int .i64 k] w (ReadPost w s.data.toList k) := by
  have hd := digs_len 1 k (by omega)
  have HNUM := Lib.hid (fun w => l1Num_any k (by omega) w)
  have HSP1 := Lib.hid (fun w => l1Split_any s 35 (by omega) w)
  have HPN := Lib.hid (fun h => pS_no (k := k) (line := s.data.toList) h)
  have hsz := size_data s
  obtain ⟨sl, hsl⟩ : ∃ l, s.data.toList = l := ⟨_, rfl⟩
  have HSL := Lib.hid hsl
  rw [hsl] at HSP1 HPN hsz ⊢
  clear hsl
  obtain ⟨ah, hah⟩ : ∃ l, aheadL k = l := ⟨_, rfl⟩
  have hal : ah.length = (digs k).length + 1 := by rw [← hah]; simp [aheadL]
  have HAH := Lib.hid (show mk (digs k) ++ ⟨#[32]⟩ = mk ah from by rw [← hah]; exact mk_append _ _)
  obtain ⟨tx, htx⟩ : ∃ l, bef 35 sl = l := ⟨_, rfl⟩
  have htl : tx.length ≤ sl.length := by rw [← htx]; exact bef_len _ _
  obtain ⟨rs, hrs⟩ : ∃ l, tx.drop ah.length = l := ⟨_, rfl⟩
  have hrl : rs.length ≤ tx.length := by rw [← hrs, List.length_drop]; omega
  obtain ⟨c, hc⟩ : ∃ l, bef 64 rs = l := ⟨_, rfl⟩
  obtain ⟨r, hr⟩ : ∃ l, aft 64 rs = l := ⟨_, rfl⟩
  have hcl : c.length ≤ rs.length := by rw [← hc]; exact bef_len _ _
  have hrrl : r.length ≤ rs.length := by rw [← hr, aft_drop, List.length_drop]; omega
  rw [hah, htx, hrs, hc, hr] at HPN
  have HSP2 := Lib.hid (fun w => l1Split_any (mk rs) 64 (by rw [mk_size]; omega) w)
  rw [data_mk] at HSP2
  have HTX := Lib.hid htx
  have HCC := Lib.hid hc
  have HRR := Lib.hid hr
  have HRS := Lib.hid hrs
  have HTK := Lib.hid (show (mk tx).extract 0 ah.length = mk (tx.take ah.length) from by rw [ext_take, data_mk])
  have HDR := Lib.hid (show (mk tx).extract ah.length (mk tx).size = mk rs from by rw [ext_drop, data_mk, hrs])
  have HD2 := Lib.hid (show (mk rs).extract (c.length + 1) (mk rs).size = mk r from by rw [ext_drop, data_mk, ← hr, aft_drop, hc])
  rw [mk_size] at HDR HD2
  have HLS := Lib.hid hah
  clear hah htx hrs hc hr
  have hds : ¬ 9223372036854775807 < (digs k).length + 1 := by omega
  have hahl : ah.length ≤ 3 := by omega
  clear hal hd
  have hb0 : Below w.heap.size w (w.alloc (.cells #[.string ⟨#[]⟩, .string ⟨#[]⟩] 139)) := (Below.refl _ _).alloc (Nat.le_refl _) _
  go_enter Tryz.func116, Tryz.ntmps116
  go_wp2_with fail
  refine (HNUM.out _).mono ?_
  rintro e w1 ⟨rfl, n1, rfl⟩
  have hb1 := below_drewN hb0 n1
  go_wp2_with fail
  rw [HAH.out]
  refine (HSP1.out _).mono ?_
  rintro e w2 ⟨g2, m2, cap2, rfl, h21, h22, h23, h24, h25, h26, _, b2⟩
  rw [HTX.out] at h26
  have hz1 : ((w.alloc (.cells #[.string ⟨#[]⟩, .string ⟨#[]⟩] 139)).drewN n1).heap.size = w.heap.size + 1 := by simp
  rw [hz1] at b2
  have hB2 := Lib.hid (hb1.trans (b2.mono (by omega)))
  have g0 : w2.heap[w.heap.size]? = some (.cells #[.string ⟨#[]⟩, .string ⟨#[]⟩] 139 (0, 0)) := by
    rw [b2.block _ (by omega)]; exact heap_alloc_new w _
  have hgs : w.heap.size < w2.heap.size := (Array.getElem?_eq_some_iff.1 g0).1
  have HG0 := Lib.hid g0
  have q1 : w2.cell? ⟨w.heap.size, 0, none⟩ = some (.string ⟨#[]⟩) := by rw [cell_of_row _ _ _ _ _ _ g0]; rfl
  have q2 : w2.cell? ⟨w.heap.size, 1, none⟩ = some (.string ⟨#[]⟩) := by rw [cell_of_row _ _ _ _ _ _ g0]; rfl
  have q3 : w2.frozen? ⟨w.heap.size, 0, none⟩ = false := frozen_of_row _ _ _ _ _ g0
  have q4 : w2.frozen? ⟨w.heap.size, 1, none⟩ = false := frozen_of_row _ _ _ _ _ g0
  have hBs := Lib.hid ((hB2.out.setCell (p := ⟨w.heap.size, 0, none⟩) (Nat.le_refl _) (.string ⟨#[]⟩)).setCell (p := ⟨w.heap.size, 1, none⟩) (Nat.le_refl _) (.string ⟨#[]⟩))
  clear b2 g0 hb0 hb1 hz1
  by_cases hA : ah.length ≤ tx.length
  case neg =>
    have HN := Lib.hid (HPN.out (fun h => hA h.1))
    have hAI : (tx.length : Int) < (ah.length : Int) := by omega
    go_wp2
    exact bodyPost_ret (v := .tuple #[.agg #[.string ⟨#[]⟩, .string ⟨#[]⟩], .bool false]) (by simp [results, Tryz.results116, go_sem, q1, q2]) rfl ⟨hBs.out, .inr ⟨HN.out, _, _, rfl⟩⟩
  have hAI : ¬ (tx.length : Int) < (ah.length : Int) := by omega
  have hAI2 : (ah.length : Int) ≤ (tx.length : Int) := by omega
  by_cases hT : tx.take ah.length = ah
  case neg =>
    have HN := Lib.hid (HPN.out (fun h => hT h.2.1))
    have hc1 : (tx.take ah.length != ah) = true := by simpa using hT
    have hc2 : (tx.take ah.length == ah) = false := by simpa using hT
    have hz : ((mk tx).extract 0 ah.length).toList = tx.take ah.length := by rw [HTK.out]; simp
    clear hT
    go_wp2
    exact bodyPost_ret (v := .tuple #[.agg #[.string ⟨#[]⟩, .string ⟨#[]⟩], .bool false]) (by simp [results, Tryz.results116, go_sem, q1, q2]) rfl ⟨hBs.out, .inr ⟨HN.out, _, _, rfl⟩⟩
  have hc1 : (tx.take ah.length != ah) = false := by simpa using hT
  have hc2 : (tx.take ah.length == ah) = true := by simpa using hT
  have hz : ((mk tx).extract 0 ah.length).toList = tx.take ah.length := by rw [HTK.out]; simp
  have HT := Lib.hid hT
  clear hT
  go_wp2_with fail
  rw [HDR.out]
  refine (HSP2.out _).mono ?_
  rintro e w3 ⟨g3, m3, cap3, rfl, h31, h32, h33, h34, h35, h36, _, b3⟩
  rw [HCC.out] at h36
  have hB3 := Lib.hid (hB2.out.trans (b3.mono (by omega)))
  have g0 : w3.heap[w.heap.size]? = some (.cells #[.string ⟨#[]⟩, .string ⟨#[]⟩] 139 (0, 0)) := by
    rw [b3.block _ hgs]; exact HG0.out
  have hgs3 : w.heap.size < w3.heap.size := (Array.getElem?_eq_some_iff.1 g0).1
  have HG3 := Lib.hid g0
  clear q1 q2 q3 q4 hBs HG0
  have q1 : w3.cell? ⟨w.heap.size, 0, none⟩ = some (.string ⟨#[]⟩) := by rw [cell_of_row _ _ _ _ _ _ g0]; rfl
  have q2 : w3.cell? ⟨w.heap.size, 1, none⟩ = some (.string ⟨#[]⟩) := by rw [cell_of_row _ _ _ _ _ _ g0]; rfl
  have q3 : w3.frozen? ⟨w.heap.size, 0, none⟩ = false := frozen_of_row _ _ _ _ _ g0
  have q4 : w3.frozen? ⟨w.heap.size, 1, none⟩ = false := frozen_of_row _ _ _ _ _ g0
  have hBs := Lib.hid ((hB3.out.setCell (p := ⟨w.heap.size, 0, none⟩) (Nat.le_refl _) (.string ⟨#[]⟩)).setCell (p := ⟨w.heap.size, 1, none⟩) (Nat.le_refl _) (.string ⟨#[]⟩))
  clear b3 g0
  cases h64 : hasB 64 rs
  · have HN := Lib.hid (HPN.out (fun h => by rw [h64] at h; simp at h))
    have hcl2 : c.length = rs.length := by rw [← HCC.out, (bef_none h64).1]
    have hc3 : ((c.length : Int) == (rs.length : Int)) = true := by rw [hcl2]; simp
    have hc4 : (c.length == rs.length) = true := by rw [hcl2]; simp
    clear hcl2
    go_wp2
    exact bodyPost_ret (v := .tuple #[.agg #[.string ⟨#[]⟩, .string ⟨#[]⟩], .bool false]) (by simp [results, Tryz.results116, go_sem, q1, q2]) rfl ⟨hBs.out, .inr ⟨HN.out, _, _, rfl⟩⟩
  have hcl2 : c.length + 1 ≤ rs.length := by rw [← HCC.out]; exact has_len h64
  have hcl3 : (c.length : Int) + 1 ≤ (rs.length : Int) := by omega
  have hc3 : ((c.length : Int) == (rs.length : Int)) = false := by rw [beq_eq_false_iff_ne]; omega
  have hc4 : (c.length == rs.length) = false := by rw [beq_eq_false_iff_ne]; omega
  clear hBs
  go_wp2
  rw [HD2.out]
  have hs4 : (w3.alloc (.cells #[.string (mk c), .string (mk r)] 139)).heap.size = w3.heap.size + 1 := by simp
  have hB4 := hB3.out.alloc (by omega) (.cells #[.string (mk c), .string (mk r)] 139)
  have hcells : ∀ w6, Below (w3.heap.size + 1) (w3.alloc (.cells #[.string (mk c), .string (mk r)] 139)) w6 →
      w6.cell? ⟨w.heap.size, 0, none⟩ = some (.string ⟨#[]⟩) ∧ w6.cell? ⟨w.heap.size, 1, none⟩ = some (.string ⟨#[]⟩) ∧ w6.frozen? ⟨w.heap.size, 0, none⟩ = false ∧ w6.frozen? ⟨w.heap.size, 1, none⟩ = false ∧
      w6.cell? ⟨w3.heap.size, 0, none⟩ = some (.string (mk c)) ∧ w6.cell? ⟨w3.heap.size, 1, none⟩ = some (.string (mk r)) := fun w6 hb => by
    have g0 : w6.heap[w.heap.size]? = some (.cells #[.string ⟨#[]⟩, .string ⟨#[]⟩] 139 (0, 0)) := by
      rw [hb.block _ (by omega), heap_alloc_old _ _ hgs3]; exact HG3.out
    have g1 : w6.heap[w3.heap.size]? = some (.cells #[.string (mk c), .string (mk r)] 139 (0, 0)) := by
      rw [hb.block _ (by omega)]; exact heap_alloc_new w3 _
    refine ⟨?_, ?_, frozen_of_row _ _ _ _ _ g0, frozen_of_row _ _ _ _ _ g0, ?_, ?_⟩
    · rw [cell_of_row _ _ _ _ _ _ g0]; rfl
    · rw [cell_of_row _ _ _ _ _ _ g0]; rfl
    · rw [cell_of_row _ _ _ _ _ _ g1]; rfl
    · rw [cell_of_row _ _ _ _ _ _ g1]; rfl
  have HC := Lib.hid hcells
  have HREC := Lib.hid (fun w => l27Good_any (mk c) (mk r) w (by rw [mk_size]; unfold maxLen; omega) (by rw [mk_size]; unfold maxLen; omega))
  generalize hw4 : w3.alloc (.cells #[.string (mk c), .string (mk r)] 139) = w4 at *
  have HB4 := Lib.hid hB4
  clear hw4 hB4 hcells q1 q2 q3 q4
  obtain ⟨q1, q2, q3, q4, q5, q6⟩ := HC.out w4.drew ((Below.refl _ _).drew)
  have hBase := Lib.hid (show w.heap.size ≤ w4.heap.size from HB4.out.size)
  have hsz4 : w3.heap.size + 1 ≤ w4.heap.size := by omega
  go_cut [5] from 53 to 63 (fun s5 wx => ∃ b : Bool, s5 = .bool b ∧ wx.cell? ⟨w.heap.size, 0, none⟩ = some (.string (mk c)) ∧ wx.cell? ⟨w.heap.size, 1, none⟩ = some (.string (mk r)) ∧ Hid (Below w.heap.size w wx) ∧ Hid (b = true ↔ recOk (mk c) (mk r) = true ∧ lineL k c r = sl ++ [10]))
  case first =>
    cases hok : recOk (mk c) (mk r)
    · rw [hok] at HREC
      have HOK := Lib.hid hok
      clear hok
      refine wp_region_held_drew (S := fun w' => w'.cell? ⟨w3.heap.size, 0, none⟩ = some (.string (mk c)) ∧ w'.cell? ⟨w3.heap.size, 1, none⟩ = some (.string (mk r))) (by kernel_rfl) ⟨q5, q6⟩ (fun hH => ?_)
      refine wpAnyH_take (i := 0) (v := .agg #[.string (mk c), .string (mk r)]) rfl (by kernel_rfl) (by kernel_rfl) (by kernel_rfl) (fun _ _ _ h => h) (Or.inl ⟨by rfl, ?_⟩) hH ?_
      · rintro w' ⟨h1, h2⟩; go_simp
      try simp only [Act.put, List.setIfInBounds_toArray]
      refine wpAnyH_take (i := 1) (v := .agg #[.string (mk c), .string (mk r)]) rfl (by kernel_rfl) (by kernel_rfl) (by kernel_rfl) (fun _ _ _ h => h) (Or.inl ⟨by rfl, ?_⟩) hH ?_
      · rintro w' ⟨h1, h2⟩; go_simp
      try simp only [Act.put]
      refine wpAnyH_ready (rs := [2]) (by kernel_rfl) (by simp) ?_
      refine AllReadyH.cons rfl (fun K hK => ?_) AllReadyH.nil
      go_simp
      go_at_call 141
      refine (HREC.out _).mono ?_
      rintro e w5 ⟨rfl, b5⟩
      have B5 := (Below.refl _ w4).drew.trans (b5.mono (show w3.heap.size + 1 ≤ w4.drew.heap.size from hsz4))
      obtain ⟨p1, p2, p3, p4, p5, p6⟩ := HC.out w5 B5
      refine hK.out _ _ ⟨p5, p6⟩ (fun hH => ?_)
      clear hK K
      try simp only [Act.put, List.setIfInBounds_toArray, List.set_cons_zero, List.set_cons_succ]
      refine wpAnyH_take (i := 3) (v := .bool false) rfl (by kernel_rfl) (by kernel_rfl) (by kernel_rfl) (fun _ _ _ h => h) (Or.inl ⟨by rfl, fun w' _ => ?_⟩) hH ?_
      · go_simp
      try simp only [Act.put, List.setIfInBounds_toArray]
      refine skipH 4 rfl (by kernel_rfl) (by kernel_rfl) (by kernel_rfl) (fun _ _ _ h => h) (by rfl) hH ?_
      try simp only [Act.put]
      refine skipH 5 rfl (by kernel_rfl) (by kernel_rfl) (by kernel_rfl) (fun _ _ _ h => h) (by rfl) hH ?_
      try simp only [Act.put]
      refine skipH 7 rfl (by kernel_rfl) (by kernel_rfl) (by kernel_rfl) (fun _ _ _ h => h) (by rfl) hH ?_
      try simp only [Act.put]
      refine skipH 8 rfl (by kernel_rfl) (by kernel_rfl) (by kernel_rfl) (fun _ _ _ h => h) (by rfl) hH ?_
      try simp only [Act.put]
      refine skipH 6 rfl (by kernel_rfl) (by kernel_rfl) (by kernel_rfl) (fun _ _ _ h => h) (by rfl) hH ?_
      try simp only [Act.put]
      refine skipH 9 rfl (by kernel_rfl) (by kernel_rfl) (by kernel_rfl) (fun _ _ _ h => h) (by rfl) hH ?_
      try simp only [Act.put]
      refine wpAnyH_take (i := 10) (v := .bool false) rfl (by kernel_rfl) (by kernel_rfl) (by kernel_rfl) (fun _ _ _ h => h) (Or.inl ⟨by rfl, fun w' _ => ?_⟩) hH ?_
      · go_simp
      try simp only [Act.put]
      refine wpAnyH_ready (rs := [11]) (by kernel_rfl) (by simp) ?_
      refine AllReadyH.cons rfl (fun K hK => ?_) AllReadyH.nil
      go_simp
      refine hK.out _ _ ⟨by rw [World.cell?_setCell_other _ _ _ _ (by simp <;> omega), World.cell?_setCell_other _ _ _ _ (by simp <;> omega)]; exact p5, by rw [World.cell?_setCell_other _ _ _ _ (by simp <;> omega), World.cell?_setCell_other _ _ _ _ (by simp <;> omega)]; exact p6⟩ (fun hH => ?_)
      clear hK K
      try simp only [Act.put, List.setIfInBounds_toArray, List.set_cons_zero, List.set_cons_succ]
      refine wpAnyH_ready (rs := [12]) (by kernel_rfl) (by simp) ?_
      refine AllReadyH.cons rfl (fun K hK => ?_) AllReadyH.nil
      go_simp
      refine hK.out _ _ hH (fun hH => ?_)
      clear hK K
      refine wpAnyH_done (by kernel_rfl) ?_ _
      go_wp2_with fail
      go_meet
      have hB5 := (((HB4.out.drew.trans (b5.mono (show w.heap.size ≤ w4.drew.heap.size from hBase.out))).setCell (p := ⟨w.heap.size, 0, none⟩) (Nat.le_refl _) (.string (mk c))).setCell (p := ⟨w.heap.size, 1, none⟩) (Nat.le_refl _) (.string (mk r)))
      exact ⟨_, rfl, by simp [go_sem, p1], by simp [go_sem, p2], hB5, ⟨(fun h => by cases h), (fun h => by have := h.1; rw [HOK.out] at this; cases this)⟩⟩
    rw [hok] at HREC
    have HLN := Lib.hid (fun w => l27Line_any k hk (mk c) (mk r) (by have := recOk_parts hok; omega) (by have := recOk_parts hok; omega) w)
    rw [data_mk, data_mk] at HLN
    have HOK := Lib.hid hok
    clear hok
    generalize hll : lineL k c r = ll at *
    have z1 : ¬ 9223372036854775807 < s.size + 1 := by omega
    have z3 : ¬ 9223372036854775807 < sl.length + 1 := by omega
    have hz2 : (s ++ ⟨#[10]⟩ : ByteArray).toList = sl ++ [10] := by rw [ByteArray.toList_eq, data_append, HSL.out]
    go_region_held3 (fun w' => w'.cell? ⟨w3.heap.size, 0, none⟩ = some (.string (mk c)) ∧ w'.cell? ⟨w3.heap.size, 1, none⟩ = some (.string (mk r)))
             (first | exact ⟨q5, q6⟩ | exact ⟨p5, p6⟩ | exact ⟨r5, r6⟩ | (refine ⟨?_, ?_⟩ <;> (rw [World.cell?_setCell_other _ _ _ _ (by simp <;> omega), World.cell?_setCell_other _ _ _ _ (by simp <;> omega)]; first | assumption)))
             ((first
               | (go_at_call 141; refine (HREC.out _).mono ?_; rintro e w5 ⟨rfl, b5⟩; obtain ⟨p1, p2, p3, p4, p5, p6⟩ := HC.out w5 ((Below.refl _ w4).drew.trans (b5.mono (show w3.heap.size + 1 ≤ w4.drew.heap.size from hsz4))))
               | (go_at_call 142; refine (HLN.out _).mono ?_; rintro e w6 ⟨rfl, b6⟩; have B5 := (Below.refl _ w4).drew.trans (b5.mono (show w3.heap.size + 1 ≤ w4.drew.heap.size from hsz4)); obtain ⟨r1, r2, r3, r4, r5, r6⟩ := HC.out w6 (B5.trans (b6.mono (Nat.le_trans hsz4 B5.size))))))
    all_goals
      go_wp2_with fail
      go_meet
      · have h5 : w.heap.size ≤ w5.heap.size := Nat.le_trans hBase.out B5.size
        have hB6 := ((((HB4.out.drew.trans (b5.mono (show w.heap.size ≤ w4.drew.heap.size from hBase.out))).trans (b6.mono h5)).setCell (p := ⟨w.heap.size, 0, none⟩) (Nat.le_refl _) (.string (mk c))).setCell (p := ⟨w.heap.size, 1, none⟩) (Nat.le_refl _) (.string (mk r)))
        exact ⟨_, rfl, by simp [go_sem, r1], by simp [go_sem, r2], hB6, ⟨fun h => ⟨HOK.out, by simpa using h⟩, fun h => by simpa using h.2⟩⟩
  case rest =>
  obtain ⟨b, rfl, r1, r2, hB, hV⟩ := hcut
  cases b
  · have HN := Lib.hid (HPN.out (fun h => by have := hV.out.2 ⟨h.2.2.2.1, h.2.2.2.2⟩; simp at this))
    clear hV
    go_wp2
    exact bodyPost_ret (v := .tuple #[.agg #[.string (mk c), .string (mk r)], .bool false]) (by simp [results, Tryz.results116, go_sem, r1, r2]) rfl ⟨hB.out, .inr ⟨HN.out, _, _, rfl⟩⟩
  · have HY := Lib.hid (pI_iff.2 (hV.out.1 rfl))
    clear hV
    go_wp2
    exact bodyPost_ret (v := .tuple #[.agg #[.string (mk c), .string (mk r)], .bool true]) (by simp [results, Tryz.results116, go_sem, r1, r2]) rfl ⟨hB.out, .inl ⟨c, r, HY.out, rfl⟩⟩
end Go.Proofs.YtonpcgdnfclidaaGreatDoor
namespace Go.Proofs.YtonpcgdnfclidaaGreatDoor
open Go.RowKit

def OpPost (w : World) (s : L) (e : Ending) (w' : World) : Prop :=
  ∃ v1, e = .returned (.tuple #[v1, .int .i64 ((finR s).2 : Int)]) ∧ w'.ownsRow w.heap.size 139 2 v1 (finR s).1.length (recC (finR s).1) ∧ (finR s).2 ≤ s.length ∧ (finR s).1.length ≤ 60 ∧ Below w.heap.size w w'
theorem OpPost.mk_ {w w' : World} {s : L} {e : Ending} {v1 : Value} {rs : List (L × L)} {n m : Nat} (hR : finR s = (rs, n)) (hm : rs.length = m) (he : e = .returned (.tuple #[v1, .int .i64 (n : Int)])) (ho : w'.ownsRow w.heap.size 139 2 v1 m (recC rs)) (hn : n ≤ s.length) (h60 : m ≤ 60) (hb : Below w.heap.size w w') : OpPost w s e w' := by
  refine ⟨v1, ?_, ?_, ?_, ?_, hb⟩
  · rw [hR]; exact he
  · rw [hR, hm]; exact ho
  · rw [hR]; exact hn
  · rw [hR, hm]; exact h60

set_option maxHeartbeats 6400000 in
set_option maxRecDepth 100000 in
theorem l27Open_any (s : ByteArray) (hs : s.size ≤ 2000000) (w : World) :
    Calls Tryz.prog 83 #[.string s] w (OpPost w s.data.toList) := by
  have hs' : s.data.toList.length ≤ 2000000 := by rw [← size_data]; exact hs
  have HXD := Lib.hid (ext_drop s)
  have HSZ := Lib.hid (size_data s)
  obtain ⟨sl, hsl⟩ : ∃ l, s.data.toList = l := ⟨_, rfl⟩
  rw [hsl] at hs' HXD HSZ ⊢
  clear hsl
  have h0 : (w.alloc (.cells #[] 139)).ownsRow w.heap.size 139 2 (.slice (some ⟨w.heap.size, 0, none⟩) 0 0) 0 (recC []) :=
    World.ownsRow_lit (base := w.heap.size) (e := 139) (size := 2) w #[] 0 (Nat.le_refl _) (by simp) rfl
  have hb1 : Below w.heap.size w (w.alloc (.cells #[] 139)) := (Below.refl _ _).alloc (Nat.le_refl _) _
  go_enter Tryz.func83, Tryz.ntmps83
  go_wp2
  go_loopw [4, 5] (fun o a wr => ∃ (rs : List (L × L)) (n m : Nat), Hid (rs.length = m) ∧ m ≤ 60 ∧ n ≤ s.size ∧ a = .int .i64 n ∧ Hid (finR sl = goR sl (61 - m) rs n) ∧
      wr.ownsRow w.heap.size 139 2 o m (recC rs) ∧ Hid (Below w.heap.size w wr)) (fun _ a _ => s.size - (intOf a).toNat)
  case atStart => exact ⟨[], 0, 0, rfl, by omega, by omega, rfl, rfl, h0, hb1⟩
  case round =>
    obtain ⟨rs, n, m, HM, hm60, hn, rfl, HR, ho, HB⟩ := hrel
    obtain ⟨ao, co, rfl⟩ : ∃ a c, u4 = .slice a m c := by
      rcases ho.2 with ⟨h, h2⟩ | ⟨g, cap, cur, h, _⟩
      · exact ⟨none, 0, by rw [h, h2]⟩
      · exact ⟨_, _, h⟩
    have hsz : w.heap.size ≤ wr.heap.size := HB.out.size
    have HSTOP := Lib.hid (fun h : rdR (sl.drop n) m = none => HR.out.trans (goR_none (s := sl) (n := n) (o := rs) (f := 61 - m) (by rw [HM.out]; exact h)))
    have HNS := Lib.hid (show n ≤ sl.length from by rw [← HSZ.out]; exact hn)
    by_cases hlt : n < s.size
    case neg =>
      have hn0 : sl.drop n = [] := List.drop_eq_nil_of_le (by rw [← HSZ.out]; omega)
      have HF := Lib.hid (HSTOP.out (rd_no (.inl (by rw [hn0]; rfl))))
      have hltI : ¬ (n : Int) < (s.size : Int) := by omega
      have hd : decide ((n : Int) < (s.size : Int)) = false := by simpa using hlt
      clear hn0
      go_wp2
      go_ret2
      exact OpPost.mk_ HF.out HM.out rfl ho HNS.out hm60 HB.out
    have hltI : (n : Int) < (s.size : Int) := by omega
    by_cases hm6 : m < 60
    case neg =>
      have HF := Lib.hid (HSTOP.out (rd_no (.inr (.inl hm6))))
      have hmI : ¬ (m : Int) < 60 := by omega
      have hd : decide ((m : Int) < 60) = false := by simp; omega
      go_wp2
      go_ret2
      exact OpPost.mk_ HF.out HM.out rfl ho HNS.out hm60 HB.out
    have hmI : (m : Int) < 60 := by omega
    have hdm : decide ((m : Int) < 60) = true := by simp; omega
    have hdn : decide ((n : Int) < (s.size : Int)) = true := by simp; omega
    have hnI : (n : Int) ≤ (s.size : Int) := by omega
    have hSP := l1Split_any (mk (sl.drop n)) 10 (by rw [mk_size, List.length_drop]; omega) wr
    rw [data_mk] at hSP
    have HRS := Lib.hid (fun (q : L × L) (h : rdR (sl.drop n) m = some q) => HR.out.trans (show goR sl (61 - m) rs n = goR sl (61 - (m + 1)) (rs ++ [q]) (n + (bef 10 (sl.drop n)).length + 1) from by
      have := goR_some (s := sl) (n := n) (o := rs) (q := q) (by rw [HM.out]; exact hm6) (by rw [HM.out]; exact h)
      rw [List.length_append, HM.out] at this; exact this))
    have HHL := Lib.hid (fun h : hasB 10 (sl.drop n) = true => has_len h)
    have HNO := Lib.hid (fun h => rd_no (s := sl.drop n) (k := m) h)
    have HYES := Lib.hid (fun (q : L × L) (h : hasB 10 (sl.drop n) = true) (h2 : pI m (bef 10 (sl.drop n)) = some q) => (show rdR (sl.drop n) m = some q from by unfold rdR; rw [if_pos ⟨h, hm6⟩]; exact h2))
    have hbl := bef_len 10 (sl.drop n)
    rw [List.length_drop] at HHL hbl
    obtain ⟨ln, hln⟩ : ∃ l, bef 10 (sl.drop n) = l := ⟨_, rfl⟩
    rw [hln] at HRS HHL HYES hbl
    have HLN := Lib.hid hln
    have HNO2 := Lib.hid (fun h : pI m ln = none => HNO.out (.inr (.inr (by rw [HLN.out]; exact h))))
    have hRD := fun w => l27Read_any (mk ln) m (by rw [mk_size]; omega) (by omega) w
    rw [data_mk] at hRD
    have HRD := Lib.hid hRD
    obtain ⟨hb, hhb⟩ : ∃ b, hasB 10 (sl.drop n) = b := ⟨_, rfl⟩
    rw [hhb] at HHL HNO HYES
    have HHB := Lib.hid hhb
    clear hln hRD hhb
    go_wp2_with fail
    rw [HXD.out]
    refine hSP.mono ?_
    rintro e w2 ⟨g2, m2, cap2, rfl, h21, h22, h23, h24, h25, h26, h27, b2⟩
    have h2n : 1 ≤ (m2 : Int) := by omega
    rw [HLN.out] at h26
    rw [HHB.out] at h24
    have HNE : Hid (∀ k, Value.ownBlock (.slice ao m co) = some k → k ≠ g2) := fun k hk e => by have := (ho.lt k hk).2; omega
    have ho2 := row_below ho b2
    have hB2 := HB.out.trans (b2.mono hsz)
    clear hSP ho
    go_wp2_with fail
    refine (HRD.out _).mono ?_
    rintro e w3 ⟨b3, hpost⟩
    have ho3 := row_below ho2 b3
    have hB3 := hB2.trans (b3.mono hB2.size)
    have h36 : w3.cell? ⟨g2, 0, none⟩ = some (.string (mk ln)) := by rw [b3.cell (p := ⟨g2, 0, none⟩) h25]; exact h26
    have h35 : g2 < w3.heap.size := Nat.lt_of_lt_of_le h25 b3.size
    clear h26 h25 ho2 hB2 b2
    by_cases hmm : 2 ≤ m2
    case neg =>
      have hhf : hb = false := by
        cases hb
        · rfl
        · exact absurd (h24.2 rfl) hmm
      have HF := Lib.hid (HSTOP.out (HNO.out (.inl hhf)))
      have hm2I : (m2 : Int) < 2 := by omega
      have hm2d : decide ((m2 : Int) < 2) = true := by simp; omega
      clear hhf
      rcases hpost with ⟨c, r, _, rfl⟩ | ⟨_, x, y, rfl⟩
      · have hal : Below w3.heap.size w3 (w3.alloc (.cells #[.string (mk c), .string (mk r)] 139)) := (Below.refl _ _).alloc (Nat.le_refl _) _
        go_wp2
        go_ret2
        exact OpPost.mk_ HF.out HM.out rfl (row_below ho3 hal) HNS.out hm60 (hB3.alloc hB3.size _)
      · have hal : Below w3.heap.size w3 (w3.alloc (.cells #[.string x, .string y] 139)) := (Below.refl _ _).alloc (Nat.le_refl _) _
        go_wp2
        go_ret2
        exact OpPost.mk_ HF.out HM.out rfl (row_below ho3 hal) HNS.out hm60 (hB3.alloc hB3.size _)
    have hm2I : ¬ (m2 : Int) < 2 := by omega
    have hm2d : decide ((m2 : Int) < 2) = false := by simp; omega
    have hht : hb = true := h24.1 hmm
    rcases hpost with ⟨c, r, hpi, rfl⟩ | ⟨hpi, x, y, rfl⟩
    case inr =>
      have HF := Lib.hid (HSTOP.out (HNO2.out hpi))
      have hal : Below w3.heap.size w3 (w3.alloc (.cells #[.string x, .string y] 139)) := (Below.refl _ _).alloc (Nat.le_refl _) _
      go_wp2
      go_ret2
      exact OpPost.mk_ HF.out HM.out rfl (row_below ho3 hal) HNS.out hm60 (hB3.alloc hB3.size _)
    case inl =>
      have hbl2 := HHL.out hht
      have HF := Lib.hid (HRS.out (c, r) (HYES.out (c, r) hht hpi))
      have hbs : n + ln.length + 1 ≤ s.size := by have := HSZ.out; omega
      have hbsI : (n : Int) + (ln.length : Int) + 1 ≤ (s.size : Int) := by omega
      have HCA := Lib.hid (show ((n + ln.length + 1 : Nat) : Int) = (n : Int) + (ln.length : Int) + 1 by omega)
      have hal : Below w3.heap.size w3 (w3.alloc (.cells #[.string (mk c), .string (mk r)] 139)) := (Below.refl _ _).alloc (Nat.le_refl _) _
      have ho4 := row_below ho3 hal
      have hB4 := hB3.alloc hB3.size (.cells #[.string (mk c), .string (mk r)] 139)
      have hs4 := hB4.size
      have h46 : (w3.alloc (.cells #[.string (mk c), .string (mk r)] 139)).cell? ⟨g2, 0, none⟩ = some (.string (mk ln)) := by rw [hal.cell (p := ⟨g2, 0, none⟩) h35]; exact h36
      have HPC := Lib.hid (recC_snoc rs (c, r))
      clear hpi hbl2 hB3 ho3 hht h24
      go_wp2_with (at_builtin; refine wpList_pushCells rfl (.tmp 39) (.tmp 41) 104 rfl 139 (.agg #[.string ⟨#[]⟩, .string ⟨#[]⟩]) 2 32 Tryz.underlying104 Tryz.infoRec rfl (by omega) (by omega) w.heap.size _ m (recC rs) rfl ho4 #[.string (mk c), .string (mk r)] rfl (by simp [Value.oneCell']) rfl (by simp) (by omega) hs4 ?_; intro v5 w5 ho5 hg5; have hB5 := below_row hB4 ho4 hg5 (Nat.le_refl _) hs4; have h56 : w5.cell? ⟨g2, 0, none⟩ = some (.string (mk ln)) := (by rw [World.cell?_of_block (w := w3.alloc (.cells #[.string (mk c), .string (mk r)] 139)) (hg5.block g2 (by simp; omega) (fun e => HNE.out g2 e.symm rfl))]; exact h46))
      go_roundw
      case rel =>
        refine ⟨rs ++ [(c, r)], n + ln.length + 1, m + 1, ?_, by omega, by omega, ?_, HF.out, ?_, hB5⟩
        · show (rs ++ [(c, r)]).length = m + 1
          rw [List.length_append, HM.out]; rfl
        · rw [HCA.out]
        · rw [HPC.out]; exact ho5
      case measure => simp only [intOf]; omega
end Go.Proofs.YtonpcgdnfclidaaGreatDoor
namespace Go.Proofs.YtonpcgdnfclidaaGreatDoor
open Go.RowKit

theorem bef_take_of {b : UInt8} : ∀ {u : L} {j : Nat}, hasB b (u.take j) = true → bef b (u.take j) = bef b u ∧ hasB b u = true
  | [], j, h => by simp [hasB] at h
  | a :: u, 0, h => by simp [hasB] at h
  | a :: u, j + 1, h => by
    rw [List.take_succ_cons] at h ⊢
    by_cases e : a = b
    · simp [bef, hasB, e]
    · rw [hasB_cons] at h ⊢
      simp only [e, decide_false, Bool.false_or] at h ⊢
      obtain ⟨h1, h2⟩ := bef_take_of h
      simp only [bef, e, if_false, h1]
      exact ⟨trivial, h2⟩
theorem has_take {b : UInt8} : ∀ {u : L} {j : Nat}, hasB b u = true → (bef b u).length + 1 ≤ j → hasB b (u.take j) = true
  | [], j, h, _ => by simp [hasB] at h
  | a :: u, 0, h, hj => by omega
  | a :: u, j + 1, h, hj => by
    rw [List.take_succ_cons, hasB_cons]
    by_cases e : a = b
    · simp [e]
    · rw [hasB_cons] at h
      simp only [e, decide_false, Bool.false_or] at h ⊢
      simp only [bef, e, if_false, List.length_cons] at hj
      exact has_take h (by omega)
theorem has_take_len {b : UInt8} {u : L} {j : Nat} (h : hasB b (u.take j) = true) : (bef b u).length + 1 ≤ j := by
  have h1 := has_len h
  rw [(bef_take_of h).1] at h1
  have := List.length_take_le j u
  omega
/-- Reading a text's start. -/
theorem rdR_take {u : L} {j k : Nat} : rdR (u.take j) k = if (bef 10 u).length + 1 ≤ j then rdR u k else none := by
  by_cases h : hasB 10 (u.take j) = true
  · rw [if_pos (has_take_len h)]
    obtain ⟨h1, h2⟩ := bef_take_of h
    unfold rdR
    rw [h, h1, h2]
  · by_cases h2 : (bef 10 u).length + 1 ≤ j
    · rw [if_pos h2]
      have h3 : ¬ hasB 10 u = true := fun e => h (has_take e h2)
      unfold rdR
      rw [if_neg (fun e => h e.1), if_neg (fun e => h3 e.1)]
    · rw [if_neg h2]
      unfold rdR
      rw [if_neg (fun e => h e.1)]
theorem goE_mem {S : L} : ∀ {f : Nat} {o : List (L × L)} {n : Nat} {e : List Int} {x : Int}, x ∈ goE S f o n e → x ∈ e ∨ (n : Int) < x
  | 0, _, _, _, _, h => .inl h
  | f + 1, o, n, e, x, h => by
    rw [goE] at h
    split at h
    · rcases goE_mem h with h | h
      · rcases List.mem_append.1 h with h | h
        · exact .inl h
        · right; simp at h; omega
      · right; omega
    · exact .inl h
theorem goE_keep {S : L} : ∀ {f : Nat} {o : List (L × L)} {n : Nat} {e : List Int} {x : Int}, x ∈ e → x ∈ goE S f o n e
  | 0, _, _, _, _, h => h
  | f + 1, o, n, e, x, h => by
    rw [goE]
    split
    · exact goE_keep (List.mem_append.2 (.inl h))
    · exact h
theorem goE_at {S : L} {f : Nat} {o : List (L × L)} {n : Nat} {e : List Int} {q : L × L} (h : rdR (S.drop n) o.length = some q) :
    goE S (f + 1) o n e = goE S f (o ++ [q]) (n + (bef 10 (S.drop n)).length + 1) (e ++ [((n + (bef 10 (S.drop n)).length + 1 : Nat) : Int)]) := by rw [goE, h]
theorem goR_at {S : L} {f : Nat} {o : List (L × L)} {n : Nat} {q : L × L} (h : rdR (S.drop n) o.length = some q) :
    goR S (f + 1) o n = goR S f (o ++ [q]) (n + (bef 10 (S.drop n)).length + 1) := by rw [goR, h]
/-- A place is a record's end if the text up to it is read whole. -/
theorem ends_iff {S : L} {d : Nat} : ∀ {f : Nat} {o : List (L × L)} {n : Nat} {e : List Int}, n ≤ d → (∀ x ∈ e, x ≠ (d : Int)) →
    ((d : Int) ∈ goE S f o n (e ++ [(n : Int)]) ↔ (goR (S.take d) f o n).2 = d)
  | 0, o, n, e, hn, he => by
    simp only [goE, goR, List.mem_append, List.mem_singleton]
    exact ⟨fun h => h.elim (fun h => absurd rfl (he _ h)) (fun h => by omega), fun h => .inr (by omega)⟩
  | f + 1, o, n, e, hn, he => by
    have hD : rdR ((S.take d).drop n) o.length = if (bef 10 (S.drop n)).length + 1 ≤ d - n then rdR (S.drop n) o.length else none := by
      rw [List.drop_take, rdR_take]
    cases h : rdR (S.drop n) o.length with
    | none =>
      have h1 : rdR ((S.take d).drop n) o.length = none := by rw [hD, h]; split <;> rfl
      rw [goE_none h, goR_none h1]
      simp only [List.mem_append, List.mem_singleton]
      exact ⟨fun h => h.elim (fun h => absurd rfl (he _ h)) (fun h => by omega), fun h => .inr (by omega)⟩
    | some q =>
      rw [goE_at h]
      by_cases hc : (bef 10 (S.drop n)).length + 1 ≤ d - n
      · have h1 : rdR ((S.take d).drop n) o.length = some q := by rw [hD, if_pos hc, h]
        have hb : bef 10 ((S.take d).drop n) = bef 10 (S.drop n) := by
          rw [List.drop_take]
          exact (bef_take_of (has_take (rdR_has h).1 hc)).1
        rw [goR_at h1, hb]
        have hle : n + (bef 10 (S.drop n)).length + 1 ≤ d := by omega
        generalize n + (bef 10 (S.drop n)).length + 1 = n' at *
        exact ends_iff (n := n') (e := e ++ [(n : Int)]) hle (fun x hx => by
          rcases List.mem_append.1 hx with hx | hx
          · exact he x hx
          · simp at hx; omega)
      · have h1 : rdR ((S.take d).drop n) o.length = none := by rw [hD, if_neg hc]
        rw [goR_none h1]
        constructor
        · intro hm
          rcases goE_mem hm with hm | hm
          · rcases List.mem_append.1 hm with hm | hm
            · rcases List.mem_append.1 hm with hm | hm
              · exact absurd rfl (he _ hm)
              · simp at hm; omega
            · simp at hm; omega
          · omega
        · intro hm
          exact goE_keep (List.mem_append.2 (.inl (List.mem_append.2 (.inr (by simp; omega)))))
theorem fin_ends (S : L) (d : Nat) : (d : Int) ∈ finE S ↔ (finR (S.take d)).2 = d :=
  ends_iff (f := 61) (o := []) (n := 0) (e := []) (Nat.zero_le _) (fun x hx => by simp at hx)

theorem line_len {k : Nat} {c r : L} (hk : k < 60) (h : recOk (mk c) (mk r) = true) : (lineL k c r).length ≤ 400 := by
  obtain ⟨_, h2, h3, _⟩ := recOk_parts h
  rw [mk_size] at h2 h3
  have := digs_len 1 k (by omega)
  have := sealL_len (bodyL k c r)
  simp only [lineL, List.length_append, List.length_singleton]
  simp only [bodyL, List.length_append, List.length_cons] at *
  omega
theorem rd_len {s : L} {k : Nat} {q : L × L} (h : rdR s k = some q) : (bef 10 s).length + 1 ≤ 400 := by
  obtain ⟨h1, h2⟩ := rdR_has h
  unfold rdR at h
  rw [if_pos ⟨h1, h2⟩] at h
  obtain ⟨c, r⟩ := q
  obtain ⟨h3, h4⟩ := pI_iff.1 h
  have := line_len h2 h3
  rw [h4] at this
  simpa using this
theorem goR_len {S : L} : ∀ {f : Nat} {o : List (L × L)} {n : Nat}, (goR S f o n).2 ≤ n + 400 * f
  | 0, _, _ => by simp [goR]
  | f + 1, o, n => by
    cases h : rdR (S.drop n) o.length with
    | none => rw [goR_none h]; omega
    | some q =>
      rw [goR_at h]
      have h1 := rd_len h
      have := goR_len (S := S) (f := f) (o := o ++ [q]) (n := n + (bef 10 (S.drop n)).length + 1)
      omega
theorem fin_len (S : L) : (finR S).2 ≤ 24400 := by
  have := goR_len (S := S) (f := 61) (o := []) (n := 0)
  unfold finR; omega

/-- When a log is valid. -/
def vlOk (d p : L) (n : Int) : Bool := decide ((finR (d ++ p)).2 = (d ++ p).length) && decide ((finR d).2 = d.length) && decide (((finR (d ++ p)).1.length : Int) = n)
theorem vl_size {d p : L} {n : Int} (h : vlOk d p n = true) : (d ++ p).length ≤ 30000 := by
  simp only [vlOk, Bool.and_eq_true, decide_eq_true_eq] at h
  have := fin_len (d ++ p)
  omega
theorem vl_any {d p : L} : (finR d).2 = d.length ↔ (d.length : Int) ∈ finE (d ++ p) := by
  rw [fin_ends, List.take_left]
end Go.Proofs.YtonpcgdnfclidaaGreatDoor
namespace Go.Proofs.YtonpcgdnfclidaaGreatDoor
open Go.RowKit

def rlOk (s : ByteArray) : Bool := decide (s.size ≤ 30000)
def rlD (s : ByteArray) : ByteArray := if rlOk s then mk (s.data.toList.take (finR s.data.toList).2) else ⟨#[]⟩
def rlC (s : ByteArray) : Int := if rlOk s then ((finR s.data.toList).1.length : Int) else 0
def rlE (s : ByteArray) : Int := if rlOk s then ((finR s.data.toList).2 : Int) else 0
def RlPost (w : World) (s : ByteArray) (e : Ending) (w' : World) : Prop := e = .returned (.tuple #[.agg #[.string (rlD s), .string ⟨#[]⟩, .int .i64 (rlC s)], .int .i64 (rlE s), .bool (rlOk s)]) ∧ Below w.heap.size w w'
theorem RlPost.no {w w' : World} {s : ByteArray} {e : Ending} (h : ¬ s.size ≤ 30000) (he : e = .returned (.tuple #[.agg #[.string ⟨#[]⟩, .string ⟨#[]⟩, .int .i64 0], .int .i64 0, .bool false])) (hb : Below w.heap.size w w') : RlPost w s e w' := by
  have h1 : rlOk s = false := by simp [rlOk]; omega
  exact ⟨by unfold rlD rlC rlE; rw [h1]; exact he, hb⟩
theorem RlPost.yes {w w' : World} {s : ByteArray} {e : Ending} {m n : Nat} (h : s.size ≤ 30000) (hm : (finR s.data.toList).1.length = m) (hn : (finR s.data.toList).2 = n) (he : e = .returned (.tuple #[.agg #[.string (s.extract 0 n), .string ⟨#[]⟩, .int .i64 m], .int .i64 n, .bool true])) (hb : Below w.heap.size w w') : RlPost w s e w' := by
  have h1 : rlOk s = true := by simp [rlOk]; omega
  refine ⟨?_, hb⟩
  unfold rlD rlC rlE
  rw [h1, if_pos rfl, if_pos rfl, if_pos rfl, hm, hn, ← ext_take]
  exact he
theorem row_form {w : World} {base m size : Nat} {e : TypeId} {v : Value} {xs : List Value} (h : w.ownsRow base e size v m xs) : ∃ a c, v = .slice a m c := by
  rcases h.2 with ⟨h, h2⟩ | ⟨g, cap, cur, h, _⟩
  · exact ⟨none, 0, by rw [h, h2]⟩
  · exact ⟨_, _, h⟩
/-- A result's own block, behind a call. -/
theorem cell3 {w w1 : World} {T : TypeId} {a b c : Value} (hb : Below (w.alloc (.cells #[a, b, c] T)).heap.size (w.alloc (.cells #[a, b, c] T)) w1) :
    w1.cell? ⟨w.heap.size, 0, none⟩ = some a ∧ w1.cell? ⟨w.heap.size, 1, none⟩ = some b ∧ w1.cell? ⟨w.heap.size, 2, none⟩ = some c ∧ (∀ j, w1.frozen? ⟨w.heap.size, j, none⟩ = false) := by
  have g0 : w1.heap[w.heap.size]? = some (.cells #[a, b, c] T (0, 0)) := by
    rw [hb.block _ (by simp)]; exact heap_alloc_new w _
  refine ⟨?_, ?_, ?_, fun j => frozen_of_row _ _ j _ _ g0⟩
  · rw [cell_of_row _ _ _ _ _ _ g0]; rfl
  · rw [cell_of_row _ _ _ _ _ _ g0]; rfl
  · rw [cell_of_row _ _ _ _ _ _ g0]; rfl

theorem eqLog_any (d p : ByteArray) (n : Int) (w : World) :
    Calls Tryz.prog 34 #[.agg #[.string d, .string p, .int .i64 n], .agg #[.string d, .string p, .int .i64 n]] w fun e w' => e = .returned (.bool true) ∧ Below w.heap.size w w' := by
  have hb0 : Below w.heap.size w ((w.alloc (.cells #[.string d, .string p, .int .i64 n] 43)).alloc (.cells #[.string d, .string p, .int .i64 n] 43)) := ((Below.refl _ _).alloc (Nat.le_refl _) _).alloc (by simp) _
  have e1 : (d.toList == d.toList) = true := by simp
  have e2 : (p.toList == p.toList) = true := by simp
  have e3 : (n != n) = false := by simp
  go_enter Tryz.func34, Tryz.ntmps34
  go_wp2
  go_ret
  exact ⟨rfl, hb0⟩

end Go.Proofs.YtonpcgdnfclidaaGreatDoor
namespace Go.Proofs.YtonpcgdnfclidaaGreatDoor
open Go.RowKit

def vlB (d p : ByteArray) (n : Int) : Bool := vlOk d.data.toList p.data.toList n
def VlPost (w : World) (d p : ByteArray) (n : Int) (e : Ending) (w' : World) : Prop := e = .returned (.bool (vlB d p n)) ∧ Below w.heap.size w w'
theorem VlPost.mk_ {w w' : World} {d p : ByteArray} {n : Int} {e : Ending} {b : Bool} (h : vlB d p n = b) (he : e = .returned (.bool b)) (hb : Below w.heap.size w w') : VlPost w d p n e w' := ⟨by rw [h]; exact he, hb⟩
theorem vlB_big {d p : ByteArray} {n : Int} (h : ¬ d.size + p.size ≤ 30000) : vlB d p n = false := by
  cases hv : vlB d p n
  · rfl
  · have := vl_size hv
    rw [List.length_append, ← size_data, ← size_data] at this
    exact absurd this h
theorem vlB_eq {d p : ByteArray} {n : Int} {n1 n2 m1 : Nat} (h1 : (finR (d.data.toList ++ p.data.toList)).2 = n1) (h2 : (finR d.data.toList).2 = n2) (h3 : (finR (d.data.toList ++ p.data.toList)).1.length = m1) :
    vlB d p n = (decide (n1 = d.size + p.size) && decide (n2 = d.size) && decide ((m1 : Int) = n)) := by
  unfold vlB vlOk
  rw [h1, h2, h3, List.length_append, ← size_data, ← size_data]
theorem cat_data (d p : ByteArray) : (d ++ p).data.toList = d.data.toList ++ p.data.toList := data_append d p
theorem cat_size (d p : ByteArray) : (d ++ p).size = d.size + p.size := ByteArray.size_append

set_option maxHeartbeats 3200000 in
set_option maxRecDepth 100000 in
theorem l27Log_any (d p : ByteArray) (n : Int) (hs : d.size + p.size ≤ 1048576) (w : World) :
    Calls Tryz.prog 55 #[.agg #[.string d, .string p, .int .i64 n]] w (VlPost w d p n) := by
  have hb0 : Below w.heap.size w (w.alloc (.cells #[.string d, .string p, .int .i64 n] 43)) := (Below.refl _ _).alloc (Nat.le_refl _) _
  have hcat : ¬ 9223372036854775807 < d.size + p.size := by omega
  by_cases h1 : d.size + p.size ≤ 30000
  case neg =>
    have h1I : (30000 : Int) < (d.size : Int) + (p.size : Int) := by omega
    go_enter Tryz.func55, Tryz.ntmps55
    go_wp2
    go_ret
    exact VlPost.mk_ (vlB_big h1) rfl hb0
  have h1I : ¬ (30000 : Int) < (d.size : Int) + (p.size : Int) := by omega
  obtain ⟨n1, hn1⟩ : ∃ n, (finR (d.data.toList ++ p.data.toList)).2 = n := ⟨_, rfl⟩
  obtain ⟨n2, hn2⟩ : ∃ n, (finR d.data.toList).2 = n := ⟨_, rfl⟩
  obtain ⟨m1, hm1⟩ : ∃ n, (finR (d.data.toList ++ p.data.toList)).1.length = n := ⟨_, rfl⟩
  have HV := Lib.hid (vlB_eq (n := n) hn1 hn2 hm1)
  have HN1 := Lib.hid hn1
  have HN2 := Lib.hid hn2
  have HM1 := Lib.hid hm1
  have HO1 := Lib.hid (fun w => l27Open_any (d ++ p) (by rw [cat_size]; omega) w)
  have HO2 := Lib.hid (fun w => l27Open_any d (by omega) w)
  have HCD := Lib.hid (cat_data d p)
  clear hn1 hn2 hm1
  go_enter Tryz.func55, Tryz.ntmps55
  go_wp2_with fail
  refine (HO1.out _).mono ?_
  rintro e w1 ⟨v1, rfl, o1, _, _, b1⟩
  rw [HCD.out] at o1 ⊢
  rw [HM1.out] at o1
  rw [HN1.out]
  obtain ⟨ao, co, rfl⟩ := row_form o1
  have hB1 := hb0.trans (b1.mono (by simp))
  obtain ⟨q1, q2, q3, q4⟩ := cell3 b1
  have hlt1 : w.heap.size < w1.heap.size := by have := b1.size; simp at this; omega
  clear q4 o1 hb0
  go_wp2_with fail
  refine (HO2.out _).mono ?_
  rintro e w2 ⟨v2, rfl, o2, _, _, b2⟩
  rw [HN2.out]
  have r1 : w2.cell? ⟨w.heap.size, 0, none⟩ = some (.string d) := (b2.cell (p := ⟨w.heap.size, 0, none⟩) hlt1).trans q1
  have r2 : w2.cell? ⟨w.heap.size, 1, none⟩ = some (.string p) := (b2.cell (p := ⟨w.heap.size, 1, none⟩) hlt1).trans q2
  have r3 : w2.cell? ⟨w.heap.size, 2, none⟩ = some (.int .i64 n) := (b2.cell (p := ⟨w.heap.size, 2, none⟩) hlt1).trans q3
  have hB2 := Lib.hid (hB1.trans (b2.mono hB1.size))
  obtain ⟨ao2, co2, rfl⟩ := row_form o2
  clear o2 b2 b1 hB1 q1 q2 q3
  by_cases c1 : n1 = d.size + p.size
  case neg =>
    have c1I : ¬ (n1 : Int) = (d.size : Int) + (p.size : Int) := by omega
    have c1d : ((n1 : Int) == (d.size : Int) + (p.size : Int)) = false := by simpa using c1I
    have HR : Hid (vlB d p n = false) := HV.out.trans (by simp [c1])
    go_wp2
    go_ret
    exact VlPost.mk_ HR.out rfl hB2.out
  have c1I : (n1 : Int) = (d.size : Int) + (p.size : Int) := by omega
  have c1d : ((n1 : Int) == (d.size : Int) + (p.size : Int)) = true := by simpa using c1I
  by_cases c2 : n2 = d.size
  case neg =>
    have c2I : ¬ (n2 : Int) = (d.size : Int) := by omega
    have c2d : ((n2 : Int) == (d.size : Int)) = false := by simpa using c2I
    have HR : Hid (vlB d p n = false) := HV.out.trans (by simp [c2])
    clear c1
    go_wp2
    go_ret
    exact VlPost.mk_ HR.out rfl hB2.out
  have c2I : (n2 : Int) = (d.size : Int) := by omega
  have c2d : ((n2 : Int) == (d.size : Int)) = true := by simpa using c2I
  by_cases c3 : (m1 : Int) = n
  case neg =>
    have c3d : ((m1 : Int) == n) = false := by simpa using c3
    have HR : Hid (vlB d p n = false) := HV.out.trans (by simp [c3])
    clear c1 c2
    go_wp2
    go_ret
    exact VlPost.mk_ HR.out rfl hB2.out
  have c3d : ((m1 : Int) == n) = true := by simpa using c3
  have HR : Hid (vlB d p n = true) := HV.out.trans (by simp [c1, c2, c3])
  clear c1 c2 c3
  go_wp2
  go_ret
  exact VlPost.mk_ HR.out rfl hB2.out

set_option maxHeartbeats 3200000 in
set_option maxRecDepth 100000 in
theorem implVl_any (d p : ByteArray) (n : Int) (hs : d.size + p.size ≤ 1048576) (w : World) (ht : TabOk w) (hmx : MaxOk w) :
    Calls Tryz.prog 32 #[.agg #[.string d, .string p, .int .i64 n]] w (VlPost w d p n) := by
  have hb0 : Below w.heap.size w (w.alloc (.cells #[.string d, .string p, .int .i64 n] 43)) := (Below.refl _ _).alloc (Nat.le_refl _) _
  have hcat : ¬ 9223372036854775807 < d.size + p.size := by omega
  have hva : (finR d.data.toList).2 = d.size ↔ (d.size : Int) ∈ finE (d.data.toList ++ p.data.toList) := by
    have := vl_any (d := d.data.toList) (p := p.data.toList)
    rw [← size_data] at this; exact this
  obtain ⟨n1, hn1⟩ : ∃ n, (finR (d.data.toList ++ p.data.toList)).2 = n := ⟨_, rfl⟩
  obtain ⟨n2, hn2⟩ : ∃ n, (finR d.data.toList).2 = n := ⟨_, rfl⟩
  obtain ⟨m1, hm1⟩ : ∃ n, (finR (d.data.toList ++ p.data.toList)).1.length = n := ⟨_, rfl⟩
  rw [hn2] at hva
  have HV := Lib.hid (vlB_eq (n := n) hn1 hn2 hm1)
  have HN1 := Lib.hid hn1
  have HM1 := Lib.hid hm1
  have HO1 := Lib.hid (fun w ht hm => readRecords_any (d ++ p) (by rw [cat_size]; omega) w ht hm)
  have HTW := Lib.hid (ht.below hb0)
  have HMW := Lib.hid (hmx.below hb0)
  have HCD := Lib.hid (cat_data d p)
  have HCS := Lib.hid (cat_size d p)
  obtain ⟨es, hes⟩ : ∃ l, finE (d.data.toList ++ p.data.toList) = l := ⟨_, rfl⟩
  rw [hes] at hva
  have HES := Lib.hid hes
  have HVA := Lib.hid hva
  clear hn1 hn2 hm1 ht hmx hes hva
  go_enter Tryz.func32, Tryz.ntmps32
  go_wp2_with fail
  refine (HO1.out _ HTW.out HMW.out).mono ?_
  rintro e w1 ⟨v1, v2, rfl, o1, o2, hl2, hlast, hn1, hm60, b1⟩
  rw [HCD.out] at o1 o2 hl2 hlast hn1 hm60
  rw [HN1.out, HM1.out, HES.out] at hlast
  rw [HM1.out] at o1 hm60 hl2
  rw [HES.out] at o2 hl2
  obtain ⟨ao, co, rfl⟩ := row_form o1
  obtain ⟨g, cap, rfl, hgb, hglt⟩ := o2.form (by omega)
  obtain ⟨m2, hm2⟩ : ∃ m, es.length = m := ⟨_, rfl⟩
  rw [hm2] at hl2 o2 ⊢
  have hcells : ∀ j, j < m2 → w1.cell? ⟨g, j, none⟩ = some (.int .i64 (es[j]?.getD 0)) := fun j hj => by
    have := o2.cells (g := g) rfl j (.int .i64 (es[j]?.getD 0)) (by
      simp only [ints, List.getElem?_map]
      rw [List.getElem?_eq_getElem (by omega)]; rfl)
    rw [show (⟨g, 0, none⟩ : Addr).add j = ⟨g, j, none⟩ from by unfold Addr.add; split <;> simp_all] at this
    exact this
  have hmem : (d.size : Int) ∈ es ↔ ∃ j, j < m2 ∧ es[j]?.getD 0 = (d.size : Int) := by
    rw [List.mem_iff_getElem]
    constructor
    · rintro ⟨j, hj, e⟩; exact ⟨j, by omega, by rw [List.getElem?_eq_getElem hj]; exact e⟩
    · rintro ⟨j, hj, e⟩; rw [List.getElem?_eq_getElem (by omega)] at e; exact ⟨j, by omega, e⟩
  have hE := Lib.hid (HVA.out.trans hmem)
  have hcm : w1.cell? ⟨g, m1, none⟩ = some (.int .i64 n1) := by rw [hcells m1 (by omega), hlast]
  have hB1 := Lib.hid (hb0.trans (b1.mono (by simp)))
  obtain ⟨q1, q2, q3, q4⟩ := cell3 b1
  have hm12 : (m1 : Int) < (m2 : Int) := by omega
  have hm2b : m2 ≤ 61 := by omega
  have HXE : Hid (∀ j : Nat, es[j]?.getD 0 = (d.size : Int) ↔ decide (es[j]?.getD 0 = (d.size : Int)) = true) := fun j => by simp
  clear q4 o1 o2 hb0 b1 hlast hl2 hmem hm2 hn1
  have hsz := HCS.out
  have hsI : ((d ++ p).size : Int) = (d.size : Int) + (p.size : Int) := by omega
  by_cases c1 : n1 = d.size + p.size
  case neg =>
    have c1I : ¬ (n1 : Int) = (d.size : Int) + (p.size : Int) := by omega
    have c1d : ((n1 : Int) != (d.size : Int) + (p.size : Int)) = true := by simpa using c1I
    have HR : Hid (vlB d p n = false) := HV.out.trans (by simp [c1])
    go_wp2
    go_ret
    exact VlPost.mk_ HR.out rfl hB1.out
  have c1I : (n1 : Int) = (d.size : Int) + (p.size : Int) := by omega
  have c1d : ((n1 : Int) != (d.size : Int) + (p.size : Int)) = false := by simpa using c1I
  by_cases c3 : (m1 : Int) = n
  case neg =>
    have c3d : ((m1 : Int) != n) = true := by simpa using c3
    have HR : Hid (vlB d p n = false) := HV.out.trans (by simp [c3])
    clear c1
    go_wp2
    go_ret
    exact VlPost.mk_ HR.out rfl hB1.out
  have c3d : ((m1 : Int) != n) = false := by simpa using c3
  have HR : Hid (vlB d p n = decide (n2 = d.size)) := HV.out.trans (by simp [c1, c3])
  clear c1 c3
  have HCL := Lib.hid hcells
  clear hcells
  go_wp2
  go_loopw [35] (fun i wr => ∃ k : Nat, k ≤ m2 ∧ i = .int .i64 k ∧ Hid (∀ j, j < k → ¬ es[j]?.getD 0 = (d.size : Int)) ∧ Hid (w1 = wr)) (fun i _ => m2 - (intOf i).toNat)
  case atStart => exact ⟨0, by omega, rfl, fun j hj => by omega, rfl⟩
  case round =>
    obtain ⟨k, hk, rfl, HJ, HW⟩ := hrel
    obtain rfl := HW.out
    clear HW
    by_cases hkm : k < m2
    case neg =>
      have hkI : ¬ (k : Int) < (m2 : Int) := by omega
      have HR2 : Hid (vlB d p n = false) := HR.out.trans (by
        rw [decide_eq_false_iff_not, hE.out]
        rintro ⟨j, hj, e⟩
        exact HJ.out j (by omega) e)
      go_wp2
      go_ret
      exact VlPost.mk_ HR2.out rfl hB1.out
    have hkI : (k : Int) < (m2 : Int) := by omega
    have hck := HCL.out k hkm
    by_cases hx : es[k]?.getD 0 = (d.size : Int)
    case pos =>
      have HR2 : Hid (vlB d p n = true) := HR.out.trans (by
        rw [decide_eq_true_iff, hE.out]
        exact ⟨k, hkm, hx⟩)
      rw [hx] at hck
      clear hx
      go_wp2
      go_ret
      exact VlPost.mk_ HR2.out rfl hB1.out
    have HX := Lib.hid hx
    obtain ⟨x, hx2⟩ : ∃ x, es[k]?.getD 0 = x := ⟨_, rfl⟩
    rw [hx2] at hck hx
    clear hx2
    have hxd : (x == (d.size : Int)) = false := by simpa using hx
    go_wp2
    go_roundw
    case rel =>
      refine ⟨k + 1, by omega, rfl, fun j hj => ?_, trivial⟩
      by_cases e : j = k
      · rw [e]; exact HX.out
      · exact HJ.out j (by omega)
    case measure => simp only [intOf]; omega
end Go.Proofs.YtonpcgdnfclidaaGreatDoor
