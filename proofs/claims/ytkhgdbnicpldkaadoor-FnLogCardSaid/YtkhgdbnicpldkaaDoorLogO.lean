/- Walks: the reference's records of a log. -/
import Derived.Test.YtkhgdbnicpldkaaDoorLogI
import Derived.Test.YtkhgdbnicpldkaaDoorLogT
namespace Go.Proofs.YtkhgdbnicpldkaaDoor
open Go.RowKit

def OpPost (w : World) (s : L) (e : Ending) (w' : World) : Prop :=
  ∃ v1, e = .returned (.tuple #[v1, .int .i64 ((finR s).2 : Int)]) ∧ w'.ownsRow w.heap.size 27 2 v1 (finR s).1.length (recC (finR s).1) ∧ (finR s).2 ≤ s.length ∧ (finR s).1.length ≤ 60 ∧ Below w.heap.size w w'
theorem OpPost.mk_ {w w' : World} {s : L} {e : Ending} {v1 : Value} {rs : List (L × L)} {n m : Nat} (hR : finR s = (rs, n)) (hm : rs.length = m) (he : e = .returned (.tuple #[v1, .int .i64 (n : Int)])) (ho : w'.ownsRow w.heap.size 27 2 v1 m (recC rs)) (hn : n ≤ s.length) (h60 : m ≤ 60) (hb : Below w.heap.size w w') : OpPost w s e w' := by
  refine ⟨v1, ?_, ?_, ?_, ?_, hb⟩
  · rw [hR]; exact he
  · rw [hR, hm]; exact ho
  · rw [hR]; exact hn
  · rw [hR, hm]; exact h60

set_option maxHeartbeats 6400000 in
set_option maxRecDepth 100000 in
theorem l27Open_any (s : ByteArray) (hs : s.size ≤ 2000000) (w : World) :
    Calls Tryd.prog 47 #[.string s] w (OpPost w s.data.toList) := by
  have hs' : s.data.toList.length ≤ 2000000 := by rw [← size_data]; exact hs
  have HXD := Lib.hid (ext_drop s)
  have HSZ := Lib.hid (size_data s)
  obtain ⟨sl, hsl⟩ : ∃ l, s.data.toList = l := ⟨_, rfl⟩
  rw [hsl] at hs' HXD HSZ ⊢
  clear hsl
  have h0 : (w.alloc (.cells #[] 27)).ownsRow w.heap.size 27 2 (.slice (some ⟨w.heap.size, 0, none⟩) 0 0) 0 (recC []) :=
    World.ownsRow_lit (base := w.heap.size) (e := 27) (size := 2) w #[] 0 (Nat.le_refl _) (by simp) rfl
  have hb1 : Below w.heap.size w (w.alloc (.cells #[] 27)) := (Below.refl _ _).alloc (Nat.le_refl _) _
  go_enter Tryd.func47, Tryd.ntmps47
  go_wp2
  go_loopw [4, 5] (fun o a wr => ∃ (rs : List (L × L)) (n m : Nat), Hid (rs.length = m) ∧ m ≤ 60 ∧ n ≤ s.size ∧ a = .int .i64 n ∧ Hid (finR sl = goR sl (61 - m) rs n) ∧
      wr.ownsRow w.heap.size 27 2 o m (recC rs) ∧ Hid (Below w.heap.size w wr)) (fun _ a _ => s.size - (intOf a).toNat)
  case atStart => exact ⟨[], 0, 0, rfl, by omega, by omega, rfl, rfl, h0, hb1⟩
  case round =>
    obtain ⟨rs, n, m, HM, hm60, hn, rfl, HR, ho, HB⟩ := hrel
    obtain ⟨ao, co, rfl⟩ : ∃ a c, u4 = .slice a m c := by
      rcases ho.2 with ⟨h, h2⟩ | ⟨g, cap, cur, h, _⟩
      · exact ⟨none, 0, by rw [h, h2]⟩
      · exact ⟨_, _, h⟩
    have hsz : w.heap.size ≤ wr.heap.size := HB.out.size
    have HSTOP := Lib.hid (fun h : rdR (sl.drop n) m = none => HR.out.trans (goR_none (s := sl) (n := n) (o := rs) (f := 61 - m) (by rw [HM.out]; exact h)))
    have HNS := Lib.hid (show n ≤ sl.length from by rw [← HSZ.out]; exact hn)
    by_cases hlt : n < s.size
    case neg =>
      have hn0 : sl.drop n = [] := List.drop_eq_nil_of_le (by rw [← HSZ.out]; omega)
      have HF := Lib.hid (HSTOP.out (rd_no (.inl (by rw [hn0]; rfl))))
      have hltI : ¬ (n : Int) < (s.size : Int) := by omega
      have hd : decide ((n : Int) < (s.size : Int)) = false := by simpa using hlt
      clear hn0
      go_wp2
      go_ret2
      exact OpPost.mk_ HF.out HM.out rfl ho HNS.out hm60 HB.out
    have hltI : (n : Int) < (s.size : Int) := by omega
    by_cases hm6 : m < 60
    case neg =>
      have HF := Lib.hid (HSTOP.out (rd_no (.inr (.inl hm6))))
      have hmI : ¬ (m : Int) < 60 := by omega
      have hd : decide ((m : Int) < 60) = false := by simp; omega
      go_wp2
      go_ret2
      exact OpPost.mk_ HF.out HM.out rfl ho HNS.out hm60 HB.out
    have hmI : (m : Int) < 60 := by omega
    have hdm : decide ((m : Int) < 60) = true := by simp; omega
    have hdn : decide ((n : Int) < (s.size : Int)) = true := by simp; omega
    have hnI : (n : Int) ≤ (s.size : Int) := by omega
    have hSP := l1Split_any (mk (sl.drop n)) 10 (by rw [mk_size, List.length_drop]; omega) wr
    rw [data_mk] at hSP
    have HRS := Lib.hid (fun (q : L × L) (h : rdR (sl.drop n) m = some q) => HR.out.trans (show goR sl (61 - m) rs n = goR sl (61 - (m + 1)) (rs ++ [q]) (n + (bef 10 (sl.drop n)).length + 1) from by
      have := goR_some (s := sl) (n := n) (o := rs) (q := q) (by rw [HM.out]; exact hm6) (by rw [HM.out]; exact h)
      rw [List.length_append, HM.out] at this; exact this))
    have HHL := Lib.hid (fun h : hasB 10 (sl.drop n) = true => has_len h)
    have HNO := Lib.hid (fun h => rd_no (s := sl.drop n) (k := m) h)
    have HYES := Lib.hid (fun (q : L × L) (h : hasB 10 (sl.drop n) = true) (h2 : pI m (bef 10 (sl.drop n)) = some q) => (show rdR (sl.drop n) m = some q from by unfold rdR; rw [if_pos ⟨h, hm6⟩]; exact h2))
    have hbl := bef_len 10 (sl.drop n)
    rw [List.length_drop] at HHL hbl
    obtain ⟨ln, hln⟩ : ∃ l, bef 10 (sl.drop n) = l := ⟨_, rfl⟩
    rw [hln] at HRS HHL HYES hbl
    have HLN := Lib.hid hln
    have HNO2 := Lib.hid (fun h : pI m ln = none => HNO.out (.inr (.inr (by rw [HLN.out]; exact h))))
    have hRD := fun w => l27Read_any (mk ln) m (by rw [mk_size]; omega) (by omega) w
    rw [data_mk] at hRD
    have HRD := Lib.hid hRD
    obtain ⟨hb, hhb⟩ : ∃ b, hasB 10 (sl.drop n) = b := ⟨_, rfl⟩
    rw [hhb] at HHL HNO HYES
    have HHB := Lib.hid hhb
    clear hln hRD hhb
    go_wp2_with fail
    rw [HXD.out]
    refine hSP.mono ?_
    rintro e w2 ⟨g2, m2, cap2, rfl, h21, h22, h23, h24, h25, h26, h27, b2⟩
    have h2n : 1 ≤ (m2 : Int) := by omega
    rw [HLN.out] at h26
    rw [HHB.out] at h24
    have HNE : Hid (∀ k, Value.ownBlock (.slice ao m co) = some k → k ≠ g2) := fun k hk e => by have := (ho.lt k hk).2; omega
    have ho2 := row_below ho b2
    have hB2 := HB.out.trans (b2.mono hsz)
    clear hSP ho
    go_wp2_with fail
    refine (HRD.out _).mono ?_
    rintro e w3 ⟨b3, hpost⟩
    have ho3 := row_below ho2 b3
    have hB3 := hB2.trans (b3.mono hB2.size)
    have h36 : w3.cell? ⟨g2, 0, none⟩ = some (.string (mk ln)) := by rw [b3.cell (p := ⟨g2, 0, none⟩) h25]; exact h26
    have h35 : g2 < w3.heap.size := Nat.lt_of_lt_of_le h25 b3.size
    clear h26 h25 ho2 hB2 b2
    by_cases hmm : 2 ≤ m2
    case neg =>
      have hhf : hb = false := by
        cases hb
        · rfl
        · exact absurd (h24.2 rfl) hmm
      have HF := Lib.hid (HSTOP.out (HNO.out (.inl hhf)))
      have hm2I : (m2 : Int) < 2 := by omega
      have hm2d : decide ((m2 : Int) < 2) = true := by simp; omega
      clear hhf
      rcases hpost with ⟨c, r, _, rfl⟩ | ⟨_, x, y, rfl⟩
      · have hal : Below w3.heap.size w3 (w3.alloc (.cells #[.string (mk c), .string (mk r)] 27)) := (Below.refl _ _).alloc (Nat.le_refl _) _
        go_wp2
        go_ret2
        exact OpPost.mk_ HF.out HM.out rfl (row_below ho3 hal) HNS.out hm60 (hB3.alloc hB3.size _)
      · have hal : Below w3.heap.size w3 (w3.alloc (.cells #[.string x, .string y] 27)) := (Below.refl _ _).alloc (Nat.le_refl _) _
        go_wp2
        go_ret2
        exact OpPost.mk_ HF.out HM.out rfl (row_below ho3 hal) HNS.out hm60 (hB3.alloc hB3.size _)
    have hm2I : ¬ (m2 : Int) < 2 := by omega
    have hm2d : decide ((m2 : Int) < 2) = false := by simp; omega
    have hht : hb = true := h24.1 hmm
    rcases hpost with ⟨c, r, hpi, rfl⟩ | ⟨hpi, x, y, rfl⟩
    case inr =>
      have HF := Lib.hid (HSTOP.out (HNO2.out hpi))
      have hal : Below w3.heap.size w3 (w3.alloc (.cells #[.string x, .string y] 27)) := (Below.refl _ _).alloc (Nat.le_refl _) _
      go_wp2
      go_ret2
      exact OpPost.mk_ HF.out HM.out rfl (row_below ho3 hal) HNS.out hm60 (hB3.alloc hB3.size _)
    case inl =>
      have hbl2 := HHL.out hht
      have HF := Lib.hid (HRS.out (c, r) (HYES.out (c, r) hht hpi))
      have hbs : n + ln.length + 1 ≤ s.size := by have := HSZ.out; omega
      have hbsI : (n : Int) + (ln.length : Int) + 1 ≤ (s.size : Int) := by omega
      have HCA := Lib.hid (show ((n + ln.length + 1 : Nat) : Int) = (n : Int) + (ln.length : Int) + 1 by omega)
      have hal : Below w3.heap.size w3 (w3.alloc (.cells #[.string (mk c), .string (mk r)] 27)) := (Below.refl _ _).alloc (Nat.le_refl _) _
      have ho4 := row_below ho3 hal
      have hB4 := hB3.alloc hB3.size (.cells #[.string (mk c), .string (mk r)] 27)
      have hs4 := hB4.size
      have h46 : (w3.alloc (.cells #[.string (mk c), .string (mk r)] 27)).cell? ⟨g2, 0, none⟩ = some (.string (mk ln)) := by rw [hal.cell (p := ⟨g2, 0, none⟩) h35]; exact h36
      have HPC := Lib.hid (recC_snoc rs (c, r))
      clear hpi hbl2 hB3 ho3 hht h24
      go_wp2_with (at_builtin; refine wpList_pushCells rfl (.tmp 39) (.tmp 41) 48 rfl 27 (.agg #[.string ⟨#[]⟩, .string ⟨#[]⟩]) 2 32 Tryd.underlying48 Tryd.infoRec rfl (by omega) (by omega) w.heap.size _ m (recC rs) rfl ho4 #[.string (mk c), .string (mk r)] rfl (by simp [Value.oneCell']) rfl (by simp) (by omega) hs4 ?_; intro v5 w5 ho5 hg5; have hB5 := below_row hB4 ho4 hg5 (Nat.le_refl _) hs4; have h56 : w5.cell? ⟨g2, 0, none⟩ = some (.string (mk ln)) := (by rw [World.cell?_of_block (w := w3.alloc (.cells #[.string (mk c), .string (mk r)] 27)) (hg5.block g2 (by simp; omega) (fun e => HNE.out g2 e.symm rfl))]; exact h46))
      go_roundw
      case rel =>
        refine ⟨rs ++ [(c, r)], n + ln.length + 1, m + 1, ?_, by omega, by omega, ?_, HF.out, ?_, hB5⟩
        · show (rs ++ [(c, r)]).length = m + 1
          rw [List.length_append, HM.out]; rfl
        · rw [HCA.out]
        · rw [HPC.out]; exact ho5
      case measure => simp only [intOf]; omega
end Go.Proofs.YtkhgdbnicpldkaaDoor
