/- Walks: the program's records of a log. -/
import Derived.Test.YtkhgdbnicpldkaaDoorLogW
namespace Go.Proofs.YtkhgdbnicpldkaaDoor
open Go.RowKit

/-- A list of records, as cells; the places where records end, as cells. -/
def recC (o : List (L × L)) : List Value := o.flatMap fun q => [.string (mk q.1), .string (mk q.2)]
theorem recC_snoc (o : List (L × L)) (q : L × L) : recC (o ++ [q]) = recC o ++ [.string (mk q.1), .string (mk q.2)] := by simp [recC]
/-- The places where the records end: the same reading, once more. -/
def goE (s : L) : Nat → List (L × L) → Nat → List Int → List Int
  | 0, _, _, e => e
  | f + 1, o, n, e => match rdR (s.drop n) o.length with
    | some q => goE s f (o ++ [q]) (n + (bef 10 (s.drop n)).length + 1) (e ++ [((n + (bef 10 (s.drop n)).length + 1 : Nat) : Int)])
    | none => e
def finE (s : L) : List Int := goE s 61 [] 0 [0]
theorem goE_none {s : L} {f n : Nat} {o : List (L × L)} {e : List Int} (h : rdR (s.drop n) o.length = none) : goE s f o n e = e := by
  cases f with
  | zero => rfl
  | succ f => rw [goE, h]
theorem goE_some {s : L} {n : Nat} {o : List (L × L)} {e : List Int} {q : L × L} (hl : o.length < 60) (h : rdR (s.drop n) o.length = some q) :
    goE s (61 - o.length) o n e = goE s (61 - (o ++ [q]).length) (o ++ [q]) (n + (bef 10 (s.drop n)).length + 1) (e ++ [((n + (bef 10 (s.drop n)).length + 1 : Nat) : Int)]) := by
  rw [List.length_append, show 61 - o.length = (61 - (o.length + [q].length)) + 1 by simp; omega, goE, h]

def RrPost (w : World) (s : L) (e : Ending) (w' : World) : Prop :=
  ∃ v1 v2, e = .returned (.tuple #[v1, v2]) ∧ w'.ownsRow w.heap.size 27 2 v1 (finR s).1.length (recC (finR s).1) ∧ w'.ownsRow w.heap.size 3 1 v2 (finE s).length (ints (finE s)) ∧
    (finE s).length = (finR s).1.length + 1 ∧ (finE s)[(finR s).1.length]?.getD 0 = ((finR s).2 : Int) ∧ (finR s).2 ≤ s.length ∧ (finR s).1.length ≤ 60 ∧ Below w.heap.size w w'
theorem recC_len (o : List (L × L)) : (recC o).length = o.length * 2 := by
  induction o with
  | nil => rfl
  | cons q o ih => simp only [recC, List.flatMap_cons, List.length_append] at *; rw [ih]; simp; omega

set_option maxHeartbeats 3200000 in
set_option maxRecDepth 100000 in
theorem readRecords_any (s : ByteArray) (hs : s.size ≤ 4294960000) (w : World) (ht : TabOk w) (hm : MaxOk w) :
    Calls Tryd.prog 48 #[.string s] w (RrPost w s.data.toList) := by
  have hs' : s.data.toList.length ≤ 4294960000 := by rw [← size_data]; exact hs
  have HMW := Lib.hid (fun w' (hb : Below w.heap.size w w') => hm.below hb)
  have HTW := Lib.hid (fun w' (hb : Below w.heap.size w w') => ht.below hb)
  have HXD := Lib.hid (ext_drop s)
  have HSZ := Lib.hid (size_data s)
  obtain ⟨sl, hsl⟩ : ∃ l, s.data.toList = l := ⟨_, rfl⟩
  rw [hsl] at hs' HXD HSZ ⊢
  clear ht hm hsl
  have h0 : (w.alloc (.cells #[] 27)).ownsRow w.heap.size 27 2 (.slice (some ⟨w.heap.size, 0, none⟩) 0 0) 0 (recC []) :=
    World.ownsRow_lit (base := w.heap.size) (e := 27) (size := 2) w #[] 0 (Nat.le_refl _) (by simp) rfl
  have hb1 : Below w.heap.size w (w.alloc (.cells #[] 27)) := (Below.refl _ _).alloc (Nat.le_refl _) _
  have hsz1 : (w.alloc (.cells #[] 27)).heap.size = w.heap.size + 1 := by simp
  have h1 : ((w.alloc (.cells #[] 27)).alloc (.cells #[.int .i64 0] 3)).ownsRow w.heap.size 3 1 (.slice (some ⟨(w.alloc (.cells #[] 27)).heap.size, 0, none⟩) 1 1) 1 (ints [0]) :=
    World.ownsRow_lit (base := w.heap.size) (e := 3) (size := 1) (w.alloc (.cells #[] 27)) #[.int .i64 0] 1 hb1.size (by unfold maxLen; omega) rfl
  rw [hsz1] at h1
  have h0' := row_below h0 ((Below.refl _ _).alloc (Nat.le_refl _) (.cells #[.int .i64 0] 3))
  have hb2 : Below w.heap.size w ((w.alloc (.cells #[] 27)).alloc (.cells #[.int .i64 0] 3)) := hb1.alloc hb1.size _
  go_enter Tryd.func48, Tryd.ntmps48
  go_wp2
  go_loopw [4, 5, 6] (fun o e a wr => ∃ (rs : List (L × L)) (n m : Nat) (es : List Int), Hid (rs.length = m) ∧ m ≤ 60 ∧ n ≤ s.size ∧ a = .int .i64 n ∧ Hid (finR sl = goR sl (61 - m) rs n) ∧ Hid (finE sl = goE sl (61 - m) rs n es) ∧ Hid (es.length = m + 1) ∧ Hid (es[m]?.getD 0 = (n : Int)) ∧
      wr.ownsRow w.heap.size 27 2 o m (recC rs) ∧ wr.ownsRow w.heap.size 3 1 e (m + 1) (ints es) ∧ Hid (Below w.heap.size w wr)) (fun _ _ a _ => s.size - (intOf a).toNat)
  case atStart => exact ⟨[], 0, 0, [0], rfl, by omega, by omega, rfl, rfl, rfl, rfl, rfl, h0', h1, hb2⟩
  case round =>
    obtain ⟨rs, n, m, es, HM, hm60, hn, rfl, HR, HE, HEL, HEN, ho, he, HB⟩ := hrel
    have hlt := ho.lt
    obtain ⟨ao, co, rfl⟩ : ∃ a c, u4 = .slice a m c := by
      rcases ho.2 with ⟨h, h2⟩ | ⟨g, cap, cur, h, _⟩
      · exact ⟨none, 0, by rw [h, h2]⟩
      · exact ⟨_, _, h⟩
    have hsz : w.heap.size ≤ wr.heap.size := HB.out.size
    have hnI : (n : Int) ≤ (s.size : Int) := by omega
    have hRD := readRecord_any (s.extract n s.size) m (by rw [HXD.out, mk_size, List.length_drop]; omega) (by omega) wr (HTW.out _ HB.out) (HMW.out _ HB.out)
    rw [HXD.out, data_mk] at hRD
    have HBL := Lib.hid (fun h : hasB 10 (sl.drop n) = true => has_len h)
    go_wp2_with fail
    rw [HXD.out]
    refine hRD.mono ?_
    rintro e w2 ⟨b2, (⟨c, r, hr, rfl⟩ | ⟨hr, x, y, rfl⟩)⟩
    · obtain ⟨hhas, hm6⟩ := rdR_has hr
      have hbl := HBL.out hhas
      rw [List.length_drop] at hbl
      have HG := Lib.hid (goR_some (s := sl) (n := n) (o := rs) (q := (c, r)) (by rw [HM.out]; exact hm6) (by rw [HM.out]; exact hr))
      have HG2 := Lib.hid (goE_some (s := sl) (n := n) (o := rs) (e := es) (q := (c, r)) (by rw [HM.out]; exact hm6) (by rw [HM.out]; exact hr))
      rw [List.length_append, HM.out] at HG HG2
      generalize (bef 10 (sl.drop n)).length = bl at *
      have hbs : n + bl + 1 ≤ s.size := by have := HSZ.out; omega
      have hbsI : (n : Int) + ((bl : Int) + 1) ≤ (s.size : Int) := by omega
      have hcast : ((n + bl + 1 : Nat) : Int) = (n : Int) + ((bl : Int) + 1) := by omega
      rw [hcast] at HG2
      have HCA := Lib.hid hcast
      have ho2 := row_below ho b2
      have he2 := row_below he b2
      have hB2 := HB.out.trans (b2.mono hsz)
      have hs2 := hB2.size
      have hal : Below w2.heap.size w2 (w2.alloc (.cells #[.string (mk c), .string (mk r)] 27)) := (Below.refl _ _).alloc (Nat.le_refl _) _
      have ho3 := row_below ho2 hal
      have he3 := row_below he2 hal
      have hB3 := hB2.alloc hs2 (.cells #[.string (mk c), .string (mk r)] 27)
      have hs3 := hB3.size
      have he4 := row_below he3 ((Below.refl _ _).alloc (Nat.le_refl _) (.cells #[.string (mk c), .string (mk r)] 27))
      have HPC := Lib.hid (recC_snoc rs (c, r))
      clear hr hhas hbl hRD ho he ho2 he2 hB2 hs2 b2 hcast
      go_wp2_with (first
        | (at_builtin; refine wpList_pushCells rfl (.tmp 29) (.tmp 31) 48 rfl 27 (.agg #[.string ⟨#[]⟩, .string ⟨#[]⟩]) 2 32 Tryd.underlying48 Tryd.infoRec rfl (by omega) (by omega) w.heap.size _ m (recC rs) rfl ho3 #[.string (mk c), .string (mk r)] rfl (by simp [Value.oneCell']) rfl (by simp) (by omega) hs3 ?_; intro v5 w5 ho5 hg5; have hB5 := below_row hB3 ho3 hg5 (Nat.le_refl _) hs3; have he5 := row_kept he3 (fun k hk => hg5.block k (he3.lt k hk).2 (fun e => row_ne (by decide) he3 ho3 k hk e.symm)); have hs5 := hB5.size)
        | (at_builtin; refine wpList_push rfl (.tmp 33) (.tmp 35) 66 rfl Tryd.underlying66 Tryd.infoInt w.heap.size _ (m + 1) es rfl he5 rfl (by omega) hs5 ?_; intro v6 w6 he6 hg6; have hB6 := below_row hB5 he5 hg6 (Nat.le_refl _) hs5; have ho6 := row_kept ho5 (fun k hk => hg6.block k (ho5.lt k hk).2 (fun e => row_ne (by decide) ho5 he5 k hk e.symm))))
      go_roundw
      case rel =>
        refine ⟨rs ++ [(c, r)], n + bl + 1, m + 1, es ++ [(n : Int) + ((bl : Int) + 1)], ?_, by omega, by omega, ?_, ?_, ?_, ?_, ?_, ?_, ?_, hB6⟩
        · show (rs ++ [(c, r)]).length = m + 1
          rw [List.length_append, HM.out]; rfl
        · rw [HCA.out]
        · exact HR.out.trans HG.out
        · exact HE.out.trans HG2.out
        · show (es ++ [(n : Int) + ((bl : Int) + 1)]).length = m + 1 + 1
          rw [List.length_append, HEL.out]; rfl
        · show (es ++ [(n : Int) + ((bl : Int) + 1)])[m + 1]?.getD 0 = ((n + bl + 1 : Nat) : Int)
          rw [List.getElem?_append_right (by rw [HEL.out]; exact Nat.le_refl _), HEL.out, HCA.out]
          simp
        · rw [HPC.out]; exact ho6
        · exact he6
      case measure => simp only [intOf]; omega
    · have HG := Lib.hid (HR.out.trans (goR_none (s := sl) (n := n) (o := rs) (f := 61 - m) (by rw [HM.out]; exact hr)))
      have HG2 := Lib.hid (HE.out.trans (goE_none (s := sl) (n := n) (o := rs) (e := es) (f := 61 - m) (by rw [HM.out]; exact hr)))
      have ho2 := Lib.hid (row_below ho b2)
      have he2 := Lib.hid (row_below he b2)
      have hB2 := Lib.hid (HB.out.trans (b2.mono hsz))
      have hal : Below w2.heap.size w2 (w2.alloc (.cells #[.string x, .string y] 27)) := (Below.refl _ _).alloc (Nat.le_refl _) _
      clear hr hRD ho he b2
      go_wp2
      go_ret2
      refine ⟨_, _, rfl, ?_, ?_, ?_, ?_, ?_, ?_, hB2.out.alloc hB2.out.size _⟩
      · rw [HG.out, HM.out]; exact row_below ho2.out hal
      · rw [HG2.out, HEL.out]; exact row_below he2.out hal
      · rw [HG.out, HG2.out, HM.out, HEL.out]
      · rw [HG.out, HG2.out, HM.out]; exact HEN.out
      · rw [HG.out]; have := HSZ.out; show n ≤ sl.length; omega
      · rw [HG.out, HM.out]; exact hm60
end Go.Proofs.YtkhgdbnicpldkaaDoor
