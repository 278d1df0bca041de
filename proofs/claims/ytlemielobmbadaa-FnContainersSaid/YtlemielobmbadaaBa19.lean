/- Joined: XEncP XEncW. -/
import Derived.Test.YtlemielobmbadaaFillW
import Derived.Laws.CopyOwn
namespace Go.Proofs.Ytlemielobmbadaa
open Go.RowKit

def ps0 : List Int := [0, 1, 2, 3]
theorem pl0 : Pl ps0 := ⟨by decide, by decide, by decide⟩
def blk0 (data : List Int) : List Int := [0, 0, 0, 0] ++ data
def datOk (data : List Int) : Bool := decide (data.length = 11) && symL data
def encL (data : List Int) : List Int := fillR (blk0 data) ps0
def encR (data : List Int) : List Int := if datOk data then encL data else []
theorem datOk_parts {data : List Int} (h : datOk data = true) : data.length = 11 ∧ symL data = true := by simpa [datOk] using h
theorem blk0_sym {data : List Int} (h : symL data = true) : symL (blk0 data) = true := by
  simp only [symL, blk0, List.all_append, Bool.and_eq_true] at *
  exact ⟨by decide, h⟩
theorem fin_congr {ps : List Int} (h : Pl ps) {u v : Vec} (hu : SymV u) (hv : SymV v) (e : Eq4 u v) : Eq4 (fin ps u) (fin ps v) := by
  obtain ⟨T, hT, hf, _⟩ := fin_lin h
  rw [hf u hu, hf v hv]
  exact hT.congr u v e
theorem solOk_congr {ps : List Int} (h : Pl ps) {u v : Vec} (hu : SymV u) (hv : SymV v) (e : Eq4 u v) : solOk ps u = solOk ps v := by
  have hc := fin_congr h hu hv e
  have key : solOk ps u = true ↔ solOk ps v = true := by
    rw [solOk_iff, solOk_iff]
    exact ⟨fun H j hj hl => by rw [← hc j hj]; exact H j hj hl, fun H j hj hl => by rw [hc j hj]; exact H j hj hl⟩
  cases e1 : solOk ps u <;> cases e2 : solOk ps v <;> simp_all
theorem sol_congr {ps : List Int} (h : Pl ps) {u v : Vec} (hu : SymV u) (hv : SymV v) (e : Eq4 u v) : sol ps u = sol ps v := by
  unfold sol
  apply List.map_congr_left
  intro i hi
  exact fin_congr h hu hv e i (by have := List.mem_range.1 hi; have := h.len; omega)
theorem solR_congr {ps : List Int} (h : Pl ps) {u v : Vec} (hu : SymV u) (hv : SymV v) (e : Eq4 u v) : solR ps u = solR ps v := by
  unfold solR; rw [solOk_congr h hu hv e, sol_congr h hu hv e]
/-- The syndromes, as solved is handed them. -/
theorem synV_wv (xs : List Int) : Eq4 (wv (synTo xs 0 xs.length) (synTo xs 1 xs.length) (synTo xs 2 xs.length) (synTo xs 3 xs.length)) (synV xs) := by
  intro j hj
  rcases j with _ | _ | _ | _ | j <;> first | rfl | omega
theorem synV_wv_sym {xs : List Int} (h : symL xs = true) : SymV (wv (synTo xs 0 xs.length) (synTo xs 1 xs.length) (synTo xs 2 xs.length) (synTo xs 3 xs.length)) :=
  wv_sym (synTo_bd h _ _) (synTo_bd h _ _) (synTo_bd h _ _) (synTo_bd h _ _)
theorem solR_syn {ps xs : List Int} (h : Pl ps) (hs : symL xs = true) :
    solR ps (wv (synTo xs 0 xs.length) (synTo xs 1 xs.length) (synTo xs 2 xs.length) (synTo xs 3 xs.length)) = solR ps (synV xs) ∧
    solOk ps (wv (synTo xs 0 xs.length) (synTo xs 1 xs.length) (synTo xs 2 xs.length) (synTo xs 3 xs.length)) = solOk ps (synV xs) :=
  ⟨solR_congr h (synV_wv_sym hs) (synV_sym hs) (synV_wv xs), solOk_congr h (synV_wv_sym hs) (synV_sym hs) (synV_wv xs)⟩

theorem solOk0 (want : Vec) : solOk ps0 want = true := solOk_iff.2 fun j hj hl => by simp [ps0] at hl; omega
theorem zto0 (data : List Int) : zto (blk0 data) ps0 4 = blk0 data := by simp [zto, blk0, ps0, pl]
theorem encL_eq (data : List Int) : encL data = solR ps0 (synV (blk0 data)) ++ data := by
  have hl : ps0.length = 4 := rfl
  unfold encL fillR fillOk solR
  rw [solOk0, if_pos rfl, solOk0, if_pos rfl, hl, zto0]
  simp [fto, blk0, ps0, pl, sol, List.range_succ]
theorem encL_len {data : List Int} (h : data.length = 11) : (encL data).length = 15 := by
  rw [encL_eq]; unfold solR; rw [solOk0, if_pos rfl]; simp [sol, ps0, h]
theorem encR_len (data : List Int) : (encR data).length ≤ 15 := by
  unfold encR; split
  · rename_i h; rw [encL_len (datOk_parts h).1]; omega
  · simp

end Go.Proofs.Ytlemielobmbadaa
namespace Go.Proofs.Ytlemielobmbadaa
open Go.RowKit

theorem rd_lit4 {w : World} (a b c d : Int) : Rd (w.alloc (.cells #[.int .i64 a, .int .i64 b, .int .i64 c, .int .i64 d] 3)) (.slice (some ⟨w.heap.size, 0, none⟩) 4 4) [a, b, c, d] :=
  Own.rd (base := w.heap.size) (.inr ⟨w.heap.size, 0, 4, _, rfl, Nat.le_refl _, ⟨_, heap_alloc_new w _⟩, by simp, by unfold maxLen; simp, by simp, rfl⟩)
theorem row_lit4 {w : World} (a b c d : Int) : (w.alloc (.cells #[.int .i64 a, .int .i64 b, .int .i64 c, .int .i64 d] 3)).ownsRow w.heap.size 3 1 (.slice (some ⟨w.heap.size, 0, none⟩) 4 4) 4 (ints [a, b, c, d]) :=
  World.ownsRow_lit (base := w.heap.size) (e := 3) (size := 1) w #[.int .i64 a, .int .i64 b, .int .i64 c, .int .i64 d] 4 (Nat.le_refl _) (by unfold maxLen; omega) rfl

set_option maxHeartbeats 1600000 in
set_option maxRecDepth 100000 in
theorem specEnc_any (v : Value) (xs : List Int) (w : World) (h : Rd w v xs) :
    Calls Try.prog 22 #[v] w fun e w' => ∃ v', e = .returned (.tuple #[v', .bool (datOk xs)]) ∧ Own w' w.heap.size v' (encR xs) ∧ Below w.heap.size w w' := by
  obtain ⟨a, cap, n, HX, rfl, _, hla, _⟩ := h.opn
  by_cases hn : n = 11
  · subst hn
    cases hs : symL xs
    · have hd : datOk xs = false := by simp [datOk, hs]
      have hR : encR xs = [] := by simp [encR, hd]
      rw [hR, hd]
      go_enter Try.func22, Try.ntmps22
      go_wp2_with (go_at_call 72; refine (l24Symbols_any _ xs _ h).mono ?_; rintro e w' ⟨rfl, rfl⟩)
      go_ret2
      exact ⟨_, rfl, empty_any, (Below.refl _ _).alloc (Nat.le_refl _) _⟩
    · have hd : datOk xs = true := by simp [datOk, hs, HX.out]
      have hR : encR xs = encL xs := by simp [encR, hd]
      rw [hR, hd]
      have hown0 := row_lit4 (w := w) 0 0 0 0
      have hb0 : Below w.heap.size w (w.alloc (.cells #[.int .i64 0, .int .i64 0, .int .i64 0, .int .i64 0] 3)) := (Below.refl _ _).alloc (Nat.le_refl _) _
      have hrd := h.belowAll hb0
      have HL := Lib.hid (show (blk0 xs).length = 15 from by simp [blk0, HX.out])
      have HS := Lib.hid (blk0_sym hs)
      go_enter Try.func22, Try.ntmps22
      go_wp2_with (first | (go_at_call 72; refine (l24Symbols_any _ xs _ h).mono ?_; rintro e w' ⟨rfl, rfl⟩) | (at_builtin; refine wpList_cat rfl (.tmp 16) (.tmp 17) 24 rfl Try.underlying24 Try.infoInt w.heap.size (.slice (some ⟨w.heap.size, 0, none⟩) 4 4) 4 [0, 0, 0, 0] rfl hown0 _ xs rfl hrd (by rw [HX.out]; omega) (by rw [HX.out]; omega) (by simp) ?_; intro v' w1 hown1 hgrow1))
      have hb1 : Below w.heap.size w w1 := hb0.grown hgrow1 (by simp) (fun k hk => by have e : w.heap.size = k := (by simpa [Value.ownBlock] using hk); omega)
      have hb2 : Below w.heap.size w (w1.alloc (.cells #[.int .i64 0, .int .i64 1, .int .i64 2, .int .i64 3] 3)) := hb1.alloc hb1.size _
      have hr1 : Rd (w1.alloc (.cells #[.int .i64 0, .int .i64 1, .int .i64 2, .int .i64 3] 3)) v' (blk0 xs) := (own_of_row hown1).rd.belowAll ((Below.refl _ _).alloc (Nat.le_refl _) _)
      refine (l24Fill_any _ _ (blk0 xs) ps0 _ hr1 (rd_lit4 0 1 2 3) HS.out HL.out pl0).mono ?_
      rintro e w2 ⟨v2, rfl, o2, b2⟩
      have hsz := hb2.size
      go_wp2
      go_ret2
      exact ⟨_, rfl, o2.mono hsz, hb2.trans (b2.mono hsz)⟩
  · have hne : ((n : Int) != 11) = true := by rw [bne_iff_ne]; omega
    have hd : datOk xs = false := by simp [datOk, HX.out, hn]
    have hR : encR xs = [] := by simp [encR, hd]
    rw [hR, hd]
    go_enter Try.func22, Try.ntmps22
    go_wp2
    go_ret2
    exact ⟨_, rfl, empty_any, (Below.refl _ _).alloc (Nat.le_refl _) _⟩

theorem info_size {P : Program} {t : TypeId} {z : Option Value} {s b : Nat} (h : (P.info? t).map (fun i => (i.zero, i.size, i.bytes)) = some (z, s, b)) : (P.info? t).map (·.size) = some s := by
  cases h2 : P.info? t <;> simp_all
def StopHere (p : Prop) : Prop := p
theorem StopHere.go {p : Prop} (h : StopHere p) : p := h
theorem ints_get {ys : List Int} {j : Nat} {v : Value} (h : (ints ys)[j]? = some v) : j < ys.length ∧ v = .int .i64 (ys[j]?.getD 0) := by
  have hj : j < ys.length := by
    have := (List.getElem?_eq_some_iff.1 h).1
    simpa using this
  refine ⟨hj, ?_⟩
  simp only [ints, List.getElem?_map, List.getElem?_eq_getElem hj, Option.map_some, Option.some.injEq] at h
  simp [List.getElem?_eq_getElem hj, h.symm]

theorem wpList_copyOwn {P : Program} {w : World} {ops : Array Oper} {rest : List Oper} {o : Oper} {a : Act} {Q : Exit → Act → World → Prop} (hgd : o.guard = none) (d s : Operand) (dT sT : TypeId)
    (ho : o.op = .call { callee := .builtin .copy, args := #[d, s], argTypes := #[dT, sT] }) (elem : TypeId) (hu : P.underlying dT = some (.slice elem)) (hsz : (P.info? elem).map (·.size) = some 1)
    (base : Nat) (vd vs : Value) (xs ys : List Int) (hd : a.eval d = vd) (hs : a.eval s = vs) (hO : Own w base vd xs) (hR : Rd w vs ys) (hl : ys.length ≤ xs.length)
    (h : ∀ w', Own w' base vd (ys ++ xs.drop ys.length) → Below base w w' → wpList P ops Q rest (a.put o.dst (goInt ys.length)) w') :
    wpList P ops Q (o :: rest) a w := by
  obtain ⟨ap, cp, hv, h1, h2, h3⟩ := hR.shape
  subst hv
  by_cases h0 : ys.length = 0
  · have hy := List.eq_nil_of_length_eq_zero h0
    subst hy
    obtain ⟨dp, dc, hv, _⟩ := hO.rd.shape
    subst hv
    refine wpList_copy_nothing hgd d s dT sT ho elem hu hsz dp ap _ _ _ _ hd hs (by simp) ?_
    exact h w (by simpa using hO) (Below.refl _ _)
  · obtain ⟨b, off, rfl, hb, hc⟩ := h3 (by omega)
    rcases hO with ⟨rfl, rfl⟩ | ⟨g, off', cap, cur, rfl, hbg, ⟨T, hg⟩, k1, k2, k3, k4⟩
    · simp only [List.length_nil] at hl; omega
    · refine wpList_copy_own hgd d s dT sT ho elem hu hsz g off' _ _ _ _ _ hd hs cur T hg (ints ys) (by rw [show (ints ys).length = ys.length by simp]; exact (Nat.min_eq_left hl).symm) ?_ (by simp; omega) ?_ ?_
      · intro j v hj
        obtain ⟨hj', rfl⟩ := ints_get hj
        rw [show (⟨b, off, none⟩ : Addr).add j = ⟨b, off + j, none⟩ by simp [Addr.add]]; exact hc j hj'
      · intro v hv
        simp only [ints, List.mem_map] at hv
        obtain ⟨x, _, rfl⟩ := hv
        rfl
      · rw [show (ints ys).length = ys.length by simp]
        refine h _ (.inr ⟨g, off', cap, _, by rw [show (ys ++ xs.drop ys.length).length = xs.length by simp; omega], hbg, ⟨T, setRow_heap w g _ _ _ _ hg⟩, by simp; omega, k2, by simp; omega, ?_⟩) (below_setRow (Below.refl _ _) hbg _)
        have e1 : ints (ys ++ xs.drop ys.length) = ints ys ++ (ints xs).drop ys.length := by simp [ints, List.map_drop]
        have e2 : ((List.take off' cur.toList ++ (ints ys ++ List.drop (off' + ys.length) cur.toList)).toArray.toList.drop off') = ints ys ++ List.drop (off' + ys.length) cur.toList := by
          rw [List.drop_append]
          have : (List.take off' cur.toList).length = off' := by simp; omega
          simp [this]
        have e3 : (ys ++ xs.drop ys.length).length = (ints ys).length + (xs.length - ys.length) := by simp
        rw [e2, e1, e3, List.take_length_add_append, ← k4]
        congr 1
        rw [List.drop_take, List.drop_drop]

set_option maxHeartbeats 1600000 in
set_option maxRecDepth 100000 in
theorem encoded_any (v : Value) (xs : List Int) (w : World) (h : Rd w v xs) (hl : xs.length = 11) (hs : symL xs = true) :
    Calls Try.prog 70 #[v] w fun e w' => ∃ v', e = .returned v' ∧ Own w' w.heap.size v' (encL xs) ∧ Below w.heap.size w w' := by
  have hown0 : (w.alloc (.cells (zer 4) 3)).ownsRow w.heap.size 3 1 (.slice (some ⟨w.heap.size, 0, none⟩) 4 4) 4 (ints [0, 0, 0, 0]) :=
    World.ownsRow_lit (base := w.heap.size) (e := 3) (size := 1) w (zer 4) 4 (Nat.le_refl _) (by unfold maxLen; omega) rfl
  have hb0 : Below w.heap.size w (w.alloc (.cells (zer 4) 3)) := (Below.refl _ _).alloc (Nat.le_refl _) _
  have hrd := h.belowAll hb0
  have HL := Lib.hid (show (blk0 xs).length = 15 from by simp [blk0, hl])
  have HS := Lib.hid (blk0_sym hs)
  have HE := Lib.hid (encL_eq xs)
  have hmk := zmk4
  have HL11 := Lib.hid hl
  obtain ⟨a, cap, n, HX, rfl, _, hla, _⟩ := h.opn
  clear hl hs h
  go_enter Try.func70, Try.ntmps70
  go_wp2_with (at_builtin; refine wpList_cat rfl (.tmp 6) (.tmp 7) 24 rfl Try.underlying24 Try.infoInt w.heap.size (.slice (some ⟨w.heap.size, 0, none⟩) 4 4) 4 [0, 0, 0, 0] rfl hown0 _ xs rfl hrd (by rw [HL11.out]; omega) (by rw [HL11.out]; omega) (by simp) ?_; intro v' w1 hown1 hgrow1)
  have hb1 : Below w.heap.size w w1 := hb0.grown hgrow1 (by simp) (fun k hk => by have e : w.heap.size = k := (by simpa [Value.ownBlock] using hk); omega)
  have hb2 : Below w.heap.size w (w1.alloc (.cells #[.int .i64 0, .int .i64 1, .int .i64 2, .int .i64 3] 3)) := hb1.alloc hb1.size _
  have ho1 : Own (w1.alloc (.cells #[.int .i64 0, .int .i64 1, .int .i64 2, .int .i64 3] 3)) w.heap.size v' (blk0 xs) := (own_of_row hown1).belowAll ((Below.refl _ _).alloc (Nat.le_refl _) _)
  refine (iSyn_any _ _ _ ho1.rd HS.out (by rw [HL.out]; omega)).mono ?_
  rintro e w2 ⟨rfl, b2⟩
  have hsz2 := b2.size
  have hr2 : Rd w2 (.slice (some ⟨w1.heap.size, 0, none⟩) 4 4) ps0 := (rd_lit4 0 1 2 3).belowAll b2
  have ho2 := ho1.belowAll b2
  go_wp2_with (first | (go_at_call 78; refine (solved_any _ ps0 _ _ _ _ _ hr2 pl0 (synTo_bd HS.out _ _) (synTo_bd HS.out _ _) (synTo_bd HS.out _ _) (synTo_bd HS.out _ _)).mono ?_; rintro e w3 ⟨v3, rfl, o3, b3⟩) | ((with_reducible show wpList _ _ _ (⟨some 18, _, _, _, _, _⟩ :: _) _ _); refine StopHere.go ?_))
  have ho3 := ho2.belowAll b3
  have hR3 : (solR ps0 (wv (synTo (blk0 xs) 0 (blk0 xs).length) (synTo (blk0 xs) 1 (blk0 xs).length) (synTo (blk0 xs) 2 (blk0 xs).length) (synTo (blk0 xs) 3 (blk0 xs).length))).length = 4 := (by unfold solR; rw [solOk0, if_pos rfl]; simp [sol, ps0])
  unfold StopHere
  refine wpList_copyOwn rfl (.tmp 16) (.tmp 17) 24 24 rfl 3 Try.underlying24 (info_size Try.infoInt) w.heap.size v' v3 (blk0 xs) _ rfl rfl ho3 o3.rd (by rw [hR3, HL.out]; omega) ?_
  intro w4 o4 b4
  go_wp2
  go_ret
  have h4 : w.heap.size ≤ w2.heap.size := by have := hb2.size; omega
  have hB2 := hb2.trans (b2.mono hb2.size)
  have hB3 := hB2.trans (b3.mono hB2.size)
  refine ⟨_, rfl, ?_, hB3.trans b4⟩
  rw [HE.out]
  rw [hR3, (solR_syn pl0 HS.out).1] at o4
  exact o4

set_option maxHeartbeats 1600000 in
set_option maxRecDepth 100000 in
theorem implEnc_any (v : Value) (xs : List Int) (w : World) (h : Rd w v xs) :
    Calls Try.prog 21 #[v] w fun e w' => ∃ v', e = .returned (.tuple #[v', .bool (datOk xs)]) ∧ Own w' w.heap.size v' (encR xs) ∧ Below w.heap.size w w' := by
  obtain ⟨a, cap, n, HX, rfl, _, hla, _⟩ := h.opn
  by_cases hn : n = 11
  · subst hn
    cases hs : symL xs
    · have hd : datOk xs = false := by simp [datOk, hs]
      have hR : encR xs = [] := by simp [encR, hd]
      rw [hR, hd]
      go_enter Try.func21, Try.ntmps21
      go_wp2_with (go_at_call 69; refine (areSymbols_any _ xs _ h).mono ?_; rintro e w' ⟨rfl, rfl⟩)
      go_ret2
      exact ⟨_, rfl, own_nil, Below.refl _ _⟩
    · have hd : datOk xs = true := by simp [datOk, hs, HX.out]
      have hR : encR xs = encL xs := by simp [encR, hd]
      rw [hR, hd]
      go_enter Try.func21, Try.ntmps21
      go_wp2_with (first | (go_at_call 69; refine (areSymbols_any _ xs _ h).mono ?_; rintro e w' ⟨rfl, rfl⟩) | (go_at_call 70; refine (encoded_any _ xs _ h HX.out hs).mono ?_; rintro e w2 ⟨v2, rfl, o2, b2⟩))
      go_ret2
      exact ⟨_, rfl, o2, b2⟩
  · have hne : ((n : Int) != 11) = true := by rw [bne_iff_ne]; omega
    have hd : datOk xs = false := by simp [datOk, HX.out, hn]
    have hR : encR xs = [] := by simp [encR, hd]
    rw [hR, hd]
    go_enter Try.func21, Try.ntmps21
    go_wp2
    go_ret2
    exact ⟨_, rfl, own_nil, Below.refl _ _⟩
end Go.Proofs.Ytlemielobmbadaa
