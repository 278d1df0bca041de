/- Walks: a received block drawn. -/
import Derived.ArgAppend
import Derived.Deep.CutRange
import Derived.Test.YtlemielobmbadaaBa39
namespace Go.Proofs.Ytlemielobmbadaa
open Go.RowKit
set_option maxRecDepth 100000

theorem Own.cs {w1 w2 : World} {base B K : Nat} {c v : Value} {xs : List Int} (h : Own w1 base v xs) (hB : B < base) (hc : CS w1 B c K w2) : Own w2 base v xs := by
  rcases h with h | ⟨g, off, cap, cur, hv, hb, ⟨T, hg⟩, h1⟩
  · exact .inl h
  · exact .inr ⟨g, off, cap, cur, hv, hb, ⟨T, hc.blk hg (by omega)⟩, h1⟩
theorem Own.pushed {w : World} {base : Nat} {v : Value} {xs : List Int} {g off n cap : Nat} (h : Own w base v xs) (hv : v = .slice (some ⟨g, off, none⟩) n cap) (hc : n + 1 ≤ cap) (u : Int) :
    Own (w.setCell ⟨g, off + n, none⟩ (.int .i64 u)) base (.slice (some ⟨g, off, none⟩) (n + 1) cap) (xs ++ [u]) ∧ w.grownBy (w.setCell ⟨g, off + n, none⟩ (.int .i64 u)) (some g) := by
  rcases h with ⟨rfl, rfl⟩ | ⟨g', off', cap', cur, hv', hb, ⟨T, hg⟩, h1, h2, h3, h4⟩
  · simp at hv
  · rw [hv'] at hv
    simp only [Value.slice.injEq, Option.some.injEq, Addr.mk.injEq, and_true] at hv
    obtain ⟨⟨rfl, rfl⟩, rfl, rfl⟩ := hv
    refine ⟨.inr ⟨g', off', cap', cur.setIfInBounds (off' + xs.length) (.int .i64 u), by simp, hb, ⟨T, heap_setCell_same w g' (off' + xs.length) cur _ _ hg⟩, by simpa using hc, h2, by simpa using h3, ?_⟩,
      ⟨rfl, rfl, rfl, by simp, fun k _ hk => heap_setCell_other w ⟨g', off' + xs.length, none⟩ k _ (fun e => hk (by simp [e]))⟩⟩
    have hlt : xs.length < (cur.toList.drop off').length := by simp; omega
    rw [Array.toList_setIfInBounds, List.length_append]
    show List.take (xs.length + 1) (List.drop off' (cur.toList.set (off' + xs.length) (.int .i64 u))) = (xs ++ [u]).map (Value.int .i64)
    rw [List.map_append]
    show _ = ints xs ++ [Value.int .i64 u]
    rw [← h4, List.drop_set, if_neg (by omega), Nat.add_sub_cancel_left, List.take_add_one, List.getElem?_set_self hlt, List.take_set, List.set_eq_of_length_le (by simp; omega)]
    rfl
theorem wpList_pushOwn {P : Program} {ops : Array Oper} {rest : List Oper} {o : Oper} {a : Act} {Q : Exit → Act → World → Prop} {wr : World} {y : Int} (hgd : o.guard = none) (s x : Operand) (T : TypeId)
    (ho : o.op = .call { callee := .builtin .append, args := #[s, x], argTypes := #[T, T] }) (ht : P.underlying T = some (.slice 3))
    (hinfo : (P.info? 3).map (fun i => (i.zero, i.size, i.bytes)) = some (some (.int .i64 0), 1, 8))
    (base : Nat) (g f n cap : Nat) (xs : List Int) (hs : a.eval s = .slice (some ⟨g, f, none⟩) n cap) (hown : Own wr base (.slice (some ⟨g, f, none⟩) n cap) xs)
    (hx : a.eval x = .slice (some ⟨wr.heap.size, 0, none⟩) 1 1) (hn : n ≤ 1000000) (hbase : base ≤ wr.heap.size)
    (h : ∀ v' w', Own w' base v' (xs ++ [y]) → wr.grownBy w' (some g) → wpList P ops Q rest (a.put o.dst v') w') :
    wpList P ops Q (o :: rest) a (wr.alloc (.cells #[.int .i64 y] 3)) := by
  obtain ⟨i0, hi, hz0, hz1, hz2⟩ := info_parts hinfo
  have hba : Below wr.heap.size wr (wr.alloc (.cells #[.int .i64 y] 3)) := (Below.refl _ _).alloc (Nat.le_refl _) _
  have ho2 := hown.belowAll hba
  obtain ⟨hl, hc⟩ := ho2.cellAt rfl
  have hg0 : wr.grownBy (wr.alloc (.cells #[.int .i64 y] 3)) (some g) := ⟨hba.os, hba.tape, hba.output, hba.size, fun k hk _ => hba.block k hk⟩
  refine wpList_append_arg _ hgd s x T ho 3 i0 (.int .i64 0) 1 8 ht hi hz0 hz1 hz2 rfl (by decide) g f n cap (ints xs) hs (by simp [hl]) ?_ ⟨wr.heap.size, 0, none⟩ 1 1 [.int .i64 y] hx rfl ?_ ?_ ?_ (by unfold maxLen; omega) (by omega) ?_ ?_
  · intro j u hu
    have hj : j < xs.length := by have := (List.getElem?_eq_some_iff.1 hu).1; simpa using this
    rw [hc j hj, ← hu]
    simp [hj]
  · intro j u hu
    rcases j with _ | j
    · simp at hu; subst hu
      simp [Addr.add, World.cell?_alloc_at]
    · simp at hu
  · intro u hu
    simp at hu; subst hu; rfl
  · intro hr j hj
    obtain rfl : j = 0 := by simpa using hj
    have hst := (ho2.pushed rfl (by omega) 0)
    refine ⟨?_, ?_⟩
    · rcases ho2 with ⟨hv, _⟩ | ⟨g', off', cap', cur, hv', hb, ⟨T', hg⟩, h1, h2, h3, h4⟩
      · simp at hv
      · simp only [Value.slice.injEq, Option.some.injEq, Addr.mk.injEq, and_true] at hv'
        obtain ⟨⟨rfl, rfl⟩, rfl, rfl⟩ := hv'
        rw [cell_of_row _ _ _ _ _ _ hg]
        simp; omega
    · exact ho2.frozenAt rfl _
  · intro hr
    have hst := (ho2.pushed rfl (by omega) y)
    rw [show f + n * 1 = f + n from by omega]
    exact h _ _ hst.1 (hg0.trans' hst.2)
  · intro hr v' w' h1 h2
    refine h v' w' ?_ (hg0.trans' ⟨h2.os, h2.tape, h2.output, h2.size, fun k hk _ => h2.block k hk (by simp)⟩)
    have h3 : w'.ownsRow (wr.alloc (.cells #[.int .i64 y] 3)).heap.size 3 1 v' (n + 1) (ints (xs ++ [y])) := by simpa [ints] using h1
    exact (own_of_row h3).mono (by simp; omega)

def RecP (w : World) (B : Nat) (c : Value) (K : Nat) (e : Ending) (w' : World) : Prop := ∃ (v : Value) (xs : List Int), e = .returned v ∧ xs.length ≤ 16 ∧ Own w' w.heap.size v xs ∧ CS w B c (K + 200) w'
/-- One symbol of the block turned: the state behind it. -/
def Blk15 (w : World) (B : Nat) (c v : Value) (K : Nat) (w' : World) : Prop := ∃ l : List Int, l.length = 15 ∧ Own w' w.heap.size v l ∧ CS w B c K w'
set_option maxHeartbeats 3200000 in
theorem receivedC (B : Nat) (c : Value) (K : Nat) (w : World) (h : Cs w B c K) (hk : K ≤ 1000000) :
    Calls Try.prog 119 #[.pointer (some ⟨B, 0, none⟩)] w (RecP w B c K) := by
  have hlB := h.lt.1
  go_enter Try.func119, Try.ntmps119
  go_wp2_with fail
  refine (symbolsC B c K 11 _ h (by omega) (by omega)).mono ?_
  rintro e w1 ⟨v1, xs, rfl, hl1, o1, c1⟩
  go_wp2_with fail
  refine (specEnc_any v1 xs _ o1.rd).mono ?_
  rintro e w2 ⟨v2, rfl, o2, b2⟩
  have C2 := Lib.hid (c1.below b2)
  have O2 := Lib.hid (o2.mono c1.size)
  have HL := Lib.hid (fun hd : datOk xs = true => (show (encR xs).length = 15 from by
    obtain ⟨p1, p2⟩ := datOk_parts hd
    have := (enc_cw p1 p2).len
    rw [show encR xs = encL xs from by unfold encR; rw [hd, if_pos rfl]]; exact this))
  clear h c1 b2 o1 o2 hl1
  generalize encR xs = l0 at *
  generalize hdk : datOk xs = ok at *
  clear hdk
  cases ok
  · go_wp2_with fail
    refine (symbolsC B c _ 15 _ C2.out.st (by omega) (by omega)).mono ?_
    rintro e w3 ⟨v3, ys, rfl, hl3, o3, c3⟩
    have C3 := Lib.hid (C2.out.call c3)
    have O3 := Lib.hid (o3.mono C2.out.size)
    clear c3 o3
    go_wp2
    go_ret
    exact ⟨_, ys, rfl, by omega, O3.out, C3.out.mono (by omega)⟩
  obtain ⟨g, f, cap, rfl, hg1, hg2, hcap, hcap2⟩ := O2.out.open15 (HL.out rfl)
  have L2 := Lib.hid (HL.out rfl)
  have C3 := C2.out.alloc (.cells #[.int .i64 0, .int .i64 1, .int .i64 1, .int .i64 2, .int .i64 2, .int .i64 2, .int .i64 3, .int .i64 4] 3)
  have O3 := Lib.hid (O2.out.belowAll (((Below.refl _ _).alloc (Nat.le_refl _) _ : Below w2.heap.size w2 (w2.alloc (.cells #[.int .i64 0, .int .i64 1, .int .i64 1, .int .i64 2, .int .i64 2, .int .i64 2, .int .i64 3, .int .i64 4] 3)))))
  have hs2 := C2.out.size
  clear HL
  go_wp2_with fail
  refine (amongC B c _ w2.heap.size 8 8 0 4 _ C3.st (by omega) (by omega) (by omega) (by omega) (lit8_row (by simp) rfl)).mono ?_
  rintro e w4 ⟨x, x0, x1, rfl, c4, -⟩
  obtain ⟨x, rfl⟩ := Int.eq_ofNat_of_zero_le x0
  have O4 := O3.out.cs hlB c4
  have S4 : Hid (Blk15 w B c (.slice (some ⟨g, f, none⟩) 15 cap) (K + 40) w4) := ⟨_, L2.out, O4, (C3.call c4).mono (by omega)⟩
  clear c4 O4 O3 C3 C2 O2 L2
  go_wp2_with fail
  go_loopw [5] (fun i wr => ∃ k K' : Nat, i = .int .i64 k ∧ k ≤ 4 ∧ Hid (K' + 4 * k ≤ K + 60) ∧ Hid (Blk15 w B c (.slice (some ⟨g, f, none⟩) 15 cap) K' wr)) (fun i _ => (intOf i).toNat)
  case atStart => exact ⟨x, K + 40, rfl, by omega, by show K + 40 + 4 * x ≤ K + 60; omega, S4⟩
  case round =>
    obtain ⟨k, K', rfl, hk4, HK, HS⟩ := hrel
    obtain ⟨l, hl, hO, hC⟩ := HS.out
    have hKK := HK.out
    clear S4 HS
    by_cases hk0 : 0 < k
    · have hkI : (0 : Int) < (k : Int) := by omega
      have hkd : decide ((0 : Int) < (k : Int)) = true := by simpa using hk0
      have HO := Lib.hid hO
      have HLL := Lib.hid hl
      clear hO hl
      go_wp2_with fail
      refine (pickC B c K' 15 _ hC.st (by omega) (by omega) (by omega)).mono ?_
      rintro e w5 ⟨y, y0, y1, rfl, c5, -⟩
      obtain ⟨p, rfl⟩ := Int.eq_ofNat_of_zero_le y0
      have hp : p < 15 := by omega
      have hpI : (p : Int) < 15 := by omega
      have O5 := HO.out.cs hlB c5
      have C5 := hC.call c5
      clear c5 hC HO
      go_upto_region 8 with fail
      have hC0 := C5.drew
      have hO0 : Own w5.drew w.heap.size (.slice (some ⟨g, f, none⟩) 15 cap) l := O5
      have hcell := (hO0.cellAt rfl).2 p (by rw [HLL.out]; exact hp)
      go_region_with (first
        | (go_at_call 61; refine (pickC B c _ 16 _ hC0.st (by omega) (by omega) (by omega)).mono ?_; rintro e w6 ⟨z, z0, z1, rfl, c6, -⟩; have C6 := hC0.call c6; have O6 := hO0.cs hlB c6; have hcell6 := (O6.cellAt rfl).2 p (by rw [HLL.out]; exact hp); have hfr6 := O6.frozenAt rfl (f + p)))
      all_goals
        have HS2 := fun u : Int => (show Hid (Blk15 w B c (.slice (some ⟨g, f, none⟩) 15 cap) (K' + 4) (w6.setCell ⟨g, f + p, none⟩ (.int .i64 u))) from ⟨_, by rw [List.length_set]; exact HLL.out, (O6.stored rfl p (by rw [HLL.out]; exact hp) u).1, (C6.set hg1 _).mono (by omega)⟩)
        clear hcell hcell6 hfr6 O6 C6 hO0 hC0 O5 C5
        go_wp2
        go_roundw
      all_goals first
        | exact ⟨k - 1, K' + 4, int_eq (by omega), by omega, by show K' + 4 + 4 * (k - 1) ≤ K + 60; omega, HS2 _⟩
        | (simp only [intOf]; omega)
    · obtain rfl : k = 0 := by omega
      have HO := Lib.hid hO
      have HLL := Lib.hid hl
      clear hO hl
      go_wp2_with fail
      refine (oneC B c K' 40 _ hC.st (by omega) (by omega) (by omega)).mono ?_
      rintro e w5 ⟨b, rfl, c5, -⟩
      have O5 := HO.out.cs hlB c5
      have C5 := hC.call c5
      have hs5 := C5.size
      clear c5 hC HO
      cases b
      · have HO := Lib.hid O5
        have HC := Lib.hid (C5.mono (show K' + 2 ≤ K + 200 by omega))
        clear O5 C5
        go_wp2
        go_ret
        exact ⟨_, l, rfl, by rw [HLL.out]; omega, HO.out, HC.out⟩
      · go_wp2_with (at_builtin; refine wpList_pushOwn rfl (.tmp 38) (.tmp 39) 24 rfl Try.underlying24 Try.infoInt w.heap.size g f 15 cap l rfl O5 rfl (by omega) hs5 ?_; intro v' w6 hO6 hG6; have HC := Lib.hid ((C5.grown hG6 (fun q hq => by cases hq; exact hg1)).mono (show K' + 2 ≤ K + 200 by omega)); have HO := Lib.hid hO6; clear hO6 hG6)
        go_ret
        exact ⟨_, _, rfl, by rw [List.length_append, HLL.out]; decide, HO.out, HC.out⟩

set_option maxHeartbeats 800000 in
theorem drawSyn_any (v : Value) (w : World) (h : RdB w v) :
    Calls Try.prog 80 #[v] w (DrP w 16) := by
  obtain ⟨a, len, cap, rfl, hrd⟩ := h
  have H1 := (curN (w := w) (v := .slice a len cap) ⟨a, len, cap, rfl, hrd⟩).here
  have hB0 := Lib.hid ((Below.refl w.heap.size w).alloc (Nat.le_refl _) (.cells #[.slice a len cap, .int .i64 0, .int .u64 0] 76))
  clear hrd
  go_enter Try.func80, Try.ntmps80
  go_wp2_with fail
  refine (receivedC w.heap.size _ 0 _ H1.st (by omega)).mono ?_
  rintro e w4 ⟨v4, xs, rfl, hl, ho, c4⟩
  have hB4 := Lib.hid (c4.belowAll hB0.out (Nat.le_refl _))
  have HO := Lib.hid (ho.mono (show w.heap.size ≤ (w.alloc (.cells #[.slice a len cap, .int .i64 0, .int .u64 0] 76)).heap.size by simp))
  clear c4 H1 ho
  go_wp2
  go_ret
  exact ⟨v4, xs, rfl, hl, HO.out, hB4.out⟩
theorem drawDecB_any (v : Value) (w : World) (h : RdB w v) :
    Calls Try.prog 26 #[v] w (DrP w 16) := by
  go_enter Try.func26, Try.ntmps26
  go_wp2_with fail
  refine (drawSyn_any v _ h).mono ?_
  rintro e w1 ⟨v1, xs, rfl, hl, ho, hb⟩
  have HO := Lib.hid ho
  have HB := Lib.hid hb
  clear ho hb
  go_wp2
  go_ret
  exact ⟨v1, xs, rfl, hl, HO.out, HB.out⟩
end Go.Proofs.Ytlemielobmbadaa
