/- Walks: sizes and copies of lists of frames. -/
import Derived.Test.YtlemielobmbadaaCtnN
import Derived.Test.YtlemielobmbadaaWrtW
namespace Go.Proofs.Ytlemielobmbadaa
open Go.RowKit
set_option maxRecDepth 100000

/-- Own data whose blocks lie below lo. -/
def Ofl (w : World) (base lo : Nat) (d : Dt) (v : Value) : Prop := ∃ fp, Odt w d v fp ∧ fp.Nodup ∧ ∀ k ∈ fp, base ≤ k ∧ k < lo
theorem Ofr.ofl {wr w : World} {base : Nat} {d : Dt} {v : Value} (h : Ofr wr base d v) (hb : Below wr.heap.size wr w) : Ofl w base wr.heap.size d v := by
  obtain ⟨fp, h1, h2, h3⟩ := h
  exact ⟨fp, h1.behind hb, h2, fun k hk => ⟨h3 k hk, h1.lt k hk⟩⟩
theorem Ofl.ofr {w : World} {base lo : Nat} {d : Dt} {v : Value} (h : Ofl w base lo d v) : Ofr w base d v := by
  obtain ⟨fp, h1, h2, h3⟩ := h; exact ⟨fp, h1, h2, fun k hk => (h3 k hk).1⟩
theorem Ofl.below {w w' : World} {base lo : Nat} {d : Dt} {v : Value} (h : Ofl w base lo d v) (hb : Below w.heap.size w w') : Ofl w' base lo d v := by
  obtain ⟨fp, h1, h2, h3⟩ := h; exact ⟨fp, h1.behind hb, h2, h3⟩
theorem Ofl.put {w1 : World} {base lo size j : Nat} {ds : List Dt} {d : Dt} {v u : Value} (h : Ofl w1 base lo (.rows size ds) v) (hbb : base ≤ lo) (hu : Ofr w1 lo d u) (hj : j < ds.length) :
    ∃ g off n cap, v = .slice (some ⟨g, off, none⟩) n cap ∧ base ≤ g ∧ (∃ u0, w1.cell? ⟨g, off + j, none⟩ = some u0) ∧ w1.frozen? ⟨g, off + j, none⟩ = false ∧
      Ofr (w1.setCell ⟨g, off + j, none⟩ u) base (.rows size (ds.set j d)) v ∧ ((∃ x, d = .leaf x) → Ofl (w1.setCell ⟨g, off + j, none⟩ u) base lo (.rows size (ds.set j d)) v) ∧
      ∀ (lo' : Nat) (d' : Dt) (u' : Value), Ofr w1 lo d' u' → Ofr (w1.setCell ⟨g, off + j, none⟩ u) lo d' u' := by
  obtain ⟨fp, h1', h2, h3⟩ := h
  obtain ⟨f, k1, k2, k3⟩ := hu
  cases h1' with
  | nil size => simp at hj
  | @mk size n g off cap ds us fs cur T hl hus hf hn hc hg hcs ht hd =>
    obtain ⟨hgn, hfn⟩ := List.nodup_cons.1 h2
    have hg1 : g < lo := (h3 g (by simp)).2
    obtain ⟨q1, q2⟩ := flat_put (j := j) hfn (fun k hk => (h3 k (List.mem_cons_of_mem _ hk)).2) k2 k3
    have hgq : g ∉ (fs.set j f).flatten := fun e => by
      rcases q2 g e with e | e
      · exact hgn e
      · have := k3 g e; omega
    have hju : j < us.length := by omega
    have hset : ∀ k, k ≠ g → (w1.setCell ⟨g, off + j, none⟩ u).heap[k]? = w1.heap[k]? := fun k hk => heap_setCell_other w1 ⟨g, off + j, none⟩ k u hk
    have hodt : Odt (w1.setCell ⟨g, off + j, none⟩ u) (.rows size (ds.set j d)) (.slice (some ⟨g, off, none⟩) n cap) (g :: (fs.set j f).flatten) := by
      have hg' := heap_setCell_same w1 g (off + j) cur T u hg
      refine .mk (us := us.set j u) (by rw [List.length_set]; exact hl) (by rw [List.length_set, List.length_set]; exact hus) (by rw [List.length_set, List.length_set]; exact hf) hn hc hg' (by simpa using hcs) ?_ (fun i d2 u2 f2 e1 e2 e3 => ?_)
      · rw [Array.toList_setIfInBounds, List.drop_set, if_neg (by omega), Nat.add_sub_cancel_left, List.take_set, ht]
      · by_cases e : j = i
        · subst e
          rw [List.getElem?_set_self hj] at e1
          rw [List.getElem?_set_self hju] at e2
          rw [List.getElem?_set_self (by omega)] at e3
          cases e1; cases e2; cases e3
          exact k1.kept fun k hk => hset k (by have := k3 k hk; omega)
        · rw [List.getElem?_set_ne e] at e1 e2 e3
          exact (hd i d2 u2 f2 e1 e2 e3).kept fun k hk => hset k (fun e => hgn (by rw [← e]; exact List.mem_flatten.2 ⟨f2, List.mem_of_getElem? e3, hk⟩))
    refine ⟨g, off, n, cap, rfl, (h3 g (by simp)).1, ⟨_, row_cell hg ht (List.getElem?_eq_getElem hju) (by omega)⟩, frozen_of_row _ _ _ _ _ hg, ⟨_, hodt, List.nodup_cons.2 ⟨hgq, q1⟩, fun k hk => ?_⟩, fun ⟨x, hx⟩ => ⟨_, hodt, List.nodup_cons.2 ⟨hgq, q1⟩, fun k hk => ?_⟩, fun lo' d' u' ⟨f', m1, m2, m3⟩ => ⟨f', m1.kept fun k hk => hset k (by have := m3 k hk; omega), m2, m3⟩⟩
    · rcases List.mem_cons.1 hk with rfl | hk
      · exact (h3 k (by simp)).1
      · rcases q2 k hk with e | e
        · exact (h3 k (List.mem_cons_of_mem _ e)).1
        · have := k3 k e; omega
    · subst hx
      have hfe := k1.leaf_inv.2
      subst hfe
      rcases List.mem_cons.1 hk with rfl | hk
      · exact h3 k (by simp)
      · rcases q2 k hk with e | e
        · exact h3 k (List.mem_cons_of_mem _ e)
        · cases e
theorem Ofr.leaf (w : World) (lo : Nat) (x : Value) : Ofr w lo (.leaf x) x := ⟨[], .leaf x, List.nodup_nil, fun k hk => by cases hk⟩
/-- A frame stored over an element. -/
theorem put_frame {w1 : World} {base lo k : Nat} {D : List Frm} {f : Frm} {v u : Value} (h : Ofl w1 base lo (frD D) v) (hbb : base ≤ lo) (hu : Ofr w1 lo (inD f.l) u) (hk : k < D.length) :
    ∃ g off n cap, v = .slice (some ⟨g, off, none⟩) n cap ∧ base ≤ g ∧ (∃ u0, w1.cell? ⟨g, off + k * 3, none⟩ = some u0) ∧ (∃ u0, w1.cell? ⟨g, off + k * 3 + 1, none⟩ = some u0) ∧ (∃ u0, w1.cell? ⟨g, off + k * 3 + 2, none⟩ = some u0) ∧
      (∀ j, w1.frozen? ⟨g, j, none⟩ = false) ∧
      Ofr (((w1.setCell ⟨g, off + k * 3, none⟩ (.int .i64 f.c)).setCell ⟨g, off + k * 3 + 1, none⟩ (.int .i64 f.p)).setCell ⟨g, off + k * 3 + 2, none⟩ u) base (frD (D.set k f)) v := by
  have hset := frC_set D k f hk
  have hlen := frC_len D
  rw [Nat.mul_comm 3 k] at hset
  unfold frD at h ⊢
  generalize D.flatMap frC = ds at *
  have h0 := h
  obtain ⟨g, off, n, cap, rfl, hg, c1, f1, -, o1, t1⟩ := h.put (j := k * 3) hbb (Ofr.leaf w1 lo (.int .i64 f.c)) (by omega)
  have o1 := o1 ⟨_, rfl⟩
  have u1 := t1 lo _ _ hu
  obtain ⟨g2, off2, n2, cap2, ev, -, -, -, -, o2, t2⟩ := o1.put (j := k * 3 + 1) hbb (Ofr.leaf _ lo (.int .i64 f.p)) (by rw [List.length_set]; omega)
  simp only [Value.slice.injEq, Option.some.injEq, Addr.mk.injEq, and_true] at ev
  obtain ⟨⟨rfl, rfl⟩, rfl, rfl⟩ := ev
  have o2 := o2 ⟨_, rfl⟩
  have u2 := t2 lo _ _ u1
  obtain ⟨g2, off2, n2, cap2, ev, -, -, -, o3, -, -⟩ := o2.put (j := k * 3 + 2) hbb u2 (by rw [List.length_set, List.length_set]; omega)
  simp only [Value.slice.injEq, Option.some.injEq, Addr.mk.injEq, and_true] at ev
  obtain ⟨⟨rfl, rfl⟩, rfl, rfl⟩ := ev
  obtain ⟨g2, off2, n2, cap2, ev, -, c2, -, -, -, -⟩ := h0.put (j := k * 3 + 1) hbb (Ofr.leaf w1 lo (.int .i64 f.p)) (by omega)
  simp only [Value.slice.injEq, Option.some.injEq, Addr.mk.injEq, and_true] at ev
  obtain ⟨⟨rfl, rfl⟩, rfl, rfl⟩ := ev
  obtain ⟨g2, off2, n2, cap2, ev, -, c3, -, -, -, -⟩ := h0.put (j := k * 3 + 2) hbb (Ofr.leaf w1 lo (.int .i64 f.p)) (by omega)
  simp only [Value.slice.injEq, Option.some.injEq, Addr.mk.injEq, and_true] at ev
  obtain ⟨⟨rfl, rfl⟩, rfl, rfl⟩ := ev
  refine ⟨g, off, n, cap, rfl, hg, c1, c2, c3, fun j => ?_, ?_⟩
  · obtain ⟨fp, q, _⟩ := h0
    cases q with
    | mk hl hu hf hn hc hgg hcs ht hd => exact frozen_of_row _ _ _ _ _ hgg
  · rw [hset] at o3
    exact o3
theorem made_frames {w1 : World} {base n g : Nat} (h : w1.ownsRow base 50 3 (.slice (some ⟨g, 0, none⟩) n n) n (madeCells (Value.agg #[.int .i64 0, .int .i64 0, .slice none 0 0]).cells (n * 3)).toList) : Ofr w1 base (frD (List.replicate n nilF)) (.slice (some ⟨g, 0, none⟩) n n) := by
  refine Grw.ofr (T := 50) (n := n) ⟨_, List.replicate (n * 3) [], h, by rw [frC_len]; simp [madeCells]; omega, by rw [frC_len]; simp; omega, fun j d u f e1 e2 e3 => ?_, by simp, by simp, by simp⟩
  have hj : j < n * 3 := by have := (List.getElem?_eq_some_iff.1 e3).1; simpa using this
  obtain ⟨k, r, hr, rfl⟩ : ∃ k r, r < 3 ∧ j = 3 * k + r := ⟨j / 3, j % 3, Nat.mod_lt _ (by omega), by omega⟩
  rw [frC_flat _ _ _ hr] at e1
  have hz : (Value.agg #[.int .i64 0, .int .i64 0, .slice none 0 0]).cells = #[.int .i64 0, .int .i64 0, .slice none 0 0] := rfl
  rw [hz] at e2
  have hk : k < n := by omega
  have hm : (3 * k + r) % 3 = r := by omega
  simp [hj, hk] at e1 e3
  simp [madeCells, hj, hm] at e2
  subst e3
  match r, hr with
  | 0, _ => simp [frC, nilF] at e1; subst e1; subst e2; exact .leaf _
  | 1, _ => simp [frC, nilF] at e1; subst e1; subst e2; exact .leaf _
  | 2, _ => simp [frC, nilF] at e1; subst e1; subst e2; exact .nil 1
def RwF (w : World) (v : Value) (f : Frm) : Prop := ∃ u, v = .agg #[.int .i64 f.c, .int .i64 f.p, u] ∧ Rw w u f.l
theorem Rw.shape {w : World} {v : Value} {xs : List Int} (h : Rw w v xs) : ∃ a n cap, v = .slice a n cap := by
  obtain ⟨a, cap, n, _, rfl, _⟩ := h; exact ⟨a, n, cap, rfl⟩
theorem frD_opnw {w : World} {v : Value} {fs : List Frm} (h : Rwt w (frD fs) v) : ∃ a n cap, v = .slice a n cap ∧ Hid (fs.length = n) ∧ n ≤ 9223372036854775807 ∧
    (0 < n → ∃ b off, a = some ⟨b, off, none⟩ ∧ b < w.heap.size ∧ ∀ i, i < n → ∃ u, w.cell? ⟨b, off + i * 3, none⟩ = some (.int .i64 (fs[i]?.getD nilF).c) ∧ w.cell? ⟨b, off + i * 3 + 1, none⟩ = some (.int .i64 (fs[i]?.getD nilF).p) ∧ w.cell? ⟨b, off + i * 3 + 2, none⟩ = some u ∧ Rw w u (fs[i]?.getD nilF).l) := by
  obtain ⟨a, n, cap, hv, HN, h2, h3⟩ := h.opn
  have hn : fs.length = n := by have := HN.out; rw [frC_len] at this; omega
  refine ⟨a, n, cap, hv, hn, h2, fun h0 => ?_⟩
  obtain ⟨b, off, ea, hb, hc⟩ := h3 h0
  refine ⟨b, off, ea, hb, fun i hi => ?_⟩
  have hlt : i < fs.length := by omega
  have e0 : fs[i]? = some (fs[i]?.getD nilF) := by rw [List.getElem?_eq_getElem hlt]; rfl
  have g := fun r (hr : r < 3) => frC_flat fs i r hr
  obtain ⟨u0, k1, k2⟩ := hc (3 * i + 0) (.leaf (.int .i64 (fs[i]?.getD nilF).c)) (by rw [g 0 (by omega), e0]; rfl)
  obtain ⟨u1, k3, k4⟩ := hc (3 * i + 1) (.leaf (.int .i64 (fs[i]?.getD nilF).p)) (by rw [g 1 (by omega), e0]; rfl)
  obtain ⟨u2, k5, k6⟩ := hc (3 * i + 2) (inD (fs[i]?.getD nilF).l) (by rw [g 2 (by omega), e0]; rfl)
  refine ⟨u2, ?_, ?_, ?_, k6.ints⟩
  · rw [show off + i * 3 = off + (3 * i + 0) by omega, k1, k2.leaf_inv]
  · rw [show off + i * 3 + 1 = off + (3 * i + 1) by omega, k3, k4.leaf_inv]
  · rw [show off + i * 3 + 2 = off + (3 * i + 2) by omega, k5]
theorem szFrame_any (v : Value) (f : Frm) (l : Int) (w : World) (h : RwF w v f) (h0 : 0 ≤ l) (h1 : l ≤ 1048576) :
    Calls Try.prog 100 #[v, .int .i64 l] w fun e w' => e = .returned (.int .i64 (if l < f.l.length then -1 else l - f.l.length)) ∧ Below w.heap.size w w' := by
  obtain ⟨u, rfl, hu⟩ := h
  have hal := (Below.refl w.heap.size w).alloc (Nat.le_refl _) (.cells #[.int .i64 f.c, .int .i64 f.p, u] 98)
  have HS := Lib.hid (szIntS_any u f.l l _ (hu.behind hal) h0 h1)
  have HB := Lib.hid hal
  obtain ⟨a, n, cap, rfl⟩ := hu.shape
  clear hal hu
  by_cases hx : l < (f.l.length : Int)
  · rw [if_pos hx] at HS ⊢
    go_enter Try.func100, Try.ntmps100
    go_wp2_with fail
    refine HS.out.mono ?_
    rintro e w2 ⟨rfl, rfl⟩
    go_wp2
    go_ret
    exact ⟨rfl, HB.out⟩
  · rw [if_neg hx] at HS ⊢
    have hnn : ¬ l - (f.l.length : Int) < 0 := by omega
    have hnb : decide (l - (f.l.length : Int) < 0) = false := by simpa using hnn
    go_enter Try.func100, Try.ntmps100
    go_wp2_with fail
    refine HS.out.mono ?_
    rintro e w2 ⟨rfl, rfl⟩
    go_wp2
    go_ret
    exact ⟨rfl, HB.out⟩
def totF (fs : List Frm) : Nat := (fs.map fun f => f.l.length).sum
theorem totF_step {fs : List Frm} {k : Nat} (h : k < fs.length) : totF (fs.take (k + 1)) = totF (fs.take k) + (fs[k]?.getD nilF).l.length := by
  rw [totF, totF, List.take_add_one, List.map_append, List.sum_append, List.getElem?_eq_getElem h]; simp
theorem totF_le (fs : List Frm) (k : Nat) : totF (fs.take k) ≤ totF fs := by
  rw [totF, totF]
  conv => rhs; rw [← List.take_append_drop k fs, List.map_append, List.sum_append]
  omega
theorem totF_mem {fs : List Frm} {k : Nat} (h : k < fs.length) : (fs[k]?.getD nilF).l.length ≤ totF fs := by
  have h1 := totF_step h
  have h2 := totF_le fs (k + 1)
  omega
theorem qAt_tot (fs : List Frm) : qAt fs fs.length = 2 * fs.length + totF fs := by
  rw [qAt, List.take_length]
  induction fs with
  | nil => rfl
  | cons f fs ih => simp [szF, totF] at ih ⊢; omega
set_option maxHeartbeats 1600000 in
theorem szFrameS_any (v : Value) (fs : List Frm) (w : World) (h : Rwt w (frD fs) v) :
    Calls Try.prog 47 #[v, .int .i64 1048576] w fun e w' => ∃ r : Int, e = .returned (.int .i64 r) ∧ Below w.heap.size w w' ∧ (0 ≤ r → (fs.length : Int) + totF fs ≤ 1048576) := by
  obtain ⟨a, n, cap, rfl, HN, hn, ha⟩ := frD_opnw h
  have HT := Lib.hid (fun k (h : k < fs.length) => @totF_step fs k h)
  have hal : totF (fs.take fs.length) = totF fs := by rw [List.take_length]
  rw [HN.out] at hal ⊢
  have HAL := Lib.hid hal
  have HA := Lib.hid ha
  clear hal h ha
  by_cases hc : (1048576 : Int) - n < 0
  · have hb : decide ((1048576 : Int) - n < 0) = true := by simpa using hc
    go_enter Try.func47, Try.ntmps47
    go_wp2
    go_ret
    exact ⟨-1, rfl, Below.refl _ _, fun h => by omega⟩
  have hb : decide ((1048576 : Int) - n < 0) = false := by simpa using hc
  have hc' : (n : Int) ≤ 1048576 := by omega
  go_enter Try.func47, Try.ntmps47
  go_wp2
  go_loopw [1, 5] (fun x i wr => ∃ (k : Nat) (r : Int), k ≤ n ∧ i = .int .i64 k ∧ x = .int .i64 r ∧ 0 ≤ r ∧ r ≤ 1048576 ∧ Hid ((n : Int) + totF (fs.take k) + r = 1048576) ∧ Hid (Below w.heap.size w wr)) (fun _ i _ => n - (intOf i).toNat)
  case atStart => exact ⟨0, 1048576 - n, by omega, rfl, rfl, by omega, by omega, by show (n : Int) + ((totF (fs.take 0) : Nat) : Int) + (1048576 - n) = 1048576; simp [totF]; omega, Below.refl _ _⟩
  case round =>
    obtain ⟨k, r, hk, rfl, rfl, h0, h1, HR, HB⟩ := hrel
    by_cases hlt : k < n
    · obtain ⟨b, off, rfl, hbs, hcs⟩ := HA.out (by omega)
      obtain ⟨u, p1, p2, p3, hru⟩ := hcs k hlt
      have hltI : (k : Int) < (n : Int) := by omega
      have hlb : decide ((k : Int) < (n : Int)) = true := by simpa using hltI
      have d1 := (HB.out.cell (p := ⟨b, off + k * 3, none⟩) hbs).trans p1
      have d2 := (HB.out.cell (p := ⟨b, off + k * 3 + 1, none⟩) hbs).trans p2
      have d3 := (HB.out.cell (p := ⟨b, off + k * 3 + 2, none⟩) hbs).trans p3
      have HS := Lib.hid (szFrame_any (.agg #[.int .i64 (fs[k]?.getD nilF).c, .int .i64 (fs[k]?.getD nilF).p, u]) (fs[k]?.getD nilF) r wr ⟨u, rfl, hru.behind HB.out⟩ h0 h1)
      have HTK := Lib.hid (HT.out k (show k < fs.length by rw [HN.out]; exact hlt))
      have hz := HB.out.size
      clear hcs hru p1 p2 p3
      generalize fs[k]?.getD nilF = f at *
      by_cases hx : r < (f.l.length : Int)
      · rw [if_pos hx] at HS
        go_wp2_with fail
        refine HS.out.mono ?_
        rintro e w2 ⟨rfl, b2⟩
        have HB2 := Lib.hid (HB.out.trans (b2.mono hz))
        clear b2
        go_wp2
        go_ret
        exact ⟨-1, rfl, HB2.out, fun h => by omega⟩
      · rw [if_neg hx] at HS
        have hnn : ¬ r - (f.l.length : Int) < 0 := by omega
        have hnb : decide (r - (f.l.length : Int) < 0) = false := by simpa using hnn
        go_wp2_with fail
        refine HS.out.mono ?_
        rintro e w2 ⟨rfl, b2⟩
        have HB2 := Lib.hid (HB.out.trans (b2.mono hz))
        clear b2
        go_wp2
        go_roundw
        case rel => exact ⟨k + 1, r - f.l.length, by omega, by go_num, rfl, by omega, by omega, by show (n : Int) + ((totF (fs.take (k + 1)) : Nat) : Int) + (r - f.l.length) = 1048576; have := HR.out; rw [HTK.out]; omega, HB2.out⟩
        case measure => simp [intOf]; omega
    · obtain rfl : k = n := by omega
      go_wp2
      go_ret
      exact ⟨r, rfl, HB.out, fun _ => by have := HR.out; rw [HAL.out] at this; omega⟩
theorem ow_set {w : World} {base b j : Nat} {v u : Value} {xs : List Int} (h : Own w base v xs) (hb : b < base) : Own (w.setCell ⟨b, j, none⟩ u) base v xs :=
  h.kept fun k hk => heap_setCell_other w ⟨b, j, none⟩ k u (fun e => by have h1 := (h.lt k hk).1; have e2 : k = b := e; omega)
theorem blk3c {X : World} {b : Nat} {u v x : Value} {T : TypeId} (h : X.heap[b]? = some (.cells #[u, v, x] T (0, 0))) :
    X.cell? ⟨b, 0, none⟩ = some u ∧ X.cell? ⟨b, 1, none⟩ = some v ∧ X.cell? ⟨b, 2, none⟩ = some x ∧ X.frozen? ⟨b, 0, none⟩ = false ∧ X.frozen? ⟨b, 1, none⟩ = false ∧ X.frozen? ⟨b, 2, none⟩ = false ∧ b < X.heap.size := by
  refine ⟨?_, ?_, ?_, frozen_of_row _ _ _ _ _ h, frozen_of_row _ _ _ _ _ h, frozen_of_row _ _ _ _ _ h, (Array.getElem?_eq_some_iff.1 h).1⟩
  · rw [cell_of_row _ _ _ _ _ _ h]; rfl
  · rw [cell_of_row _ _ _ _ _ _ h]; rfl
  · rw [cell_of_row _ _ _ _ _ _ h]; rfl
theorem kept_o {X Y : World} {b : Nat} {x : Obj} (h : X.heap[b]? = some x) (hb : Below X.heap.size X Y) : Y.heap[b]? = some x := by
  rw [hb.block b (Array.getElem?_eq_some_iff.1 h).1]; exact h
set_option maxHeartbeats 1600000 in
theorem toFrame_any (v : Value) (f : Frm) (w : World) (h : RwF w v f) (hl : f.l.length ≤ 1048576) :
    Calls Try.prog 103 #[v] w fun e w' => ∃ u, e = .returned (.agg #[.int .i64 f.c, .int .i64 f.p, u]) ∧ Own w' w.heap.size u f.l ∧ Below w.heap.size w w' := by
  obtain ⟨u, rfl, hu⟩ := h
  obtain ⟨a, n, cap, rfl⟩ := hu.shape
  have hb1 := (Below.refl w.heap.size w).alloc (Nat.le_refl _) (.cells #[.int .i64 f.c, .int .i64 f.p, .slice a n cap] 98)
  have hb2 := hb1.alloc hb1.size (.cells #[.int .i64 0, .int .i64 0, .slice none 0 0] 50)
  have hb3 := hb2.alloc hb2.size (.cells #[.int .i64 f.c, .int .i64 f.p, .slice none 0 0] 50)
  have h2 := heap_alloc_new (w.alloc (.cells #[.int .i64 f.c, .int .i64 f.p, .slice a n cap] 98)) (.cells #[.int .i64 0, .int .i64 0, .slice none 0 0] 50)
  have h3 := heap_alloc_new ((w.alloc (.cells #[.int .i64 f.c, .int .i64 f.p, .slice a n cap] 98)).alloc (.cells #[.int .i64 0, .int .i64 0, .slice none 0 0] 50)) (.cells #[.int .i64 f.c, .int .i64 f.p, .slice none 0 0] 50)
  have h2' := (heap_alloc_old _ (.cells #[.int .i64 f.c, .int .i64 f.p, .slice none 0 0] 50) (Array.getElem?_eq_some_iff.1 h2).1).trans h2
  rw [show (w.alloc (.cells #[.int .i64 f.c, .int .i64 f.p, .slice a n cap] 98)).heap.size = w.heap.size + 1 by simp] at h2'
  rw [show ((w.alloc (.cells #[.int .i64 f.c, .int .i64 f.p, .slice a n cap] 98)).alloc (.cells #[.int .i64 0, .int .i64 0, .slice none 0 0] 50)).heap.size = w.heap.size + 1 + 1 by simp] at h3
  have HB3 := Lib.hid hb3
  have H2 := Lib.hid h2'
  have H3 := Lib.hid h3
  have HU := Lib.hid (toIntS_rd _ f.l _ (hu.behind hb3) hl)
  clear hu hb1 hb2 hb3 h2 h3 h2'
  go_enter Try.func103, Try.ntmps103
  go_wp2_with fail
  refine HU.out.mono ?_
  rintro e w4 ⟨u4, rfl, o4, b4⟩
  obtain ⟨a5, c5, n5, -, rfl, -⟩ := o4.rd.opn
  obtain ⟨y0, y1, y2, y3, y4, y5, y6⟩ := blk3c (kept_o H2.out b4)
  obtain ⟨z0, z1, z2, z3, z4, z5, z6⟩ := blk3c (kept_o H3.out b4)
  have HB4 := Lib.hid (HB3.out.trans (b4.mono HB3.out.size))
  have HO4 := Lib.hid (o4.mono (show w.heap.size + 1 + 1 + 1 ≤ _ by simp))
  clear b4 o4 H2 H3
  go_wp2
  exact bodyPost_ret (v := .agg #[.int .i64 f.c, .int .i64 f.p, .slice a5 n5 c5]) (by simp [results, Try.results103, go_sem, y0, y1, y2, z0, z1, z2]) rfl ⟨_, rfl, (((((ow_set HO4.out (by omega)) |> fun h => ow_set h (by omega)) |> fun h => ow_set h (by omega)) |> fun h => ow_set h (by omega)).mono (by omega)), ((((HB4.out.setCell (p := ⟨w.heap.size + 1 + 1, 2, none⟩) (by show w.heap.size ≤ w.heap.size + 1 + 1; omega) _).setCell (p := ⟨w.heap.size + 1, 0, none⟩) (Nat.le_succ _) _).setCell (p := ⟨w.heap.size + 1, 1, none⟩) (Nat.le_succ _) _).setCell (p := ⟨w.heap.size + 1, 2, none⟩) (Nat.le_succ _) _)⟩
set_option maxHeartbeats 1600000 in
theorem toFrameS_any (v : Value) (fs : List Frm) (w : World) (h : Rwt w (frD fs) v) (hr : fs.length ≤ 1048576) (hl : ∀ i : Nat, (fs[i]?.getD nilF).l.length ≤ 1048576) :
    Calls Try.prog 49 #[v] w fun e w' => ∃ v', e = .returned v' ∧ Ofr w' w.heap.size (frD fs) v' ∧ Below w.heap.size w w' := by
  obtain ⟨i0, hi, hz0, hz1, hz2⟩ := info_parts Try.infoFrame
  obtain ⟨a, n, cap, rfl, HN, hn, ha⟩ := frD_opnw h
  have HL := Lib.hid hl
  have HA := Lib.hid ha
  have HE := Lib.hid (show fs.take n ++ List.replicate (n - n) nilF = fs by rw [Nat.sub_self, List.replicate_zero, List.append_nil, ← HN.out, List.take_length])
  rw [HN.out] at hr
  clear hl h ha
  go_enter Try.func49, Try.ntmps49
  go_wp2_with (refine wpList_make_full _ rfl _ _ 41 rfl w.heap.size 50 i0 (.agg #[.int .i64 0, .int .i64 0, .slice none 0 0]) 3 Try.underlying41 hi hz0 hz1 _ _ _ _ n rfl rfl rfl rfl (by rw [hz2]; omega) (by unfold maxLen; omega) (Nat.le_refl _) ?_; intro w1 hown1 hgrow1)
  have HO1 := Lib.hid (show Ofr w1 w.heap.size (frD (fs.take 0 ++ List.replicate (n - 0) nilF)) (.slice (some ⟨w.heap.size, 0, none⟩) n n) from by
    have := made_frames hown1
    simpa using this)
  have HB1 := Lib.hid (show Below w.heap.size w w1 from (Below.refl _ _).grown hgrow1 (Nat.le_refl _) (by simp))
  clear hown1 hgrow1
  go_loopw [4] (fun i wr => ∃ k : Nat, k ≤ n ∧ i = .int .i64 k ∧ Hid (Ofr wr w.heap.size (frD (fs.take k ++ List.replicate (n - k) nilF)) (.slice (some ⟨w.heap.size, 0, none⟩) n n)) ∧ Hid (Below w.heap.size w wr)) (fun i _ => n - (intOf i).toNat)
  case atStart => exact ⟨0, by omega, rfl, HO1.out, HB1.out⟩
  case round =>
    obtain ⟨k, hk, rfl, HO, HB⟩ := hrel
    by_cases hlt : k < n
    · obtain ⟨b, off, rfl, hbs, hcs⟩ := HA.out (by omega)
      obtain ⟨u, p1, p2, p3, hru⟩ := hcs k hlt
      have hltI : (k : Int) < (n : Int) := by omega
      have hkx : k < fs.length := by rw [HN.out]; exact hlt
      have d1 := (HB.out.cell (p := ⟨b, off + k * 3, none⟩) hbs).trans p1
      have d2 := (HB.out.cell (p := ⟨b, off + k * 3 + 1, none⟩) hbs).trans p2
      have d3 := (HB.out.cell (p := ⟨b, off + k * 3 + 2, none⟩) hbs).trans p3
      have HS := Lib.hid (toFrame_any (.agg #[.int .i64 (fs[k]?.getD nilF).c, .int .i64 (fs[k]?.getD nilF).p, u]) (fs[k]?.getD nilF) wr ⟨u, rfl, hru.behind HB.out⟩ (HL.out k))
      have HST := Lib.hid (show (fs.take k ++ List.replicate (n - k) nilF).set k (fs[k]?.getD nilF) = fs.take (k + 1) ++ List.replicate (n - (k + 1)) nilF from by
        have hl : (fs.take k).length = k := by simp; omega
        rw [List.set_append_right _ _ (by omega), hl, Nat.sub_self]
        obtain ⟨m, hm⟩ : ∃ m, n - k = m + 1 := ⟨n - k - 1, by omega⟩
        rw [hm, List.replicate_succ, List.set_cons_zero, show n - (k + 1) = m by omega, List.take_add_one, List.append_assoc, List.getElem?_eq_getElem hkx]
        rfl)
      have HNK := Lib.hid (show k < (fs.take k ++ List.replicate (n - k) nilF).length by simp; omega)
      clear hcs hru p1 p2 p3 HO1 HB1
      generalize fs[k]?.getD nilF = f at *
      go_wp2_with fail
      refine HS.out.mono ?_
      rintro e w2 ⟨u2, rfl, o2, b2⟩
      obtain ⟨a5, c5, n5, -, rfl, -⟩ := o2.rd.opn
      obtain ⟨g, o, n', cp, ev, hg1, ⟨q0, c0⟩, ⟨q1, c1⟩, ⟨q2, c2⟩, hfz, hof⟩ := put_frame (HO.out.ofl b2) HB.out.size o2.ofr HNK.out
      simp only [Value.slice.injEq, Option.some.injEq, Addr.mk.injEq, and_true] at ev
      obtain ⟨⟨rfl, rfl⟩, rfl, rfl⟩ := ev
      rw [HST.out] at hof
      rw [Nat.zero_add] at c0 c1 c2 hof
      have f0 := hfz (k * 3)
      have f1 := hfz (k * 3 + 1)
      have f2 := hfz (k * 3 + 2)
      have HOF := Lib.hid hof
      have HB2 := Lib.hid (HB.out.trans (b2.mono HB.out.size))
      clear hof o2 b2 hfz
      go_wp2
      go_roundw
      case rel => exact ⟨k + 1, by omega, by go_num, HOF.out, ((HB2.out.setCell (p := ⟨w.heap.size, k * 3, none⟩) (Nat.le_refl _) _).setCell (p := ⟨w.heap.size, k * 3 + 1, none⟩) (Nat.le_refl _) _).setCell (p := ⟨w.heap.size, k * 3 + 2, none⟩) (Nat.le_refl _) _⟩
      case measure => simp [intOf]; omega
    · obtain rfl : k = n := by omega
      have hof := HO.out
      rw [HE.out] at hof
      have HOF := Lib.hid hof
      go_wp2
      go_ret
      exact ⟨_, rfl, HOF.out, HB.out⟩
end Go.Proofs.Ytlemielobmbadaa
