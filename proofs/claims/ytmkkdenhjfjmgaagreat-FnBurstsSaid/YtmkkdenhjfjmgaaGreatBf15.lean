/- Joined: XDrd XCerW XDrf XDrg XDrc. -/
import Derived.Test.YtmkkdenhjfjmgaaGreatBf01
import Derived.Test.YtmkkdenhjfjmgaaGreatBf09
import Derived.Test.YtmkkdenhjfjmgaaGreatBf02
import Derived.Test.YtmkkdenhjfjmgaaGreatBf13
import Derived.Test.YtmkkdenhjfjmgaaGreatBf14
import Derived.Test.YtmkkdenhjfjmgaaGreatBf07
namespace Go.Proofs.YtmkkdenhjfjmgaaGreat
open Go.RowKit Go.Sort
set_option maxRecDepth 100000

theorem row_kept0 {w w' : World} {base : Nat} {e : TypeId} {size : Nat} {v : Value} {n : Nat} {xs : List Value} (h : w.ownsRow base e size v n xs) (hk : ∀ g, v.ownBlock = some g → w'.heap[g]? = w.heap[g]?) : w'.ownsRow base e size v n xs := by
  refine ⟨h.1, ?_⟩
  rcases h.2 with q | ⟨g, cap, cur, rfl, q1, q2, q3⟩
  · exact .inl q
  · exact .inr ⟨g, cap, cur, rfl, q1, by rw [hk g rfl]; exact q2, q3⟩
theorem l8BitsA_any (f c : Int) (w : World) : Calls Tryz.prog 189 #[.agg #[.int .i64 f, .int .i64 c]] w fun e w' => ∃ m : Int, e = .returned (.int .i64 m) ∧ Below w.heap.size w w' := by
  obtain ⟨bx, bc, blt, -⟩ := box_facts w #[.int .i64 f, .int .i64 c] 92
  have q0 := bc 0 _ rfl
  have q1 := bc 1 _ rfl
  have HBX := Lib.hid bx
  clear bx bc
  go_enter Tryz.func189, Tryz.ntmps189
  go_wp2_with fail
  go_ret
  exact ⟨_, rfl, HBX.out⟩
def FitR (w : World) (v : Value) (w' : World) : Prop := ∃ xs : List Int, xs.length ≤ 24 ∧ Own w' w.heap.size v xs ∧ (∀ x ∈ xs, 0 ≤ x ∧ x ≤ 23) ∧ Below w.heap.size w w'
set_option maxHeartbeats 3200000 in
theorem l8Fits_any (m : Int) (c : Nat) (w : World) (hc : 1 ≤ c ∧ c ≤ 24) : Calls Tryz.prog 157 #[.int .i64 m, .int .i64 c] w fun e w' => ∃ v, e = .returned v ∧ FitR w v w' := by
  have b0 := (Below.refl w.heap.size w).alloc (Nat.le_refl _) (.cells #[] 3)
  have r0 : (w.alloc (.cells #[] 3)).ownsRow w.heap.size 3 1 (.slice (some ⟨w.heap.size, 0, none⟩) 0 0) 0 (ints []) := World.ownsRow_made w #[] 0 (Nat.le_refl _) (Nat.zero_le _) (by simp)
  have HB0 := Lib.hid b0
  have HR0 := Lib.hid r0
  clear b0 r0
  go_enter Tryz.func157, Tryz.ntmps157
  go_wp2_with fail
  go_loopw [5, 6] (fun v i wr => ∃ (k : Nat) (xs : List Int), k ≤ 24 ∧ i = .int .i64 k ∧ xs.length ≤ k ∧ Hid (∀ x ∈ xs, 0 ≤ x ∧ x ≤ 23) ∧ Hid (wr.ownsRow w.heap.size 3 1 v xs.length (ints xs)) ∧ Hid (Below w.heap.size w wr)) (fun _ i _ => 25 - (intOf i).toNat)
  case atStart => exact ⟨0, [], Nat.zero_le _, rfl, Nat.zero_le _, fun x hx => (by cases hx), HR0.out, HB0.out⟩
  case round =>
    obtain ⟨k, xs, hk, rfl, hl, HX, HR, HB⟩ := hrel
    have hw1 : IntKind.i64.wrap ((k : Int) + (c : Int)) = (k : Int) + (c : Int) := IntWalk.i64_in _ (by omega)
    have hw2 : IntKind.i64.wrap ((k : Int) + 1) = (k : Int) + 1 := IntWalk.i64_in _ (by omega)
    by_cases hlt : k + c ≤ 24
    · have hltI : (k : Int) + (c : Int) ≤ 24 := by omega
      go_wp2_with fail
      refine (l8BitsA_any (k : Int) (c : Int) _).mono ?_
      rintro e w3 ⟨b, rfl, b3⟩
      have HB3 := Lib.hid (HB.out.trans (b3.mono HB.out.size))
      have HR3 := Lib.hid (row_kept0 HR.out (fun q hq => b3.block q (HR.out.lt q hq).2))
      cases hz : (bits BinOp.and .i64 m b == 0)
      · go_wp2_with fail
        go_roundw
        case rel => exact ⟨k + 1, xs, by omega, by go_num, by omega, HX.out, HR3.out, HB3.out⟩
        case measure => simp [intOf]; omega
      · go_wp2_with (at_builtin; refine wpList_push rfl (.tmp 21) (.tmp 23) 29 rfl Tryz.underlying29 Tryz.infoInt w.heap.size _ xs.length xs rfl HR3.out rfl (by omega) HB3.out.size ?_; intro v' w6 hr6 hg6; have HB6 := Lib.hid (HB3.out.grown hg6 HB3.out.size (fun q hq => (HR3.out.lt q hq).1)); have HR6 := Lib.hid hr6; clear hr6 hg6)
        go_roundw
        case rel => exact ⟨k + 1, xs ++ [(k : Int)], by omega, by go_num, by simp; omega, fun x hx => (by rcases List.mem_append.1 hx with h | h; exact HX.out x h; rw [List.mem_singleton.1 h]; omega), Lib.hid (by rw [List.length_append]; exact HR6.out), HB6.out⟩
        case measure => simp [intOf]; omega
    · have hltI : ¬ (k : Int) + (c : Int) ≤ 24 := by omega
      go_wp2_with fail
      go_ret
      exact ⟨_, rfl, xs, by omega, own_of_row HR.out, HX.out, HB.out⟩
def BlkP (w : World) (B : Nat) (c : Value) (K : Nat) (e : Ending) (w' : World) : Prop := ∃ f t : Int, e = .returned (.agg #[.int .i64 f, .int .i64 t]) ∧ CS w B c (K + 6) w'
set_option maxHeartbeats 3200000 in
theorem block_any (B : Nat) (c : Value) (K : Nat) (w : World) (h : Cs w B c K) (hk : K ≤ 3000000000000000) :
    Calls Tryz.prog 123 #[ptr B] w (BlkP w B c K) := by
  have hlt := h.lt.1
  have b1 := (Below.refl w.heap.size w).alloc (Nat.le_refl _) (.cells #[.int .i64 0, .int .i64 0] 92)
  have HC1 := Lib.hid (h.here.below b1)
  have HK1 := Lib.hid (heap_alloc_new w (.cells #[.int .i64 0, .int .i64 0] 92))
  have HZ1 := Lib.hid (show (w.alloc (.cells #[.int .i64 0, .int .i64 0] 92)).heap.size = w.heap.size + 1 by simp)
  have HX := Lib.hid (fun (w1 w2 : World) K2 K3 K4 (h1 : CS w B c K2 w1) (h2 : CS w1 B c K3 w2) (hx : w1.heap[w.heap.size]? = some (.cells #[.int .i64 0, .int .i64 0] 92 (0, 0))) (hk : K3 ≤ K4) => show CS w B c K4 w2 ∧ w2.heap[w.heap.size]? = some (.cells #[.int .i64 0, .int .i64 0] 92 (0, 0)) ∧ w2.cell? ⟨w.heap.size, 0, none⟩ = some (.int .i64 0) ∧ w2.cell? ⟨w.heap.size, 1, none⟩ = some (.int .i64 0) ∧ w2.frozen? ⟨w.heap.size, 0, none⟩ = false ∧ w2.frozen? ⟨w.heap.size, 1, none⟩ = false from by
    have hy := h2.blk hx (by omega)
    exact ⟨(h1.call h2).mono hk, hy, blkc hy rfl, blkc hy rfl, by simp only [World.frozen?, hy]; rfl, by simp only [World.frozen?, hy]; rfl⟩)
  have HS := Lib.hid (fun (w1 : World) K2 (a b : Value) (h1 : CS w B c K2 w1) (hk : K2 ≤ K + 6) => show CS w B c (K + 6) ((w1.setCell ⟨w.heap.size, 0, none⟩ a).setCell ⟨w.heap.size, 1, none⟩ b) from ((h1.mono hk).set (Nat.le_refl _) a).set (Nat.le_refl _) b)
  obtain ⟨NP, hNP⟩ : ∃ NP, NP = BlkP w B c K := ⟨_, rfl⟩
  rw [← hNP]
  clear h b1
  go_enter Tryz.func123, Tryz.ntmps123
  go_wp2_with fail
  generalize w.alloc (.cells #[.int .i64 0, .int .i64 0] 92) = w1 at *
  refine (oneC B c K 12 w1 HC1.out.st (by omega) (by omega) (by omega)).mono ?_
  rintro e w2 ⟨b, rfl, hc2, -⟩
  obtain ⟨C2, X2, -⟩ := HX.out _ _ _ _ (K + 2) HC1.out hc2 HK1.out (by omega)
  have C2 := Lib.hid C2
  have X2 := Lib.hid X2
  clear hc2
  cases b
  · go_wp2_with fail
    refine (pickC B c (K + 2) 6 w2 C2.out.st (by omega) (by omega) (by omega)).mono ?_
    rintro e w3 ⟨x, x0, x1, rfl, hc3, -⟩
    obtain ⟨C3, X3, -⟩ := HX.out _ _ _ _ (K + 4) C2.out hc3 X2.out (by omega)
    have C3 := Lib.hid C3
    have X3 := Lib.hid X3
    have hw1 : IntKind.i64.wrap (1 + x) = 1 + x := IntWalk.i64_in _ (by omega)
    have hw2 : IntKind.i64.wrap (24 - (1 + x)) = 24 - (1 + x) := IntWalk.i64_in _ (by omega)
    have hw3 : IntKind.i64.wrap (24 - (1 + x) + 1) = 24 - (1 + x) + 1 := IntWalk.i64_in _ (by omega)
    clear hc3
    go_wp2_with fail
    refine (pickC B c (K + 4) _ w3 C3.out.st (by omega) (by omega) (by omega)).mono ?_
    rintro e w4 ⟨y, y0, y1, rfl, hc4, -⟩
    obtain ⟨C4, X4, z0, z1, f0, f1⟩ := HX.out _ _ _ _ (K + 6) C3.out hc4 X3.out (by omega)
    have C4 := Lib.hid C4
    clear hc4 X4
    go_wp2_with fail
    subst hNP
    exact bodyPost_ret (v := .agg #[.int .i64 y, .int .i64 (1 + x)]) (by simp [results, Tryz.results123, go_sem, z0, z1]) rfl ⟨_, _, rfl, HS.out _ _ _ _ C4.out (by omega)⟩
  · go_wp2_with fail
    refine (pickC B c (K + 2) 26 w2 C2.out.st (by omega) (by omega) (by omega)).mono ?_
    rintro e w3 ⟨x, x0, x1, rfl, hc3, -⟩
    obtain ⟨C3, X3, -⟩ := HX.out _ _ _ _ (K + 4) C2.out hc3 X2.out (by omega)
    have C3 := Lib.hid C3
    have X3 := Lib.hid X3
    clear hc3
    go_wp2_with fail
    refine (pickC B c (K + 4) 27 w3 C3.out.st (by omega) (by omega) (by omega)).mono ?_
    rintro e w4 ⟨y, y0, y1, rfl, hc4, -⟩
    obtain ⟨C4, X4, z0, z1, f0, f1⟩ := HX.out _ _ _ _ (K + 6) C3.out hc4 X3.out (by omega)
    have C4 := Lib.hid C4
    clear hc4 X4
    go_wp2_with fail
    subst hNP
    exact bodyPost_ret (v := .agg #[.int .i64 (x - 1), .int .i64 (y - 1)]) (by simp [results, Tryz.results123, go_sem, z0, z1]) rfl ⟨_, _, rfl, HS.out _ _ _ _ C4.out (by omega)⟩
/-- One of some strings that are short. -/
theorem ofC (B : Nat) (c : Value) (K g n cap : Nat) (ss : List ByteArray) (w : World) (h : Cs w B c K) (hk : K ≤ 4000000000000000) (hn : ss.length = n) (h1 : 1 ≤ n) (h2 : n ≤ 1000) (hne : g ≠ B)
    (hr : ∀ j, j < n → w.cell? ⟨g, j, none⟩ = some (.string (ss[j]?.getD ⟨#[]⟩))) :
    Calls Tryz.prog 162 #[.pointer (some ⟨B, 0, none⟩), .slice (some ⟨g, 0, none⟩) n cap] w fun e w' => ∃ s, e = .returned (.string s) ∧ s ∈ ss ∧ CS w B c (K + 2) w' := by
  have HR := Lib.hid hr
  have HN := Lib.hid hn
  clear hr hn
  go_enter Tryz.func162, Tryz.ntmps162
  go_wp2_with fail
  refine (pickC B c K (n : Int) _ h hk (by omega) (by omega)).mono ?_
  rintro e w1 ⟨x, x0, x1, rfl, hc1, hs1⟩
  obtain ⟨j, rfl⟩ := Int.eq_ofNat_of_zero_le x0
  have hj : j < n := by omega
  have hjI : (j : Int) < (n : Int) := by omega
  have hcell := HR.out j hj
  have hc : w1.cell? ⟨g, j, none⟩ = some (.string (ss[j]?.getD ⟨#[]⟩)) := by
    rw [World.cell?_of_block (w := w) (hc1.2.2.block g (World.block_lt_of_cell? w _ hcell) (fun e => hne (by simpa using e)))]; exact hcell
  clear hcell
  go_wp2
  go_ret
  exact ⟨_, rfl, by rw [List.getElem?_eq_getElem (by rw [HN.out]; exact hj)]; exact List.getElem_mem _, hc1⟩
end Go.Proofs.YtmkkdenhjfjmgaaGreat
namespace Go.Proofs.YtmkkdenhjfjmgaaGreat
open Go.RowKit Go.Sort
set_option maxRecDepth 100000

/-- append of a row that may be empty to an own row; where the new row lies. -/
theorem wpList_catL {P : Program} {ops : Array Oper} {rest : List Oper} {o : Oper} {a : Act} {Q : Exit → Act → World → Prop} {w : World} (hgd : o.guard = none) (s x : Operand) (T : TypeId)
    (ho : o.op = .call { callee := .builtin .append, args := #[s, x], argTypes := #[T, T] }) (ht : P.underlying T = some (.slice 3))
    (hinfo : (P.info? 3).map (fun i => (i.zero, i.size, i.bytes)) = some (some (.int .i64 0), 1, 8))
    (base : Nat) (v : Value) (n : Nat) (xs : List Int) (hs : a.eval s = v) (hown : w.ownsRow base 3 1 v n (ints xs))
    (ao : Option Addr) (m c : Nat) (ys : List Int) (hx : a.eval x = .slice ao m c) (hm : ys.length = m) (hy : ao = none → m = 0 ∧ c = 0) (hc : 0 < m → ∃ b off, ao = some ⟨b, off, none⟩ ∧ ∀ j, j < m → w.cell? ⟨b, off + j, none⟩ = some (.int .i64 (ys[j]?.getD 0))) (hn : n + m ≤ 1000000) (hbase : base ≤ w.heap.size)
    (h : ∀ v' w', w'.ownsRow base 3 1 v' (n + m) (ints (xs ++ ys)) → w.grownBy w' v.ownBlock → (v'.ownBlock = v.ownBlock ∨ v'.ownBlock = some w.heap.size) → wpList P ops Q rest (a.put o.dst v') w') :
    wpList P ops Q (o :: rest) a w := by
  obtain ⟨i0, hi, hz0, hz1, hz2⟩ := info_parts hinfo
  rcases ao with _ | ad
  · obtain ⟨rfl, rfl⟩ := hy rfl
    have : ys = [] := List.eq_nil_of_length_eq_zero hm
    subst this
    refine wpList_append_own_none hgd s x T ho base 3 i0 1 ht hi v n (ints xs) hs hown hx ?_
    exact h v w (by simpa using hown) ⟨rfl, rfl, rfl, Nat.le_refl _, fun _ _ _ => rfl⟩ (.inl rfl)
  · refine wpList_append_own_at _ hgd s x T ho base 3 i0 (.int .i64 0) 1 8 ht hi hz0 hz1 hz2 rfl (by decide) v n (ints xs) hs hown ad m c (ints ys) hx (by simpa using hm) ?_ (ints_oneCell _ _) (by unfold maxLen; omega) (by omega) hbase ?_
    · intro j u hu
      have hj : j < ys.length := by have := (List.getElem?_eq_some_iff.1 hu).1; simpa using this
      obtain ⟨b, off, e1, e2⟩ := hc (by omega)
      simp only [Option.some.injEq] at e1
      subst e1
      have e : (⟨b, off, none⟩ : Addr).add j = ⟨b, off + j, none⟩ := by unfold Addr.add; split <;> simp_all
      rw [e, e2 j (by omega), ← hu]
      simp [hj]
    · intro v' w' g1 g2 _ g4
      exact h v' w' (by simpa [ints] using g1) g2 g4
theorem Apt.lies {w : World} {base : Nat} {u v v' : Value} {xs : List Int} (h : Own w base u xs) (ha : Apt u v) (hl : v'.ownBlock = v.ownBlock ∨ v'.ownBlock = some w.heap.size) : Apt u v' := fun q hq e => by
  rcases hl with hl | hl
  · exact ha q hq (hl.symm.trans e)
  · have h1 := (h.lt q hq).2
    rw [hl] at e
    have := Option.some.inj e
    omega
theorem Apt.fresh {w w' : World} {base : Nat} {u v : Value} {n : Nat} {xs : List Int} {us : List Value} {T : TypeId} (h : Own w' w.heap.size u xs) (hv : w.ownsRow base T 1 v n us) : Apt u v := fun q hq e => by
  have h1 := (h.lt q hq).1
  have h2 := (hv.lt q e).2
  omega
end Go.Proofs.YtmkkdenhjfjmgaaGreat
namespace Go.Proofs.YtmkkdenhjfjmgaaGreat
open Go.RowKit Go.Sort
set_option maxRecDepth 100000

theorem row_form0 {w : World} {base n : Nat} {T : TypeId} {v : Value} {us : List Value} {m : Nat} (h : w.ownsRow base T m v n us) : ∃ a c, v = .slice a n c := by
  rcases h.2 with ⟨h, h2⟩ | ⟨g, cap, cur, h, _⟩
  · exact ⟨none, 0, by rw [h, h2]⟩
  · exact ⟨_, _, h⟩
/-- A row of integers of the call's own. -/
def OwR (w : World) (base : Nat) (v : Value) (xs : List Int) : Prop := w.ownsRow base 3 1 v xs.length (ints xs)
theorem OwR.kept {w w' : World} {base : Nat} {v : Value} {xs : List Int} (h : OwR w base v xs) (hk : ∀ g, v.ownBlock = some g → w'.heap[g]? = w.heap[g]?) : OwR w' base v xs := row_kept0 h hk
theorem OwR.lt {w : World} {base : Nat} {v : Value} {xs : List Int} (h : OwR w base v xs) : ∀ g, v.ownBlock = some g → base ≤ g ∧ g < w.heap.size := World.ownsRow.lt h
theorem OwR.own {w : World} {base : Nat} {v : Value} {xs : List Int} (h : OwR w base v xs) : Own w base v xs := own_of_row h
theorem OwR.below {w w' : World} {base : Nat} {v : Value} {xs : List Int} (h : OwR w base v xs) (hb : Below w.heap.size w w') : OwR w' base v xs := h.kept fun g hg => hb.block g (h.lt g hg).2
theorem OwR.base {w : World} {base base' : Nat} {v : Value} {xs : List Int} (h : OwR w base v xs) (hb : base' ≤ base) : OwR w base' v xs :=
  ⟨h.1, h.2.imp id fun ⟨g, cap, cur, k1, k2, k3⟩ => ⟨g, cap, cur, k1, Nat.le_trans hb k2, k3⟩⟩
theorem OwR.cs {w1 w2 : World} {base B K : Nat} {c v : Value} {xs : List Int} (h : OwR w1 base v xs) (hB : B < base) (hc : CS w1 B c K w2) : OwR w2 base v xs :=
  h.kept fun g hg => hc.2.2.block g (h.lt g hg).2 fun e => by have := (h.lt g hg).1; have := Option.some.inj e; omega
theorem OwR.oth {w : World} {base b j : Nat} {v u : Value} {xs : List Int} (h : OwR w base v xs) (hb : ∀ k, v.ownBlock = some k → k ≠ b) : OwR (w.setCell ⟨b, j, none⟩ u) base v xs :=
  h.kept fun k hk => heap_setCell_other w ⟨b, j, none⟩ k u (hb k hk)
theorem OwR.lit1 {w : World} {base : Nat} (a : Int) (hb : base ≤ w.heap.size) : OwR (w.alloc (.cells #[.int .i64 a] 3)) base (.slice (some ⟨w.heap.size, 0, none⟩) 1 1) [a] :=
  ⟨rfl, .inr ⟨w.heap.size, 1, _, rfl, hb, heap_alloc_new w _, Nat.le_refl _, by unfold maxLen; simp, rfl, rfl⟩⟩
/-- What route keeps. -/
structure Rb (b0 : Nat) (n : Net) (w wr : World) (B : Nat) (c : Value) (K b6 : Nat) (u1 u2 : Value) (st : Int) (v sv : Value) (xs sn : List Int) : Prop where
  cs : CS w B c K wr
  net : wr.heap[w.heap.size]? = some (.cells #[u1, u2] 35 (0, 0))
  out : wr.heap[w.heap.size + 1]? = some (.cells #[.int .i64 0, .slice none 0 0] 90 (0, 0))
  box : wr.heap[b6]? = some (.cells #[.int .i64 st, v] 90 (0, 0))
  hb : w.heap.size + 2 ≤ b6
  x : OwR wr (w.heap.size + 2) v xs
  s : OwR wr (w.heap.size + 2) sv sn
  ne : v.ownBlock ≠ some b6 ∧ sv.ownBlock ≠ some b6
  ap : Apt v sv
  d : NtD wr b0 u1 u2 n
  dl : ∀ g, (u1.ownBlock = some g ∨ u2.ownBlock = some g) → g < w.heap.size
  hB0 : B < b0
section
variable {b0 : Nat} {n : Net} {w wr w' : World} {B K K' b6 : Nat} {c u1 u2 v sv : Value} {st : Int} {xs sn : List Int}
theorem Rb.mono (h : Rb b0 n w wr B c K b6 u1 u2 st v sv xs sn) (hk : K ≤ K') : Rb b0 n w wr B c K' b6 u1 u2 st v sv xs sn := ⟨h.cs.mono hk, h.net, h.out, h.box, h.hb, h.x, h.s, h.ne, h.ap, h.d, h.dl, h.hB0⟩
theorem Rb.below (h : Rb b0 n w wr B c K b6 u1 u2 st v sv xs sn) (hb : Below wr.heap.size wr w') : Rb b0 n w w' B c K b6 u1 u2 st v sv xs sn :=
  ⟨h.cs.below hb, kept_o' h.net hb, kept_o' h.out hb, kept_o' h.box hb, h.hb, h.x.below hb, h.s.below hb, h.ne, h.ap, h.d.below hb, h.dl, h.hB0⟩
theorem Rb.call (h : Rb b0 n w wr B c K b6 u1 u2 st v sv xs sn) (hc : CS wr B c K' w') : Rb b0 n w w' B c K' b6 u1 u2 st v sv xs sn := by
  have hB := h.cs.1.1
  have hb := h.hb
  exact ⟨h.cs.call hc, hc.blk h.net (by omega), hc.blk h.out (by omega), hc.blk h.box (by omega), h.hb, h.x.cs (by omega) hc, h.s.cs (by omega) hc, h.ne, h.ap, h.d.cs hc h.hB0, h.dl, h.hB0⟩
/-- One fiber more in the route; it is stored into the route's variable. -/
theorem Rb.addx {ys : List Int} {v' : Value} (h : Rb b0 n w wr B c K b6 u1 u2 st v sv xs sn) (hr : OwR w' (w.heap.size + 2) v' ys) (hg : wr.grownBy w' v.ownBlock) (hl : v'.ownBlock = v.ownBlock ∨ v'.ownBlock = some wr.heap.size) : Rb b0 n w (w'.setCell ⟨b6, 1, none⟩ v') B c K b6 u1 u2 st v' sv ys sn := by
  have hb := h.hb
  have hlt := (Array.getElem?_eq_some_iff.1 h.box).1
  have hv := fun q hq => h.x.lt q hq
  have hn1 : v'.ownBlock ≠ some b6 := fun e => by
    rcases hl with hl | hl
    · exact h.ne.1 (hl.symm.trans e)
    · rw [hl] at e; have := Option.some.inj e; omega
  have hap : Apt v' sv := fun q hq e => by
    rcases hl with hl | hl
    · exact h.ap q (hl.symm.trans hq) e
    · have h1 := (h.s.lt q e).2
      rw [hl] at hq; have := Option.some.inj hq; omega
  have hk : ∀ g, g < wr.heap.size → v.ownBlock ≠ some g → w'.heap[g]? = wr.heap[g]? := fun g h1 h2 => hg.block g h1 fun e => h2 e.symm
  have hbx := (hk b6 hlt h.ne.1).trans h.box
  refine ⟨(h.cs.grown hg fun g e => by have := (hv g e).1; omega).set (by omega) v', ?_, ?_, heap_setCell_same w' b6 1 _ _ v' hbx, h.hb, hr.oth fun k hk e => hn1 (by rw [hk, e]), ?_, ⟨hn1, h.ne.2⟩, hap, h.d.kept fun g _ hg' => ?_, h.dl, h.hB0⟩
  · rw [heap_setCell_other w' ⟨b6, 1, none⟩ w.heap.size v' (show w.heap.size ≠ b6 by omega)]
    exact (hk _ (Array.getElem?_eq_some_iff.1 h.net).1 fun e => by have := (hv _ e).1; omega).trans h.net
  · rw [heap_setCell_other w' ⟨b6, 1, none⟩ (w.heap.size + 1) v' (show w.heap.size + 1 ≠ b6 by omega)]
    exact (hk _ (Array.getElem?_eq_some_iff.1 h.out).1 fun e => by have := (hv _ e).1; omega).trans h.out
  · exact (h.s.kept fun q hq => hk q (h.s.lt q hq).2 fun e => h.ap q e hq).oth fun k hk e => h.ne.2 (by rw [hk, e])
  · have h1 := h.dl g hg'
    rw [heap_setCell_other w' ⟨b6, 1, none⟩ g v' (show g ≠ b6 by omega)]
    exact hk g (Nat.lt_of_lt_of_le h1 h.cs.size) fun e => by have := (hv g e).1; omega
/-- One node more among those that have been seen. -/
theorem Rb.adds {ys : List Int} {v' : Value} (h : Rb b0 n w wr B c K b6 u1 u2 st v sv xs sn) (hr : OwR w' (w.heap.size + 2) v' ys) (hg : wr.grownBy w' sv.ownBlock) (hl : v'.ownBlock = sv.ownBlock ∨ v'.ownBlock = some wr.heap.size) : Rb b0 n w w' B c K b6 u1 u2 st v v' xs ys := by
  have hb := h.hb
  have hlt := (Array.getElem?_eq_some_iff.1 h.box).1
  have hv := fun q hq => h.s.lt q hq
  have hn1 : v'.ownBlock ≠ some b6 := fun e => by
    rcases hl with hl | hl
    · exact h.ne.2 (hl.symm.trans e)
    · rw [hl] at e; have := Option.some.inj e; omega
  have hap : Apt v v' := fun q hq e => by
    rcases hl with hl | hl
    · exact h.ap q hq (hl.symm.trans e)
    · have h1 := (h.x.lt q hq).2
      rw [hl] at e; have := Option.some.inj e; omega
  have hk : ∀ g, g < wr.heap.size → sv.ownBlock ≠ some g → w'.heap[g]? = wr.heap[g]? := fun g h1 h2 => hg.block g h1 fun e => h2 e.symm
  exact ⟨h.cs.grown hg fun g e => by have := (hv g e).1; omega, (hk _ (Array.getElem?_eq_some_iff.1 h.net).1 fun e => by have := (hv _ e).1; omega).trans h.net, (hk _ (Array.getElem?_eq_some_iff.1 h.out).1 fun e => by have := (hv _ e).1; omega).trans h.out, (hk b6 hlt h.ne.2).trans h.box, h.hb, h.x.kept fun q hq => hk q (h.x.lt q hq).2 fun e => h.ap q hq e, hr, ⟨h.ne.1, hn1⟩, hap, h.d.kept fun g _ hg' => hk g (Nat.lt_of_lt_of_le (h.dl g hg') h.cs.size) fun e => by have := (hv g e).1; have := h.dl g hg'; omega, h.dl, h.hB0⟩
end
theorem Rb.begin {b0 : Nat} {n : Net} {w w2 w3 : World} {B K : Nat} {c u1 u2 : Value} {st : Int} (h2 : CS w B c K w2) (hB : B < w.heap.size) (h3 : CS w2 B c (K + 2) w3) (hz : w2.heap.size = w.heap.size + 2) (hn : w2.heap[w.heap.size]? = some (.cells #[u1, u2] 35 (0, 0))) (ho : w2.heap[w.heap.size + 1]? = some (.cells #[.int .i64 0, .slice none 0 0] 90 (0, 0))) (hd : NtD w b0 u1 u2 n) (hb2 : Below w.heap.size w w2) (hB0 : B < b0) :
    Rb b0 n w ((w3.alloc (.cells #[.int .i64 st, .slice none 0 0] 90)).alloc (.cells #[.int .i64 st] 3)) B c (K + 2) w3.heap.size u1 u2 st (.slice none 0 0) (.slice (some ⟨w3.heap.size + 1, 0, none⟩) 1 1) [] [st] := by
  have hs := h3.size
  have e1 : (w3.alloc (.cells #[.int .i64 st, .slice none 0 0] 90)).heap.size = w3.heap.size + 1 := by simp
  have o1 := OwR.lit1 (w := w3.alloc (.cells #[.int .i64 st, .slice none 0 0] 90)) (base := w.heap.size + 2) st (by omega)
  rw [e1] at o1
  have k1 := heap_alloc_new w3 (.cells #[.int .i64 st, .slice none 0 0] 90)
  have k2 : ∀ {g : Nat} {o : Obj}, w2.heap[g]? = some o → g ≠ B → ((w3.alloc (.cells #[.int .i64 st, .slice none 0 0] 90)).alloc (.cells #[.int .i64 st] 3)).heap[g]? = some o := fun {g o} hg hne => by
    have := h3.blk hg hne
    have hl := (Array.getElem?_eq_some_iff.1 this).1
    exact (heap_alloc_old _ _ (by omega)).trans ((heap_alloc_old _ _ hl).trans this)
  refine ⟨((h2.call h3).alloc _).alloc _, k2 hn (by omega), k2 ho (by omega), (heap_alloc_old _ _ (by omega)).trans k1, by omega, ⟨rfl, .inl ⟨rfl, rfl⟩⟩, o1, ⟨fun e => by (cases e), fun e => ?_⟩, (fun q hq => by cases hq), (((hd.below hb2).cs h3 hB0).below ((Below.refl _ _).alloc (Nat.le_refl _) _)).below ((Below.refl _ _).alloc (Nat.le_refl _) _), fun g hg => (hd.lt g hg).2, hB0⟩
  have e' : w3.heap.size + 1 = w3.heap.size := Option.some.inj e
  omega
theorem Rb.pick {b0 : Nat} {n : Net} {w wr : World} {B K b6 : Nat} {c u1 u2 v sv : Value} {st : Int} {xs sn : List Int} (h : Rb b0 n w wr B c K b6 u1 u2 st v sv xs sn) (hk : K ≤ 4000000000000000) (N : Int) (h1 : 1 ≤ N) (h2 : N ≤ 1073741824) :
    Calls Tryz.prog 82 #[.pointer (some ⟨B, 0, none⟩), .int .i64 N] wr fun e w' => ∃ x : Int, 0 ≤ x ∧ x ≤ N - 1 ∧ e = .returned (.int .i64 x) ∧ Hid (Rb b0 n w w' B c (K + 2) b6 u1 u2 st v sv xs sn) ∧ CS wr B c (K + 2) w' := by
  refine (pickC B c K N wr h.cs.st hk h1 h2).mono ?_
  rintro e w' ⟨x, x0, x1, rfl, hc, -⟩
  exact ⟨x, x0, x1, rfl, h.call hc, hc⟩
def RtR (w : World) (B : Nat) (c : Value) (K : Nat) (st : Int) (v : Value) (w' : World) : Prop := ∃ xs, xs.length ≤ 5 ∧ OwR w' w.heap.size v xs ∧ CS w B c (K + 20) w'
def RtP (w : World) (B : Nat) (c : Value) (K : Nat) (e : Ending) (w' : World) : Prop := ∃ st v, e = .returned (.agg #[.int .i64 st, v]) ∧ RtR w B c K st v w'
theorem Rb.done {b0 : Nat} {n : Net} {w wr : World} {B K K' b6 : Nat} {c u1 u2 v sv : Value} {st : Int} {xs sn : List Int} (h : Rb b0 n w wr B c K' b6 u1 u2 st v sv xs sn) (hk : K' ≤ K + 20) (hl : xs.length ≤ 5) :
    RtP w B c K (.returned (.agg #[.int .i64 st, v])) ((wr.setCell ⟨w.heap.size + 1, 0, none⟩ (.int .i64 st)).setCell ⟨w.heap.size + 1, 1, none⟩ v) := by
  refine ⟨st, v, rfl, xs, hl, ?_, ((h.cs.mono hk).set (Nat.le_succ _) _).set (Nat.le_succ _) _⟩
  have hn : ∀ k, v.ownBlock = some k → k ≠ w.heap.size + 1 := fun k hk => by have := (h.x.lt k hk).1; omega
  exact ((h.x.oth hn).oth hn).base (by omega)
theorem kk_aux {K m : Nat} (h1 : m ≤ 4) (h2 : 0 < m) : K + 12 - 2 * m + 2 ≤ K + 12 - 2 * (m - 1) := by omega
set_option maxHeartbeats 12800000 in
theorem route_any (B b0 : Nat) (c : Value) (K : Nat) (u1 u2 : Value) (n : Net) (w : World) (h : Cs w B c K) (hk : K ≤ 3000000000000000) (hd : NtD w b0 u1 u2 n) (hB0 : B < b0) :
    Calls Tryz.prog 160 #[ptr B, .agg #[u1, u2]] w (RtP w B c K) := by
  have hBw := h.lt.1
  obtain ⟨⟨a1, c1, rfl⟩, a2, c2, rfl⟩ := hd.slices
  have HD := Lib.hid hd
  have HO := Lib.hid (fun k t w' (hk : k < n.fs.length) (hd : NtD w' b0 (.slice a1 n.ns.length c1) (.slice a2 n.fs.length c2) n) => l2Other_any (.slice a1 n.ns.length c1) (.slice a2 n.fs.length c2) n k t w' hd.fs.rd ⟨_, _, _, rfl⟩ hk)
  have h1 := hd.nl
  have h2 := hd.fl
  generalize n.ns.length = m1 at *
  generalize n.fs.length = m2 at *
  clear hd
  obtain ⟨NP, hNP⟩ : ∃ NP, NP = RtP w B c K := ⟨_, rfl⟩
  rw [← hNP]
  have b1 := (Below.refl w.heap.size w).alloc (Nat.le_refl _) (.cells #[.slice a1 m1 c1, .slice a2 m2 c2] 35)
  have b2 := b1.alloc b1.size (.cells #[.int .i64 0, .slice none 0 0] 90)
  have HC2 := Lib.hid (h.here.below b2)
  have HX1 := Lib.hid (show ((w.alloc (.cells #[.slice a1 m1 c1, .slice a2 m2 c2] 35)).alloc (.cells #[.int .i64 0, .slice none 0 0] 90)).heap[w.heap.size]? = some (.cells #[.slice a1 m1 c1, .slice a2 m2 c2] 35 (0, 0)) from (heap_alloc_old _ _ (by simp)).trans (heap_alloc_new w _))
  have HX2 := Lib.hid (show ((w.alloc (.cells #[.slice a1 m1 c1, .slice a2 m2 c2] 35)).alloc (.cells #[.int .i64 0, .slice none 0 0] 90)).heap[w.heap.size + 1]? = some (.cells #[.int .i64 0, .slice none 0 0] 90 (0, 0)) from by have := heap_alloc_new (w.alloc (.cells #[.slice a1 m1 c1, .slice a2 m2 c2] 35)) (.cells #[.int .i64 0, .slice none 0 0] 90); simpa using this)
  have HZ2 := Lib.hid (show ((w.alloc (.cells #[.slice a1 m1 c1, .slice a2 m2 c2] 35)).alloc (.cells #[.int .i64 0, .slice none 0 0] 90)).heap.size = w.heap.size + 2 by simp)
  have HB2 := Lib.hid b2
  have m1I : (1 : Int) ≤ (m1 : Int) := by omega
  clear b1 b2 h
  go_enter Tryz.func160, Tryz.ntmps160
  go_wp2_with fail
  generalize (w.alloc (.cells #[.slice a1 m1 c1, .slice a2 m2 c2] 35)).alloc (.cells #[.int .i64 0, .slice none 0 0] 90) = w2 at *
  refine (pickC B c K (m1 : Int) _ HC2.out.st (by omega) (by omega) (by omega)).mono ?_
  rintro e w3 ⟨st, s0, s1, rfl, hc3, -⟩
  have CC := Lib.hid (Rb.begin (st := st) HC2.out hBw hc3 HZ2.out HX1.out HX2.out HD.out HB2.out hB0)
  clear hc3 HX1 HX2 s0 s1
  go_wp2_with fail
  refine (CC.out.pick (by omega) 4 (by omega) (by omega)).mono ?_
  rintro e w4 ⟨xm, xm0, xm1, rfl, CC, -⟩
  obtain ⟨m, rfl⟩ := Int.eq_ofNat_of_zero_le xm0
  have hm3 : m ≤ 3 := by omega
  have hwm : IntKind.i64.wrap (1 + (m : Int)) = ((m + 1 : Nat) : Int) := by rw [IntWalk.i64_in _ (by omega)]; omega
  go_wp2_with fail
  go_loopw [7, 8, 9, 10, 11, 12] (fun s7 s8 _ _ _ _ wr => ∃ (m : Nat) (v : Value) (xs sn : List Int), m ≤ 4 ∧ s8 = .int .i64 m ∧ xs.length + m ≤ 4 ∧ sn.length + m ≤ 5 ∧ 1 ≤ sn.length ∧ Hid (Rb b0 n w wr B c (K + 12 - 2 * m) w3.heap.size (.slice a1 m1 c1) (.slice a2 m2 c2) st v s7 xs sn)) (fun _ i _ _ _ _ _ => (intOf i).toNat)
  case atStart => exact ⟨m + 1, _, _, _, by omega, by simp, by simp; omega, by simp; omega, by simp, CC.out.mono (by omega)⟩
  case round =>
    clear CC hwm hm3 xm0 xm1
    obtain ⟨wo, hwo⟩ : ∃ wo, wo = wr := ⟨_, rfl⟩
    subst hwo
    obtain ⟨m, v, xs, sn, hm, rfl, hlx, hls, hls1, CC⟩ := hrel
    obtain ⟨ax, cx, nx, HNX, rfl, hcx, hnx, hax⟩ := CC.out.x.own.rd.opn
    obtain ⟨bsv, cs', nsv, HNS, hsv, hcs', hns', has⟩ := CC.out.s.own.rd.opn
    subst hsv
    have HSL := Lib.hid hls1
    rw [HNS.out] at hls hls1
    rw [HNX.out] at hlx
    by_cases hlt : 0 < m
    · have hltI : (0 : Int) < (m : Int) := by omega
      have hwm : IntKind.i64.wrap ((m : Int) - 1) = ((m - 1 : Nat) : Int) := by rw [IntWalk.i64_in _ (by omega)]; omega
      obtain ⟨bs, offs, rfl, hbs, hcs⟩ := has hls1
      have hqI : (nsv : Int) - 1 < (nsv : Int) := by omega
      have hqI0 : (0 : Int) ≤ (nsv : Int) - 1 := by omega
      have hqI1 : (1 : Int) ≤ (nsv : Int) := by omega
      have hqn : nsv - 1 < nsv := by omega
      have hwq : IntKind.i64.wrap ((nsv : Int) - 1) = (nsv : Int) - 1 := IntWalk.i64_in _ (by omega)
      have htn : ((nsv : Int) - 1).toNat = nsv - 1 := by omega
      have hsq := hcs (nsv - 1) hqn
      obtain ⟨t, ht⟩ : ∃ t, t = sn[nsv - 1]?.getD 0 := ⟨_, rfl⟩
      have HTT := Lib.hid ht
      rw [← ht] at hsq
      clear ht
      have CA := Lib.hid (CC.out.below ((Below.refl _ _).alloc (Nat.le_refl _) (.cells #[] 3)))
      have HR0 := Lib.hid (show (wo.alloc (.cells #[] 3)).ownsRow wo.heap.size 3 1 (.slice (some ⟨wo.heap.size, 0, none⟩) 0 0) 0 (ints []) from World.ownsRow_made wo #[] 0 (Nat.le_refl _) (Nat.zero_le _) (by simp))
      have HB0 := Lib.hid ((Below.refl wo.heap.size wo).alloc (Nat.le_refl _) (.cells #[] 3))
      have HSQ := Lib.hid hsq
      clear hcs has hax hsq
      go_wp2_with fail
      go_loopw [9, 10, 11] (fun s9 i _ wx => ∃ (k : Nat) (l : List Int), k ≤ m2 ∧ i = .int .i64 k ∧ l.length ≤ k ∧ Hid (∀ x ∈ l, 0 ≤ x ∧ x < (m2 : Int)) ∧ Hid (wx.ownsRow wo.heap.size 3 1 s9 l.length (ints l)) ∧ Hid (Below wo.heap.size wo wx)) (fun _ i _ _ => m2 - (intOf i).toNat)
      case atStart => exact ⟨0, [], Nat.zero_le _, rfl, Nat.zero_le _, fun x hx => (by cases hx), HR0.out, HB0.out⟩
      case round =>
        clear HR0 HB0 CA
        obtain ⟨k, l, hk2, rfl, hll, HL, HR, HB⟩ := hrel
        have CX := Lib.hid (CC.out.below HB.out)
        obtain ⟨al, cl, rfl⟩ := row_form0 HR.out
        have t0 : wr.cell? ⟨w.heap.size, 0, none⟩ = some (.slice a1 m1 c1) := blkc CX.out.net rfl
        have t1 : wr.cell? ⟨w.heap.size, 1, none⟩ = some (.slice a2 m2 c2) := blkc CX.out.net rfl
        have t2 := (HB.out.cell (p := ⟨bs, offs + (nsv - 1), none⟩) hbs).trans HSQ.out
        by_cases hlk : k < m2
        · have hlkI : (k : Int) < (m2 : Int) := by omega
          have hwk : IntKind.i64.wrap ((k : Int) + 1) = (k : Int) + 1 := IntWalk.i64_in _ (by omega)
          have HS := Lib.hid (fun (w' : World) (hb : Below wr.heap.size wr w') => show Below wr.heap.size wr w' ∧ w'.cell? ⟨w.heap.size, 0, none⟩ = some (.slice a1 m1 c1) ∧ w'.cell? ⟨w.heap.size, 1, none⟩ = some (.slice a2 m2 c2) ∧ w'.cell? ⟨bs, offs + (nsv - 1), none⟩ = some (.int .i64 t) from
            ⟨hb, (hb.cell (World.block_lt_of_cell? _ _ t0)).trans t0, (hb.cell (World.block_lt_of_cell? _ _ t1)).trans t1, (hb.cell (World.block_lt_of_cell? _ _ t2)).trans t2⟩)
          have HOR := Lib.hid (fun w' (hb : Below wr.heap.size wr w') => HO.out k t w' hlk (CX.out.below hb).d)
          have HHS := Lib.hid (fun (o : Int) w' (hb : Below wr.heap.size wr w') => l1Has_any _ sn o w' (CX.out.below hb).s.own.rd)
          have hb0 := (Below.refl wr.heap.size wr).drew
          have hwr := HB.out.size
          generalize othE (fbA n k) t = o at *
          go_wp2_with fail
          clear t0 t1 t2
          go_region_held3 (fun w' => Below wr.heap.size wr w' ∧ w'.cell? ⟨w.heap.size, 0, none⟩ = some (.slice a1 m1 c1) ∧ w'.cell? ⟨w.heap.size, 1, none⟩ = some (.slice a2 m2 c2) ∧ w'.cell? ⟨bs, offs + (nsv - 1), none⟩ = some (.int .i64 t))
            (first | exact HS.out _ (by assumption))
            (first | (go_at_call 194; (with_reducible refine (HOR.out _ hb0).mono ?_); rintro e w7 ⟨rfl, b7⟩; have B7 := hb0.trans (b7.mono hb0.size)))
          by_cases ho : 0 ≤ o
          · have hoI : (0 : Int) ≤ o := ho
            have HB7 := Lib.hid (HB.out.trans (B7.mono HB.out.size))
            have HR7 := Lib.hid (row_kept0 HR.out (fun g hg => B7.block g (HR.out.lt g hg).2))
            have HH7 := Lib.hid (HHS.out o _ B7)
            have hs7 := HB7.out.size
            clear b7 B7
            cases hco : sn.contains o
            · rw [hco] at HH7
              clear hco
              go_wp2_with (first | (go_at_call 97; (with_reducible refine HH7.out.mono ?_); rintro e w8 ⟨rfl, rfl⟩) | (at_builtin; refine wpList_push rfl (.tmp 54) (.tmp 56) 29 rfl Tryz.underlying29 Tryz.infoInt wo.heap.size _ l.length l (by rfl) HR7.out (by rfl) (by omega) hs7 ?_; intro v' w9 hr9 hg9; have HB9 := Lib.hid (HB7.out.grown hg9 hs7 (fun q hq => (HR7.out.lt q hq).1)); have HR9 := Lib.hid hr9; clear hr9 hg9))
              go_roundw
              case rel => exact ⟨k + 1, l ++ [(k : Int)], by omega, by go_num, by simp; omega, fun x hx => (by rcases List.mem_append.1 hx with h | h; exact HL.out x h; rw [List.mem_singleton.1 h]; omega), Lib.hid (by rw [List.length_append]; exact HR9.out), HB9.out⟩
              case measure => simp [intOf]; omega
            · rw [hco] at HH7
              clear hco
              go_wp2_with (first | (go_at_call 97; (with_reducible refine HH7.out.mono ?_); rintro e w8 ⟨rfl, rfl⟩))
              go_roundw
              case rel => exact ⟨k + 1, l, by omega, by go_num, by omega, HL.out, HR7.out, HB7.out⟩
              case measure => simp [intOf]; omega
          · have hoI : ¬ (0 : Int) ≤ o := ho
            have HB7 := Lib.hid (HB.out.trans (B7.mono HB.out.size))
            have HR7 := Lib.hid (row_kept0 HR.out (fun g hg => B7.block g (HR.out.lt g hg).2))
            clear b7 B7
            go_wp2_with fail
            go_roundw
            case rel => exact ⟨k + 1, l, by omega, by go_num, by omega, HL.out, HR7.out, HB7.out⟩
            case measure => simp [intOf]; omega
        · have hlkI : ¬ (k : Int) < (m2 : Int) := by omega
          clear hlk
          cases l with
          | nil =>
            simp only [List.length_nil] at HR hll
            have hl0 : ((0 : Nat) : Int) = 0 := rfl
            have z0 : wr.cell? ⟨w.heap.size + 1, 0, none⟩ = some (.int .i64 0) := blkc CX.out.out rfl
            have z1 : wr.cell? ⟨w.heap.size + 1, 1, none⟩ = some (.slice none 0 0) := blkc CX.out.out rfl
            have f0 : wr.frozen? ⟨w.heap.size + 1, 0, none⟩ = false := by simp only [World.frozen?, CX.out.out]; rfl
            have f1 : wr.frozen? ⟨w.heap.size + 1, 1, none⟩ = false := by simp only [World.frozen?, CX.out.out]; rfl
            have t4 : wr.cell? ⟨w3.heap.size, 0, none⟩ = some (.int .i64 st) := blkc CX.out.box rfl
            have t5 : wr.cell? ⟨w3.heap.size, 1, none⟩ = some (.slice ax nx cx) := blkc CX.out.box rfl
            go_wp2_with fail
            subst hNP
            exact bodyPost_ret (v := .agg #[.int .i64 st, .slice ax nx cx]) (by simp [results, Tryz.results160, go_sem, z0, z1]) rfl (CX.out.done (by omega) (by rw [HNX.out]; omega))
          | cons l0 ls =>
            obtain ⟨nl, hnl⟩ : ∃ nl, nl = (l0 :: ls).length := ⟨_, rfl⟩
            have hnl0 : 0 < nl := by rw [hnl]; simp
            have HLE := Lib.hid hnl
            rw [← hnl] at HR hll ⊢
            clear hnl
            have hnlI : ¬ (nl : Int) = 0 := by omega
            have hnlI2 : (1 : Int) ≤ (nl : Int) := by omega
            obtain ⟨al', cl', nl', HNL, hle, -, -, hcl⟩ := (own_of_row HR.out).rd.opn
            cases hle
            obtain ⟨gl, offl, rfl, hgl, hcl⟩ := hcl hnl0
            have HCL := Lib.hid hcl
            clear hcl
            go_wp2_with fail
            refine (CX.out.pick (by omega) (nl : Int) (by omega) (by omega)).mono ?_
            rintro e w5 ⟨y, y0, y1, rfl, CY, hc5⟩
            obtain ⟨j, rfl⟩ := Int.eq_ofNat_of_zero_le y0
            have hj : j < nl := by omega
            have hjI : (j : Int) < (nl : Int) := by omega
            have hgB : gl ≠ B := by have := (HR.out.lt gl rfl).1; have := CC.out.cs.size; omega
            have hcell : w5.cell? ⟨gl, offl + j, none⟩ = some (.int .i64 ((l0 :: ls)[j]?.getD 0)) := by
              rw [World.cell?_of_block (w := wr) (hc5.2.2.block gl hgl (fun e => hgB (by have := Option.some.inj e; omega)))]; exact HCL.out j hj
            have hfb : 0 ≤ (l0 :: ls)[j]?.getD 0 ∧ (l0 :: ls)[j]?.getD 0 < (m2 : Int) := by
              have hj2 : j < (l0 :: ls).length := by rw [← HLE.out]; exact hj
              rw [List.getElem?_eq_getElem hj2]
              exact HL.out _ (List.getElem_mem hj2)
            generalize (l0 :: ls)[j]?.getD 0 = ff at *
            obtain ⟨f, rfl⟩ := Int.eq_ofNat_of_zero_le hfb.1
            have hfm : f < m2 := by omega
            have HCS5 := Lib.hid hc5
            have t5 : w5.cell? ⟨w3.heap.size, 1, none⟩ = some (.slice ax nx cx) := blkc CY.out.box rfl
            have CZ := Lib.hid (CY.out.below ((Below.refl _ _).alloc (Nat.le_refl _) (.cells #[.int .i64 (f : Int)] 3)))
            have hzz := CZ.out.cs.size
            have hz3 := CZ.out.hb
            have hlx4 : xs.length + m ≤ 4 := by rw [HNX.out]; exact hlx
            have hls5 : sn.length + m ≤ 5 := by rw [HNS.out]; exact hls
            have HXR := Lib.hid CZ.out.x
            have hz1 : w.heap.size + 2 ≤ (w5.alloc (.cells #[.int .i64 (f : Int)] 3)).heap.size := by have := (Array.getElem?_eq_some_iff.1 CZ.out.box).1; omega
            unfold OwR at HXR
            rw [HNX.out] at HXR
            clear hfb hc5 CX HCL HR HB HL t2 hgB t0 t1
            go_wp2_with (at_builtin; go_loud (refine wpList_catL rfl (.tmp 69) (.tmp 71) 29 rfl Tryz.underlying29 Tryz.infoInt (w.heap.size + 2) (.slice ax nx cx) nx xs (by rfl) HXR.out (some ⟨_, 0, none⟩) 1 1 [(f : Int)] (by rfl) rfl (fun e => by cases e) (fun _ => ⟨_, _, rfl, fun j hj => by (obtain rfl : j = 0 := (by omega)); exact blkc (heap_alloc_new _ _) rfl⟩) (by omega) hz1 ?_); intro v' w6 ho6 hg6 hl6; obtain ⟨a6, c6, rfl⟩ := row_form0 ho6; have HP := Lib.hid (CZ.out.addx (ys := xs ++ [(f : Int)]) (by unfold OwR; rw [List.length_append, HNX.out]; exact ho6) hg6 hl6); have hx6 := (hg6.block w3.heap.size (Array.getElem?_eq_some_iff.1 CZ.out.box).1 fun e => CZ.out.ne.1 e.symm).trans CZ.out.box; have y6 := blkc hx6 (show _ = some _ from rfl) (j := 1); have f6 : w6.frozen? ⟨w3.heap.size, 1, none⟩ = false := (by simp only [World.frozen?, hx6]; rfl); clear ho6 hg6 hl6 hx6)
            generalize w6.setCell ⟨w3.heap.size, 1, none⟩ (.slice a6 (nx + 1) c6) = w7 at *
            clear CZ CY HXR y6 f6 t5 hcell HNX hlx
            have t0 : w7.drew.cell? ⟨w.heap.size, 0, none⟩ = some (.slice a1 m1 c1) := blkc HP.out.net rfl
            have t1 : w7.drew.cell? ⟨w.heap.size, 1, none⟩ = some (.slice a2 m2 c2) := blkc HP.out.net rfl
            have t2 : w7.drew.cell? ⟨bs, offs + (nsv - 1), none⟩ = some (.int .i64 t) := by
              rw [HTT.out]; exact (HP.out.s.own.cellAt rfl).2 (nsv - 1) (by rw [HNS.out]; exact hqn)
            have hkk : K + 12 - 2 * m + 2 ≤ K + 12 - 2 * (m - 1) := kk_aux hm hlt
            have hxl : (xs ++ [(f : Int)]).length + (m - 1) ≤ 4 := by rw [List.length_append]; simp; omega
            have hsl : (sn ++ [othE (fbA n f) t]).length + (m - 1) ≤ 5 := by rw [List.length_append]; simp; omega
            have hb0 := (Below.refl w7.heap.size w7).drew
            have HO7 := Lib.hid (fun w' (hb : Below w7.heap.size w7 w') => HO.out f t w' hfm (HP.out.below hb).d)
            generalize othE (fbA n f) t = o at *
            go_region_law (first
              | ((refine step_of_list rfl ?_); (with_reducible show wpList _ _ _ (⟨some 85, _, _, _, _, _⟩ :: _) _ _); (go_loud (refine wpList_catL rfl (.tmp 74) (.tmp 84) 29 rfl Tryz.underlying29 Tryz.infoInt (w.heap.size + 2) (.slice (some ⟨bs, offs, none⟩) nsv cs') nsv sn (by rfl) HS8.out (some ⟨_, 0, none⟩) 1 1 [o] (by rfl) rfl (fun e => by cases e) (fun _ => ⟨_, _, rfl, fun j hj => by (obtain rfl : j = 0 := (by omega)); exact blkc (heap_alloc_new _ _) rfl⟩) (by omega) hz8 ?_)); (intro v9 w9 ho9 hg9 hl9); (obtain ⟨a9, c9, rfl⟩ := row_form0 ho9); (have HQ := Lib.hid (CP8.out.adds (ys := sn ++ [o]) (by unfold OwR; rw [List.length_append, HNS.out]; exact ho9) hg9 hl9)); (clear ho9 hg9 hl9); (unfold wpList); (refine ⟨rfl, ?_⟩))
              | (go_simp; go_at_call 194; (with_reducible refine (HO7.out _ hb0).mono ?_); rintro e w8 ⟨rfl, b8⟩; have CP8 := Lib.hid ((HP.out.below (hb0.trans (b8.mono hb0.size))).below ((Below.refl w8.heap.size w8).alloc (Nat.le_refl _) (.cells #[.int .i64 o] 3))); have HS8 := Lib.hid CP8.out.s; (unfold OwR at HS8); (rw [HNS.out] at HS8); have hz8 : w.heap.size + 2 ≤ (w8.alloc (.cells #[.int .i64 o] 3)).heap.size := (by have := (Array.getElem?_eq_some_iff.1 CP8.out.box).1; have := CP8.out.hb; omega)))
            all_goals
              clear t0 t1 t2 CP8 HS8 HP b8 HO7
              go_wp2_with fail
              go_roundw
              case rel => exact ⟨m - 1, _, xs ++ [(f : Int)], sn ++ [o], by omega, by go_num, hxl, hsl, by simp, HQ.out.mono hkk⟩
              case measure => simp [intOf]; omega
    · have hltI : ¬ (0 : Int) < (m : Int) := by omega
      have CX := CC
      have z0 : wo.cell? ⟨w.heap.size + 1, 0, none⟩ = some (.int .i64 0) := blkc CX.out.out rfl
      have z1 : wo.cell? ⟨w.heap.size + 1, 1, none⟩ = some (.slice none 0 0) := blkc CX.out.out rfl
      have f0 : wo.frozen? ⟨w.heap.size + 1, 0, none⟩ = false := by simp only [World.frozen?, CX.out.out]; rfl
      have f1 : wo.frozen? ⟨w.heap.size + 1, 1, none⟩ = false := by simp only [World.frozen?, CX.out.out]; rfl
      have t4 : wo.cell? ⟨w3.heap.size, 0, none⟩ = some (.int .i64 st) := blkc CX.out.box rfl
      have t5 : wo.cell? ⟨w3.heap.size, 1, none⟩ = some (.slice ax nx cx) := blkc CX.out.box rfl
      go_wp2_with fail
      subst hNP
      exact bodyPost_ret (v := .agg #[.int .i64 st, .slice ax nx cx]) (by simp [results, Tryz.results160, go_sem, z0, z1]) rfl (CX.out.done (by omega) (by rw [HNX.out]; omega))
end Go.Proofs.YtmkkdenhjfjmgaaGreat
namespace Go.Proofs.YtmkkdenhjfjmgaaGreat
open Go.RowKit Go.Sort
set_option maxRecDepth 100000

theorem RtP.of {w wr : World} {B K : Nat} {c v : Value} {st : Int} {xs : List Int} (hl : xs.length ≤ 5) (hx : OwR wr (w.heap.size + 2) v xs) (hc : CS w B c (K + 20) wr) :
    RtP w B c K (.returned (.agg #[.int .i64 st, v])) ((wr.setCell ⟨w.heap.size + 1, 0, none⟩ (.int .i64 st)).setCell ⟨w.heap.size + 1, 1, none⟩ v) := by
  refine ⟨st, v, rfl, xs, hl, ?_, (hc.set (Nat.le_succ _) _).set (Nat.le_succ _) _⟩
  have hn : ∀ k, v.ownBlock = some k → k ≠ w.heap.size + 1 := fun k hk => by have := (hx.lt k hk).1; omega
  exact ((hx.oth hn).oth hn).base (by omega)
set_option maxHeartbeats 6400000 in
theorem routed_any (B b0 : Nat) (c : Value) (K : Nat) (u1 u2 : Value) (n : Net) (w : World) (h : Cs w B c K) (hk : K ≤ 3000000000000000) (hd : NtD w b0 u1 u2 n) (hB0 : B < b0) (hf0 : 0 < n.fs.length) :
    Calls Tryz.prog 156 #[ptr B, .agg #[u1, u2]] w (RtP w B c K) := by
  have hBw := h.lt.1
  obtain ⟨⟨a1, c1, rfl⟩, a2, c2, rfl⟩ := hd.slices
  obtain ⟨NP, hNP⟩ : ∃ NP, NP = RtP w B c K := ⟨_, rfl⟩
  rw [← hNP]
  have b1 := (Below.refl w.heap.size w).alloc (Nat.le_refl _) (.cells #[.slice a1 n.ns.length c1, .slice a2 n.fs.length c2] 35)
  have b2 := b1.alloc b1.size (.cells #[.int .i64 0, .slice none 0 0] 90)
  have HC2 := Lib.hid (h.here.below b2)
  have HD2 := Lib.hid (hd.below b2)
  have HX1 := Lib.hid (show ((w.alloc (.cells #[.slice a1 n.ns.length c1, .slice a2 n.fs.length c2] 35)).alloc (.cells #[.int .i64 0, .slice none 0 0] 90)).heap[w.heap.size]? = some (.cells #[.slice a1 n.ns.length c1, .slice a2 n.fs.length c2] 35 (0, 0)) from (heap_alloc_old _ _ (by simp)).trans (heap_alloc_new w _))
  have HX2 := Lib.hid (show ((w.alloc (.cells #[.slice a1 n.ns.length c1, .slice a2 n.fs.length c2] 35)).alloc (.cells #[.int .i64 0, .slice none 0 0] 90)).heap[w.heap.size + 1]? = some (.cells #[.int .i64 0, .slice none 0 0] 90 (0, 0)) from by have := heap_alloc_new (w.alloc (.cells #[.slice a1 n.ns.length c1, .slice a2 n.fs.length c2] 35)) (.cells #[.int .i64 0, .slice none 0 0] 90); simpa using this)
  have HZ2 := Lib.hid (show ((w.alloc (.cells #[.slice a1 n.ns.length c1, .slice a2 n.fs.length c2] 35)).alloc (.cells #[.int .i64 0, .slice none 0 0] 90)).heap.size = w.heap.size + 2 by simp)
  have hw2 : ∃ w2, w2 = (w.alloc (.cells #[.slice a1 n.ns.length c1, .slice a2 n.fs.length c2] 35)).alloc (.cells #[.int .i64 0, .slice none 0 0] 90) := ⟨_, rfl⟩
  have q0 : ((w.alloc (.cells #[.slice a1 n.ns.length c1, .slice a2 n.fs.length c2] 35)).alloc (.cells #[.int .i64 0, .slice none 0 0] 90)).cell? ⟨w.heap.size, 0, none⟩ = some (.slice a1 n.ns.length c1) := blkc HX1.out rfl
  have q1 : ((w.alloc (.cells #[.slice a1 n.ns.length c1, .slice a2 n.fs.length c2] 35)).alloc (.cells #[.int .i64 0, .slice none 0 0] 90)).cell? ⟨w.heap.size, 1, none⟩ = some (.slice a2 n.fs.length c2) := blkc HX1.out rfl
  clear b1 b2 h hd hw2
  go_enter Tryz.func156, Tryz.ntmps156
  go_wp2_with fail
  generalize (w.alloc (.cells #[.slice a1 n.ns.length c1, .slice a2 n.fs.length c2] 35)).alloc (.cells #[.int .i64 0, .slice none 0 0] 90) = w2 at *
  refine (route_any B b0 c K _ _ n w2 HC2.out.st hk HD2.out hB0).mono ?_
  rintro e w3 ⟨st, v, rfl, xs, hl, hx, hc3⟩
  have HC3 := Lib.hid (HC2.out.call hc3)
  have HX := Lib.hid hx
  have hs3 := hc3.size
  have hz2 := HZ2.out
  have x1 := hc3.blk HX1.out (by omega)
  have x2 := hc3.blk HX2.out (by omega)
  have HD3 := Lib.hid (HD2.out.cs hc3 hB0)
  obtain ⟨ax, cx, nx, HNX, rfl, -, -, -⟩ := hx.own.rd.opn
  obtain ⟨bx, bc, blt, bf⟩ := box_facts w3 #[.int .i64 st, .slice ax nx cx] 90
  have p0 := bc 0 _ rfl
  have p1 := bc 1 _ rfl
  have HBX := Lib.hid bx
  have l3 : w.heap.size + 1 < w3.heap.size := by omega
  have x1 := Lib.hid ((heap_alloc_old w3 (.cells #[.int .i64 st, .slice ax nx cx] 90) (by omega)).trans x1)
  have x2 := Lib.hid ((heap_alloc_old w3 (.cells #[.int .i64 st, .slice ax nx cx] 90) (by omega)).trans x2)
  have t1 := blkc x1.out (show _ = some (Value.slice a2 n.fs.length c2) from rfl) (j := 1)
  have z0 := blkc x2.out (show _ = some (Value.int .i64 0) from rfl) (j := 0)
  have z1 := blkc x2.out (show _ = some (Value.slice none 0 0) from rfl) (j := 1)
  have f0 : (w3.alloc (.cells #[.int .i64 st, .slice ax nx cx] 90)).frozen? ⟨w.heap.size + 1, 0, none⟩ = false := by simp only [World.frozen?, x2.out]; rfl
  have f1 : (w3.alloc (.cells #[.int .i64 st, .slice ax nx cx] 90)).frozen? ⟨w.heap.size + 1, 1, none⟩ = false := by simp only [World.frozen?, x2.out]; rfl
  clear bx bc bf hc3 hx q0 q1 HX1 HX2 HC2 HD2
  have HZ4 := Lib.hid (show w3.heap.size < (w3.alloc (.cells #[.int .i64 st, .slice ax nx cx] 90)).heap.size by simp)
  have HX4 := Lib.hid ((HX.out.below HBX.out).base (show w.heap.size + 2 ≤ w2.heap.size by omega))
  have HC4 := Lib.hid (HC3.out.below HBX.out)
  have HD4 := Lib.hid (HD3.out.below HBX.out)
  go_upto_region 2 with fail
  generalize w3.alloc (.cells #[.int .i64 st, .slice ax nx cx] 90) = w4 at *
  clear HBX HX HC3 HD3
  by_cases hn : nx = 0
  · subst hn
    obtain ⟨a2', m2', c2', e2, HM2, -, -, ha2⟩ := flt_opn (m := 4) (enc := fibE) (fun _ => rfl) (by omega) nilB HD4.out.fs.rd
    obtain ⟨rfl, rfl, rfl⟩ : a2 = a2' ∧ n.fs.length = m2' ∧ c2 = c2' := by cases e2; exact ⟨rfl, rfl, rfl⟩
    obtain ⟨b, off, rfl, hb, hcc⟩ := ha2 hf0
    have y0 := hcc 0 hf0 0 _ rfl
    have hf0I : (0 : Int) < (n.fs.length : Int) := by omega
    rw [Nat.zero_mul, Nat.add_zero] at y0
    generalize (n.fs[0]?.getD nilB).a = fa at *
    clear hcc e2
    have x5 : (w4.alloc (.cells #[.int .i64 0] 3)).heap[w.heap.size + 1]? = some (.cells #[.int .i64 0, .slice none 0 0] 90 (0, 0)) := (heap_alloc_old _ _ (Array.getElem?_eq_some_iff.1 x2.out).1).trans x2.out
    have z0a := blkc x5 (show _ = some (Value.int .i64 0) from rfl) (j := 0)
    have z1a := blkc x5 (show _ = some (Value.slice none 0 0) from rfl) (j := 1)
    have f0a : (w4.alloc (.cells #[.int .i64 0] 3)).frozen? ⟨w.heap.size + 1, 0, none⟩ = false := by simp only [World.frozen?, x5]; rfl
    have f1a : (w4.alloc (.cells #[.int .i64 0] 3)).frozen? ⟨w.heap.size + 1, 1, none⟩ = false := by simp only [World.frozen?, x5]; rfl
    clear x5
    go_wp2_with fail
    subst hNP
    exact bodyPost_ret (v := .agg #[.int .i64 fa, .slice (some ⟨w4.heap.size, 0, none⟩) 1 1]) (by simp [results, Tryz.results156, go_sem, z0a, z1a]) rfl (RtP.of (xs := [0]) (by simp) (OwR.lit1 (w := w4) 0 (by have := HZ4.out; omega)) (HC4.out.alloc _))
  · have hnI : ¬ (nx : Int) = 0 := by omega
    go_wp2_with fail
    subst hNP
    exact bodyPost_ret (v := .agg #[.int .i64 st, .slice ax nx cx]) (by simp [results, Tryz.results156, go_sem, z0, z1]) rfl (RtP.of hl HX4.out HC4.out)
end Go.Proofs.YtmkkdenhjfjmgaaGreat
namespace Go.Proofs.YtmkkdenhjfjmgaaGreat
open Go.RowKit Go.Sort
set_option maxRecDepth 100000

/-- The row of fibers has been appended to; it is stored into the network's variable. -/
theorem Nb.app {w wr w' : World} {B K bN : Nat} {c u1 u2 v' : Value} {n : Net} {fs' : List Fib} (h : Nb w wr B c K bN u1 u2 n) (hr : w'.ownsRow w.heap.size 148 4 v' fs'.length (fbs fs')) (hg : wr.grownBy w' u2.ownBlock) (hl : v'.ownBlock = u2.ownBlock ∨ v'.ownBlock = some wr.heap.size) (hs : ∀ f ∈ fs', smallF f) (hl2 : fs'.length ≤ 40) :
    Nb w (w'.setCell ⟨bN, 1, none⟩ v') B c K bN u1 v' ⟨n.ns, fs'⟩ := by
  have lbN := (Array.getElem?_eq_some_iff.1 h.box).1
  have hbx : w'.heap[bN]? = some (.cells #[u1, u2] 35 (0, 0)) := (hg.block bN lbN fun e => h.ne.2 e.symm).trans h.box
  have hne : v'.ownBlock ≠ some bN := fun e => by
    rcases hl with hl | hl
    · exact h.ne.2 (hl.symm.trans e)
    · rw [hl] at e; have := Option.some.inj e; omega
  have hap : Apt u1 v' := fun q hq e => by
    rcases hl with hl | hl
    · exact h.d.ap q hq (hl.symm.trans e)
    · have := (h.d.ns.lt q hq).2
      rw [hl] at e; have := Option.some.inj e; omega
  have hcs : CS w B c K w' := h.cs.grown hg fun g e => (h.d.fs.lt g e).1
  refine ⟨hcs.set h.hb v', heap_setCell_same w' bN 1 _ _ v' hbx, ⟨ownsRow_kept h.d.ns fun g hg' => ?_, ownsRow_kept hr fun g hg' => ?_, hap, hs, h.d.nz, h.d.nl, hl2⟩, h.hb, h.ne.1, hne⟩
  · rw [heap_setCell_other w' ⟨bN, 1, none⟩ g v' fun e => h.ne.1 (by rw [hg']; exact congrArg some e)]
    exact hg.block g (h.d.ns.lt g hg').2 fun e => h.d.ap g hg' e.symm
  · exact heap_setCell_other w' ⟨bN, 1, none⟩ g v' fun e => hne (by rw [hg']; exact congrArg some e)
/-- The variable is laid. -/
theorem Nb.box0 {w wr : World} {B K : Nat} {c u1 u2 : Value} {n : Net} (hc : CS w B c K wr) (hd : NtD wr w.heap.size u1 u2 n) : Nb w (wr.alloc (.cells #[u1, u2] 35)) B c K wr.heap.size u1 u2 n :=
  ⟨hc.alloc _, heap_alloc_new _ _, hd.below ((Below.refl _ _).alloc (Nat.le_refl _) _), hc.size, fun e => absurd (hd.ns.lt _ e).2 (Nat.lt_irrefl _), fun e => absurd (hd.fs.lt _ e).2 (Nat.lt_irrefl _)⟩
/-- The post with a bound of its own, and something of the network. -/
def NtQ (Z : Net → Prop) (m : Nat) (w : World) (B : Nat) (c : Value) (K : Nat) (e : Ending) (w' : World) : Prop := ∃ u1 u2 n, e = .returned (.agg #[u1, u2]) ∧ Z n ∧ NtD w' w.heap.size u1 u2 n ∧ CS w B c (K + m) w'
theorem Nb.doneQ {Z : Net → Prop} {m : Nat} {w w1 wr : World} {B K K' bN : Nat} {c u1 u2 : Value} {n : Net} (h : Nb w1 wr B c K' bN u1 u2 n) (h1 : CS w B c K w1) (hs : w1.heap.size = w.heap.size + 1) (hk : K' ≤ K + m) (hz : Z n) :
    NtQ Z m w B c K (.returned (.agg #[u1, u2])) ((wr.setCell ⟨w.heap.size, 0, none⟩ u1).setCell ⟨w.heap.size, 1, none⟩ u2) := by
  refine ⟨u1, u2, n, rfl, hz, (h.d.base (by omega)).kept fun g _ hb => ?_, (((h1.call h.cs).mono hk).set (Nat.le_refl _) u1).set (Nat.le_refl _) u2⟩
  have := (h.d.lt g hb).1
  rw [heap_setCell_other _ _ _ _ (show g ≠ w.heap.size by omega), heap_setCell_other _ _ _ _ (show g ≠ w.heap.size by omega)]
set_option maxHeartbeats 6400000 in
theorem linked_any (B : Nat) (c : Value) (K : Nat) (w : World) (h : Cs w B c K) (hk : K ≤ 3000000000000000) :
    Calls Tryz.prog 155 #[ptr B] w (NtQ (fun n => 0 < n.fs.length ∧ n.fs.length ≤ 9) 100 w B c K) := by
  have b1 := (Below.refl w.heap.size w).alloc (Nat.le_refl _) (.cells #[.slice none 0 0, .slice none 0 0] 35)
  have k1 := heap_alloc_new w (.cells #[.slice none 0 0, .slice none 0 0] 35)
  have HC1 := Lib.hid (h.here.below b1)
  have HK1 := Lib.hid k1
  have z1 : (w.alloc (.cells #[.slice none 0 0, .slice none 0 0] 35)).heap.size = w.heap.size + 1 := by simp
  have HZ1 := Lib.hid z1
  obtain ⟨NP, hNP⟩ : ∃ NP, NP = NtQ (fun n => 0 < n.fs.length ∧ n.fs.length ≤ 9) 100 w B c K := ⟨_, rfl⟩
  rw [← hNP]
  clear h b1 k1 z1
  go_enter Tryz.func155, Tryz.ntmps155
  go_wp2_with fail
  generalize w.alloc (.cells #[.slice none 0 0, .slice none 0 0] 35) = w1 at *
  refine (network_any B c K w1 HC1.out.st (by omega)).mono ?_
  rintro e w2 ⟨u1, u2, n, rfl, ⟨hl9, hl6⟩, hd, hc2⟩
  have CC := Lib.hid (Nb.box0 hc2 hd)
  obtain ⟨⟨a1, c1, rfl⟩, ⟨a2, c2, rfl⟩⟩ := hd.slices
  have hB := HC1.out.1.1
  clear hd
  by_cases hn : n.fs.length = 0
  · obtain ⟨ns, fs⟩ := n
    obtain rfl : fs = [] := List.eq_nil_of_length_eq_zero hn
    simp only [List.length_nil] at CC hn hl9
    have y1 := CC.out.cell
    have CD := Lib.hid (CC.out.alloc (.cells #[.int .i64 0, .int .i64 1, .int .i64 100, .int .i64 0] 148))
    have HR := Lib.hid CD.out.d.fs
    have hz2 : (w2.alloc (.cells #[.slice a1 ns.length c1, .slice a2 0 c2] 35)).heap.size = w2.heap.size + 1 := by simp
    have HL := Lib.hid (show ((w2.alloc (.cells #[.slice a1 ns.length c1, .slice a2 0 c2] 35)).alloc (.cells #[.int .i64 0, .int .i64 1, .int .i64 100, .int .i64 0] 148)).heap[w2.heap.size + 1]? = some (.cells #[.int .i64 0, .int .i64 1, .int .i64 100, .int .i64 0] 148 (0, 0)) from by rw [← hz2]; exact heap_alloc_new _ _)
    have HFO := Lib.hid (show ∀ u ∈ fibE ⟨0, 1, 100, 0⟩, u.oneCell' = true from fun u hu => by simp [fibE] at hu; rcases hu with rfl | rfl | rfl | rfl <;> rfl)
    have hsz1 : w1.heap.size ≤ ((w2.alloc (.cells #[.slice a1 ns.length c1, .slice a2 0 c2] 35)).alloc (.cells #[.int .i64 0, .int .i64 1, .int .i64 100, .int .i64 0] 148)).heap.size := CD.out.cs.size
    clear hn
    go_wp2_with (at_builtin; refine wpList_catG rfl (.tmp 11) (.tmp 13) 33 148 rfl Tryz.underlying33 (.agg #[.int .i64 0, .int .i64 0, .int .i64 0, .int .i64 0]) 4 32 Tryz.infoFib rfl (by decide) w1.heap.size (.slice a2 0 c2) 0 [] (by rfl) HR.out (some ⟨w2.heap.size + 1, 0, none⟩) 1 _ (fibE ⟨0, 1, 100, 0⟩) (by rfl) rfl (fun e => by cases e) (fun ad e j u hu => by cases e; exact World.news_of_block HL.out j u hu) HFO.out (by unfold maxLen; omega) (by omega) hsz1 ?_; intro v' w5 ho5 hg5 hl5; obtain ⟨a5, c5, n5, rfl⟩ := FibRow.slice (fs := [⟨0, 1, 100, 0⟩]) ho5; have HP := Lib.hid (CD.out.app (fs' := [⟨0, 1, 100, 0⟩]) ho5 hg5 hl5 (fun f hf => by rw [List.mem_singleton.1 hf]; unfold smallF; simp) (by simp)); have y5 := (CD.out.cs.grown hg5 fun q hq => (HR.out.lt q hq).1); have hx5 := (hg5.block w2.heap.size (Array.getElem?_eq_some_iff.1 CD.out.box).1 fun e => CD.out.ne.2 e.symm).trans CD.out.box; have y5a := blkc hx5 (show _ = some _ from rfl) (j := 0); have y5b := blkc hx5 (show _ = some _ from rfl) (j := 1); have f5 : w5.frozen? ⟨w2.heap.size, 1, none⟩ = false := (by simp only [World.frozen?, hx5]; rfl); have hbx := y5.blk HK1.out (by omega); have z0 := blkc hbx (show _ = some (Value.slice none 0 0) from rfl) (j := 0); have z1 := blkc hbx (show _ = some (Value.slice none 0 0) from rfl) (j := 1); have f0 : w5.frozen? ⟨w.heap.size, 0, none⟩ = false := (by simp only [World.frozen?, hbx]; rfl); have f1 : w5.frozen? ⟨w.heap.size, 1, none⟩ = false := (by simp only [World.frozen?, hbx]; rfl); have hne1 : w.heap.size < w2.heap.size := (by have := hc2.size; have := HZ1.out; omega); have hne := Nat.ne_of_lt hne1; have hne' := Nat.ne_of_gt hne1; clear ho5 hg5 hl5)
    subst hNP
    exact bodyPost_ret (v := .agg #[.slice a1 ns.length c1, .slice a5 n5 c5]) (by simp [results, Tryz.results155, go_sem, z0, z1, hne, hne']) rfl (HP.out.doneQ HC1.out HZ1.out (by omega) ⟨by simp, by simp⟩)
  · have hnI : ¬ (n.fs.length : Int) = 0 := by omega
    have y2 := CC.out.cell
    have y1 : (w2.alloc (.cells #[.slice a1 n.ns.length c1, .slice a2 n.fs.length c2] 35)).cell? ⟨w2.heap.size, 0, none⟩ = some (.slice a1 n.ns.length c1) := blkc CC.out.box rfl
    have hbx := CC.out.cs.blk HK1.out (by omega)
    have z0 := blkc hbx (show _ = some (Value.slice none 0 0) from rfl) (j := 0)
    have z1 := blkc hbx (show _ = some (Value.slice none 0 0) from rfl) (j := 1)
    have f0 : (w2.alloc (.cells #[.slice a1 n.ns.length c1, .slice a2 n.fs.length c2] 35)).frozen? ⟨w.heap.size, 0, none⟩ = false := by simp only [World.frozen?, hbx]; rfl
    have f1 : (w2.alloc (.cells #[.slice a1 n.ns.length c1, .slice a2 n.fs.length c2] 35)).frozen? ⟨w.heap.size, 1, none⟩ = false := by simp only [World.frozen?, hbx]; rfl
    go_wp2_with fail
    subst hNP
    exact bodyPost_ret (v := .agg #[.slice a1 n.ns.length c1, .slice a2 n.fs.length c2]) (by simp [results, Tryz.results155, go_sem, z0, z1]) rfl (CC.out.doneQ HC1.out HZ1.out (by omega) ⟨by omega, by omega⟩)
end Go.Proofs.YtmkkdenhjfjmgaaGreat
