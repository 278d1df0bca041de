/- Joined: XSlc XDrl. -/
import Derived.Test.YtmkkdenhjfjmgaaGreatBf13
import Derived.Test.YtmkkdenhjfjmgaaGreatBf16
namespace Go.Proofs.YtmkkdenhjfjmgaaGreat
open Go.RowKit Go.Sort
set_option maxRecDepth 100000

theorem slcL_head (a : Option Addr) (m c k : Nat) (hk : k ≤ m) (hm : m ≤ c) (hc : c ≤ 9223372036854775807) (ha : ∀ x, a = some x → x.spot = none) (w : World) :
    (Instr.sliceAt 36 (.slice a m c) none (some (.int .i64 (k : Int))) none).run Tryz.prog w = .ok (.slice a k c) w := by
  have h1 : (0 : Int) ≤ (k : Int) := by omega
  have h2 : (k : Int) ≤ (c : Int) := by omega
  have h3 : ¬ (c : Int) < (k : Int) := by omega
  have h4 : ¬ c < k := by omega
  have h5 : k ≤ c := by omega
  go_simp
def slcT (a : Option Addr) (c k s : Nat) : Option Addr := if c = k then a else a.map (·.add (k * s))
theorem slcL_tail (a : Option Addr) (m c k : Nat) (hk : k ≤ m) (hm : m ≤ c) (hc : c ≤ 9223372036854775807) (w : World) :
    (Instr.sliceAt 36 (.slice a m c) (some (.int .i64 (k : Int))) none none).run Tryz.prog w = .ok (.slice (slcT a c k 5) (m - k) (c - k)) w := by
  have h1 : (0 : Int) ≤ (k : Int) := by omega
  have h2 : (k : Int) ≤ (m : Int) := by omega
  have h3 : ¬ (m : Int) < (k : Int) := by omega
  have h4 : ¬ m < k := by omega
  have h5 : k ≤ c := by omega
  have h6 : (m : Int) ≤ (c : Int) := by omega
  unfold slcT
  go_simp
theorem yields_slc {P : Program} {ρ : Operand → Value} {o : Oper} {t : TypeId} {x : Operand} {lo hi : Option Operand} {v : Value} {w : World} (ho : o.op = .slice t x lo hi none) (h : (Instr.sliceAt t (ρ x) (lo.map ρ) (hi.map ρ) none).run P w = .ok v w) : (execOp ρ o).run P w = .ok (.value v) w := by
  unfold execOp
  simp only [ho]
  simp only [Option.map_none]
  simp [h, go_sem]
/-- A row that lies apart from a growing one. -/
theorem put_keep {w w' : World} {base : Nat} {s v v' : Value} {xs : List Int} (h : OwR w base s xs) (ha : Apt s v) (hg : w.grownBy w' v.ownBlock) (hl : v'.ownBlock = v.ownBlock ∨ v'.ownBlock = some w.heap.size) : OwR w' base s xs ∧ Apt s v' :=
  ⟨h.kept fun q hq => hg.block q (h.lt q hq).2 fun e => ha q hq e.symm, fun q e1 e2 => by
    rcases hl with hl | hl
    · exact ha q e1 (hl.symm.trans e2)
    · have h1 := (h.lt q e1).2
      rw [hl] at e2
      have := Option.some.inj e2
      omega⟩
end Go.Proofs.YtmkkdenhjfjmgaaGreat
namespace Go.Proofs.YtmkkdenhjfjmgaaGreat
open Go.RowKit Go.Sort
set_option maxRecDepth 100000

theorem ltc_take (ps : List (Lgt × Value)) (k : Nat) : ltc (ps.take k) = (ltc ps).take (k * 5) := by
  by_cases hk : k ≤ ps.length
  · have h : ltc ps = ltc (ps.take k) ++ ltc (ps.drop k) := by rw [← ltc_app, List.take_append_drop]
    have hl : (ltc (ps.take k)).length = k * 5 := by rw [ltc_len, List.length_take]; omega
    rw [h, List.take_left' hl]
  · rw [List.take_of_length_le (by omega), List.take_of_length_le (by rw [ltc_len]; omega)]
theorem ltc_drop (ps : List (Lgt × Value)) (k : Nat) : ltc (ps.drop k) = (ltc ps).drop (k * 5) := by
  by_cases hk : k ≤ ps.length
  · have h : ltc ps = ltc (ps.take k) ++ ltc (ps.drop k) := by rw [← ltc_app, List.take_append_drop]
    have hl : (ltc (ps.take k)).length = k * 5 := by rw [ltc_len, List.length_take]; omega
    rw [h, List.drop_left' hl]
  · rw [List.drop_of_length_le (by omega), List.drop_of_length_le (by rw [ltc_len]; omega)]; rfl
theorem ltc_one {ps : List (Lgt × Value)} (h : ∀ p ∈ ps, ∃ a m c, p.2 = .slice a m c) : ∀ u ∈ ltc ps, u.oneCell' = true := fun u hu => by
  unfold ltc at hu
  obtain ⟨p, hp, h1⟩ := List.mem_flatMap.1 hu
  obtain ⟨a, m, c, e⟩ := h p hp
  simp [e] at h1
  rcases h1 with rfl | rfl | rfl | rfl | rfl <;> rfl
theorem LtRow.one {w : World} {base : Nat} {v : Value} {ps : List (Lgt × Value)} (h : LtRow w base v ps) : ∀ u ∈ ltc ps, u.oneCell' = true := ltc_one fun p hp => by
  obtain ⟨a, c, e⟩ := row_form0 (h.els p hp).1
  exact ⟨a, _, c, e⟩
theorem putPl_done {w3 W' : World} {b2 b1 : Nat} {u1 u2 u3 v s : Value} {n : Net} {qs : List (Lgt × Value)} {x : Lgt} (k : Nat) (h : PlD w3 b2 u1 u2 u3 n qs) (hk : ∀ g, b2 ≤ g → g < w3.heap.size → W'.heap[g]? = w3.heap[g]?) (hb : b2 ≤ w3.heap.size) (hb1 : w3.heap.size ≤ b1) (hl : qs.length ≤ 29)
    (hr : W'.ownsRow b1 94 5 v (qs.take k ++ [(x, s)] ++ qs.drop k).length (ltc (qs.take k ++ [(x, s)] ++ qs.drop k))) (hs : OwR W' b1 s x.fb) (ha : Apt s v) (hx : x.fb.length ≤ 1000) : PlD W' b2 u1 u2 v n (qs.take k ++ [(x, s)] ++ qs.drop k) := by
  have hap : ∀ u : Value, (∀ q, u.ownBlock = some q → q < w3.heap.size) → Apt u v := fun u hu q e1 e2 => by
    have h1 := hu q e1
    have h2 := (hr.lt q e2).1
    omega
  have hq : ∀ p ∈ qs, OwR W' b2 p.2 p.1.fb ∧ p.1.fb.length ≤ 1000 ∧ Apt p.2 v := fun p hp => by
    obtain ⟨e1, e2, -⟩ := h.l.els p hp
    exact ⟨e1.kept fun g hg => hk g (e1.lt g hg).1 (e1.lt g hg).2, e2, hap _ fun q hq => (e1.lt q hq).2⟩
  refine ⟨h.n.kept fun g _ hg => hk g (h.n.lt g hg).1 (h.n.lt g hg).2, ⟨⟨hr.1, hr.2.imp id fun ⟨g, cap, cur, k1, k2, k3⟩ => ⟨g, cap, cur, k1, by omega, k3⟩⟩, fun p hp => ?_⟩, ⟨hap _ fun q hq => (h.n.lt q (.inl hq)).2, hap _ fun q hq => (h.n.lt q (.inr hq)).2⟩, ?_⟩
  · rcases List.mem_append.1 hp with hp | hp
    · rcases List.mem_append.1 hp with hp | hp
      · exact hq p (List.mem_of_mem_take hp)
      · rw [List.mem_singleton.1 hp]
        exact ⟨hs.base (by omega), hx, ha⟩
    · exact hq p (List.mem_of_mem_drop hp)
  · simp only [List.length_append, List.length_take, List.length_drop, List.length_singleton]
    omega
def PutPlP (n : Net) (ps : List (Lgt × Value)) (x : Lgt) (w : World) (e : Ending) (w' : World) : Prop := ∃ v1 v2 v3 qs, e = .returned (.agg #[v1, v2, v3]) ∧ PlD w' w.heap.size v1 v2 v3 n qs ∧ qs.length = ps.length + 1 ∧ Below w.heap.size w w'
set_option maxHeartbeats 12800000 in
theorem l9Put_any (b0 : Nat) (u1 u2 u3 sx : Value) (n : Net) (ps : List (Lgt × Value)) (x : Lgt) (w : World) (hp : PlD w b0 u1 u2 u3 n ps) (hl : ps.length ≤ 29) (hx : Rd w sx x.fb) (hxl : x.fb.length ≤ 1000) :
    Calls Tryz.prog 159 #[.agg #[u1, u2, u3], .agg #[.int .i64 x.id, .int .i64 x.st, sx, .int .i64 x.fi, .int .i64 x.ct]] w (PutPlP n ps x w) := by
  obtain ⟨⟨a1, c1, rfl⟩, a2, c2, rfl⟩ := hp.n.slices
  obtain ⟨a3, c3, rfl⟩ := row_form0 hp.l.row
  have HCX := Lib.hid (fun w' (hb : Below w.heap.size w w') => l9Copy_any x sx w' (hx.belowAll hb) (by omega))
  obtain ⟨ax, cx, nx, HNX, rfl, -, -, -⟩ := hx.opn
  obtain ⟨NP, hNP⟩ : ∃ NP, NP = PutPlP n ps x w := ⟨_, rfl⟩
  rw [← hNP]
  have b1 := (Below.refl w.heap.size w).alloc (Nat.le_refl _) (.cells #[.slice a1 n.ns.length c1, .slice a2 n.fs.length c2, .slice a3 ps.length c3] 38)
  have b2 := b1.alloc b1.size (.cells #[.int .i64 x.id, .int .i64 x.st, .slice ax nx cx, .int .i64 x.fi, .int .i64 x.ct] 94)
  have b3 := b2.alloc b2.size (.cells #[.slice none 0 0, .slice none 0 0, .slice none 0 0] 38)
  have HB2 := Lib.hid b3
  have HP2 := Lib.hid (hp.below b3)
  have HX1 := Lib.hid (show (((w.alloc (.cells #[.slice a1 n.ns.length c1, .slice a2 n.fs.length c2, .slice a3 ps.length c3] 38)).alloc (.cells #[.int .i64 x.id, .int .i64 x.st, .slice ax nx cx, .int .i64 x.fi, .int .i64 x.ct] 94)).alloc (.cells #[.slice none 0 0, .slice none 0 0, .slice none 0 0] 38)).heap[w.heap.size]? = some (.cells #[.slice a1 n.ns.length c1, .slice a2 n.fs.length c2, .slice a3 ps.length c3] 38 (0, 0)) from (heap_alloc_old _ _ (by simp; omega)).trans ((heap_alloc_old _ _ (by simp)).trans (heap_alloc_new w _)))
  have HX2 := Lib.hid (show (((w.alloc (.cells #[.slice a1 n.ns.length c1, .slice a2 n.fs.length c2, .slice a3 ps.length c3] 38)).alloc (.cells #[.int .i64 x.id, .int .i64 x.st, .slice ax nx cx, .int .i64 x.fi, .int .i64 x.ct] 94)).alloc (.cells #[.slice none 0 0, .slice none 0 0, .slice none 0 0] 38)).heap[w.heap.size + 1]? = some (.cells #[.int .i64 x.id, .int .i64 x.st, .slice ax nx cx, .int .i64 x.fi, .int .i64 x.ct] 94 (0, 0)) from (heap_alloc_old _ _ (by simp)).trans (by have := heap_alloc_new (w.alloc (.cells #[.slice a1 n.ns.length c1, .slice a2 n.fs.length c2, .slice a3 ps.length c3] 38)) (.cells #[.int .i64 x.id, .int .i64 x.st, .slice ax nx cx, .int .i64 x.fi, .int .i64 x.ct] 94); simpa using this))
  have HX3 := Lib.hid (show (((w.alloc (.cells #[.slice a1 n.ns.length c1, .slice a2 n.fs.length c2, .slice a3 ps.length c3] 38)).alloc (.cells #[.int .i64 x.id, .int .i64 x.st, .slice ax nx cx, .int .i64 x.fi, .int .i64 x.ct] 94)).alloc (.cells #[.slice none 0 0, .slice none 0 0, .slice none 0 0] 38)).heap[w.heap.size + 2]? = some (.cells #[.slice none 0 0, .slice none 0 0, .slice none 0 0] 38 (0, 0)) from by have := heap_alloc_new ((w.alloc (.cells #[.slice a1 n.ns.length c1, .slice a2 n.fs.length c2, .slice a3 ps.length c3] 38)).alloc (.cells #[.int .i64 x.id, .int .i64 x.st, .slice ax nx cx, .int .i64 x.fi, .int .i64 x.ct] 94)) (.cells #[.slice none 0 0, .slice none 0 0, .slice none 0 0] 38); simpa using this)
  have HZ2 := Lib.hid (show (((w.alloc (.cells #[.slice a1 n.ns.length c1, .slice a2 n.fs.length c2, .slice a3 ps.length c3] 38)).alloc (.cells #[.int .i64 x.id, .int .i64 x.st, .slice ax nx cx, .int .i64 x.fi, .int .i64 x.ct] 94)).alloc (.cells #[.slice none 0 0, .slice none 0 0, .slice none 0 0] 38)).heap.size = w.heap.size + 3 by simp)
  have q0 : (((w.alloc (.cells #[.slice a1 n.ns.length c1, .slice a2 n.fs.length c2, .slice a3 ps.length c3] 38)).alloc (.cells #[.int .i64 x.id, .int .i64 x.st, .slice ax nx cx, .int .i64 x.fi, .int .i64 x.ct] 94)).alloc (.cells #[.slice none 0 0, .slice none 0 0, .slice none 0 0] 38)).cell? ⟨w.heap.size, 0, none⟩ = some (.slice a1 n.ns.length c1) := blkc HX1.out rfl
  have q1 : (((w.alloc (.cells #[.slice a1 n.ns.length c1, .slice a2 n.fs.length c2, .slice a3 ps.length c3] 38)).alloc (.cells #[.int .i64 x.id, .int .i64 x.st, .slice ax nx cx, .int .i64 x.fi, .int .i64 x.ct] 94)).alloc (.cells #[.slice none 0 0, .slice none 0 0, .slice none 0 0] 38)).cell? ⟨w.heap.size, 1, none⟩ = some (.slice a2 n.fs.length c2) := blkc HX1.out rfl
  have q2 : (((w.alloc (.cells #[.slice a1 n.ns.length c1, .slice a2 n.fs.length c2, .slice a3 ps.length c3] 38)).alloc (.cells #[.int .i64 x.id, .int .i64 x.st, .slice ax nx cx, .int .i64 x.fi, .int .i64 x.ct] 94)).alloc (.cells #[.slice none 0 0, .slice none 0 0, .slice none 0 0] 38)).cell? ⟨w.heap.size, 2, none⟩ = some (.slice a3 ps.length c3) := blkc HX1.out rfl
  clear b1 b2 b3 hp hx
  go_enter Tryz.func159, Tryz.ntmps159
  go_wp2_with fail
  generalize (((w.alloc (.cells #[.slice a1 n.ns.length c1, .slice a2 n.fs.length c2, .slice a3 ps.length c3] 38)).alloc (.cells #[.int .i64 x.id, .int .i64 x.st, .slice ax nx cx, .int .i64 x.fi, .int .i64 x.ct] 94)).alloc (.cells #[.slice none 0 0, .slice none 0 0, .slice none 0 0] 38)) = w2 at *
  refine (l9Own_any b0 _ _ _ n ps w2 HP2.out).mono ?_
  rintro e w3 ⟨v1, v2, v3, qs, rfl, hd3, hqs, hb3⟩
  obtain ⟨⟨d1, e1, rfl⟩, d2, e2, rfl⟩ := hd3.n.slices
  obtain ⟨d3, e3, rfl⟩ := row_form0 hd3.l.row
  have hz3 := hb3.size
  have HBW := Lib.hid (hb3.alloc hz3 (.cells #[.slice d1 n.ns.length e1, .slice d2 n.fs.length e2, .slice d3 qs.length e3] 38))
  have HPD := Lib.hid (hd3.below ((Below.refl _ _).alloc (Nat.le_refl _) (.cells #[.slice d1 n.ns.length e1, .slice d2 n.fs.length e2, .slice d3 qs.length e3] 38)))
  have HLO := Lib.hid (show ∀ g, w2.heap.size ≤ g → g < w3.heap.size → g < w3.heap.size from fun g _ h => h)
  have HPL := Lib.hid hd3
  have HBX := Lib.hid (heap_alloc_new w3 (.cells #[.slice d1 n.ns.length e1, .slice d2 n.fs.length e2, .slice d3 qs.length e3] 38))
  have HBA := Lib.hid (fun g (h : g < w3.heap.size) => heap_alloc_old w3 (.cells #[.slice d1 n.ns.length e1, .slice d2 n.fs.length e2, .slice d3 qs.length e3] 38) h)
  have HQL := Lib.hid (show qs.length = ps.length by have := congrArg List.length hqs; simpa using this)
  have hm30 := hd3.len
  clear hd3 hb3 q0 q1 q2 hqs
  go_upto_region 2 with fail
  have HB5 := Lib.hid (show w2.heap.size ≤ w3.heap.size ∧ w3.heap.size < (w3.alloc (.cells #[.slice d1 n.ns.length e1, .slice d2 n.fs.length e2, .slice d3 qs.length e3] 38)).heap.size from ⟨hz3, by simp⟩)
  generalize w3.alloc (.cells #[.slice d1 n.ns.length e1, .slice d2 n.fs.length e2, .slice d3 qs.length e3] 38) = wB at *
  generalize hb5 : w3.heap.size = b5 at *
  generalize hm : qs.length = m at *
  have HM := Lib.hid hm
  clear hm
  have hz2 := HZ2.out
  have l5 := HB5.out
  go_wp2_with fail
  rename_i K1 hK1
  have hRest : ∀ (k : Nat) (wr : World) (t9 t10 t11 t12 t13 t14 t15 t16 t17 t18 t19 t20 t21 t22 t23 t24 t25 t26 : Value), k ≤ m → Hid (Below wB.heap.size wB wr) → K1 { tmps := #[.agg #[.slice a1 n.ns.length c1, .slice a2 n.fs.length c2, .slice a3 ps.length c3], .agg #[.int .i64 x.id, .int .i64 x.st, .slice ax nx cx, .int .i64 x.fi, .int .i64 x.ct], .pointer (some ⟨w.heap.size, 0, none⟩), .pointer (some ⟨w.heap.size + 1, 0, none⟩), .pointer (some ⟨w.heap.size + 1 + 1, 0, none⟩), .pointer (some ⟨b5, 0, none⟩), .int .i64 k, .agg #[.slice a1 n.ns.length c1, .slice a2 n.fs.length c2, .slice a3 ps.length c3], .agg #[.slice d1 n.ns.length e1, .slice d2 n.fs.length e2, .slice d3 m e3], t9, t10, t11, t12, t13, t14, t15, t16, t17, t18, t19, t20, t21, t22, t23, t24, t25, t26, undef, undef, undef, undef, undef, undef, undef, undef, undef, undef, undef, undef, undef, undef, undef, undef, undef], defers := [] } wr := by
    intro k wr t9 t10 t11 t12 t13 t14 t15 t16 t17 t18 t19 t20 t21 t22 t23 t24 t25 t26 hk HB
    refine hK1 _ _ ?_
    clear hK1
    have hbx := Lib.hid (kept_o' HBX.out HB.out)
    have hx2 := Lib.hid (kept_o' (kept_o' HX2.out HBW.out) HB.out)
    have hx3 := Lib.hid (kept_o' (kept_o' HX3.out HBW.out) HB.out)
    have HPW := Lib.hid (HPD.out.below HB.out)
    have hzr := HB.out.size
    have lX : w.heap.size + 1 < wr.heap.size := by omega
    have lB : b5 < wr.heap.size := by omega
    have HSS := Lib.hid (fun (w' : World) (hb : Below wr.heap.size wr w') => show w'.cell? ⟨b5, 2, none⟩ = some (.slice d3 m e3) ∧ w'.cell? ⟨w.heap.size + 1, 0, none⟩ = some (.int .i64 x.id) ∧ w'.cell? ⟨w.heap.size + 1, 1, none⟩ = some (.int .i64 x.st) ∧ w'.cell? ⟨w.heap.size + 1, 2, none⟩ = some (.slice ax nx cx) ∧ w'.cell? ⟨w.heap.size + 1, 3, none⟩ = some (.int .i64 x.fi) ∧ w'.cell? ⟨w.heap.size + 1, 4, none⟩ = some (.int .i64 x.ct) from
      ⟨(hb.cell (p := ⟨b5, 2, none⟩) lB).trans (blkc hbx.out rfl), (hb.cell (p := ⟨w.heap.size + 1, 0, none⟩) lX).trans (blkc hx2.out rfl), (hb.cell (p := ⟨w.heap.size + 1, 1, none⟩) lX).trans (blkc hx2.out rfl), (hb.cell (p := ⟨w.heap.size + 1, 2, none⟩) lX).trans (blkc hx2.out rfl), (hb.cell (p := ⟨w.heap.size + 1, 3, none⟩) lX).trans (blkc hx2.out rfl), (hb.cell (p := ⟨w.heap.size + 1, 4, none⟩) lX).trans (blkc hx2.out rfl)⟩)
    have hrow := HPW.out.l.row
    rw [HM.out] at hrow
    have HSC := Lib.hid (row_src hrow)
    clear hrow
    have hme : m ≤ e3 ∧ e3 ≤ 9223372036854775807 ∧ ∀ y, d3 = some y → y.spot = none := by
      have := HPW.out.l.row.2
      rcases this with ⟨h1, h2⟩ | ⟨g, cap, cur, h1, h2, h3, h4, h5, h6⟩
      · cases h1; exact ⟨by omega, by omega, fun y hy => by cases hy⟩
      · cases h1
        have h7 := HM.out
        unfold maxLen at h5
        exact ⟨by omega, by omega, fun y hy => by cases hy; rfl⟩
    have HON := Lib.hid HPW.out.l.one
    have HT := Lib.hid (show ltc (qs.take k) = (ltc qs).take (k * 5) from ltc_take _ _)
    have HD := Lib.hid (show ltc (qs.drop k) = (ltc qs).drop (k * 5) from ltc_drop _ _)
    have HT1 := Lib.hid (show (ltc (qs.take k)).length = k * 5 by rw [ltc_len, List.length_take, HM.out]; congr 1; omega)
    have HD1 := Lib.hid (show (ltc (qs.drop k)).length = (m - k) * 5 by rw [ltc_len, List.length_drop, HM.out])
    have HH := Lib.hid (fun w' => slcL_head d3 m e3 k hk hme.1 (by omega) hme.2.2 w')
    have HTA := Lib.hid (fun w' => slcL_tail d3 m e3 k hk hme.1 (by omega) w')
    have HN1 := Lib.hid (show d3 = none → k = 0 ∧ e3 = 0 from fun e => by have := HSC.out.1 e; omega)
    obtain ⟨dt, hdt⟩ : ∃ dt, dt = slcT d3 e3 k 5 := ⟨_, rfl⟩
    obtain ⟨et, het⟩ : ∃ et, et = e3 - k := ⟨_, rfl⟩
    have HN2 := Lib.hid (show dt = none → m - k = 0 ∧ et = 0 from fun e => by
      rw [hdt] at e
      unfold slcT at e
      split at e
      · have := HSC.out.1 e; omega
      · cases d3 with
        | none => have := HSC.out.1 rfl; omega
        | some y => cases e)
    have HC1 := Lib.hid (fun (w' : World) (hb : Below wr.heap.size wr w') => show ∀ ad, d3 = some ad → ∀ j u, (ltc (qs.take k))[j]? = some u → w'.cell? (ad.add j) = some u from fun ad e j u hu => HSC.out.2.2 w' hb ad e j u (take_get (by rw [← HT.out]; exact hu)))
    have HC2 := Lib.hid (fun (w' : World) (hb : Below wr.heap.size wr w') => show ∀ ad, dt = some ad → ∀ j u, (ltc (qs.drop k))[j]? = some u → w'.cell? (ad.add j) = some u from fun ad e j u hu => by
      have hj : j < (m - k) * 5 := by rw [← HD1.out]; exact (List.getElem?_eq_some_iff.1 hu).1
      rw [hdt] at e
      unfold slcT at e
      rw [if_neg (by intro h; have := hme.1; rw [show m - k = 0 by omega] at hj; omega)] at e
      cases d3 with
      | none => cases e
      | some y =>
        have hy := hme.2.2 y rfl
        obtain ⟨yb, yo, ys⟩ := y
        obtain rfl : ys = none := hy
        simp only [Option.map_some, Option.some.injEq] at e
        rw [addr_add] at e
        subst e
        have := HSC.out.2.2 w' hb _ rfl (k * 5 + j) u (by rw [HD.out, List.getElem?_drop] at hu; exact hu)
        rw [addr_add] at this ⊢
        rw [Nat.add_assoc]
        exact this)
    rw [← hdt, ← het] at HTA
    have HO1 := Lib.hid (show ∀ u ∈ ltc (qs.take k), u.oneCell' = true from fun u hu => HON.out u (List.mem_of_mem_take (by rw [← HT.out]; exact hu)))
    have HO2 := Lib.hid (show ∀ u ∈ ltc (qs.drop k), u.oneCell' = true from fun u hu => HON.out u (List.mem_of_mem_drop (by rw [← HD.out]; exact hu)))
    have HCP := Lib.hid (fun w' (hb : Below wr.heap.size wr w') => HCX.out w' (HB2.out.trans ((((Below.refl w2.heap.size w2).trans HBW.out).trans (HB.out.mono (by omega)) |>.mono (by omega)).trans (hb.mono (by omega)))))
    generalize hts : ltc (qs.take k) = ts at *
    generalize hds : ltc (qs.drop k) = ds at *
    have HTS := Lib.hid hts
    have HDS := Lib.hid hds
    have hm29 : m ≤ 29 := by have := HQL.out; have := HM.out; omega
    clear hts hds hdt het HSC HON HT HD
    go_wp2_with fail
    refine wp_region_L [0, 1, 2, 3, 4, 5, 6, 7, 8, 9, 10, 11, 12, 13, 14] (S := fun w' => w'.cell? ⟨b5, 2, none⟩ = some (.slice d3 m e3) ∧ w'.cell? ⟨w.heap.size + 1, 0, none⟩ = some (.int .i64 x.id) ∧ w'.cell? ⟨w.heap.size + 1, 1, none⟩ = some (.int .i64 x.st) ∧ w'.cell? ⟨w.heap.size + 1, 2, none⟩ = some (.slice ax nx cx) ∧ w'.cell? ⟨w.heap.size + 1, 3, none⟩ = some (.int .i64 x.fi) ∧ w'.cell? ⟨w.heap.size + 1, 4, none⟩ = some (.int .i64 x.ct)) (by kernel_rfl) (HSS.out _ (Below.refl _ _).drew) (fun hH => ?_)
    refine hlTake 1 (v := ?v1) rfl (by kernel_rfl) (by kernel_rfl) (by kernel_rfl) (by kernel_rfl) (fun _ _ _ h => h) (by rfl) ?hy1 hH ?rest1
    case hy1 => ((intro w hSw); (try dsimp only at hSw); go_simp); try with_reducible rfl
    try simp only [Act.put, List.setIfInBounds_toArray, List.set_cons_zero, List.set_cons_succ]
    refine hlTake 2 (v := ?v2) rfl (by kernel_rfl) (by kernel_rfl) (by kernel_rfl) (by kernel_rfl) (fun _ _ _ h => h) (by rfl) ?hy2 hH ?rest2
    case hy2 => ((intro w hSw); (try dsimp only at hSw); go_simp); try with_reducible rfl
    try simp only [Act.put, List.setIfInBounds_toArray, List.set_cons_zero, List.set_cons_succ]
    refine hlTake 3 (v := ?v3) rfl (by kernel_rfl) (by kernel_rfl) (by kernel_rfl) (by kernel_rfl) (fun _ _ _ h => h) (by rfl) ?hy3 hH ?rest3
    case hy3 => ((intro w hSw); (try dsimp only at hSw); go_simp); try with_reducible rfl
    try simp only [Act.put, List.setIfInBounds_toArray, List.set_cons_zero, List.set_cons_succ]
    refine hlTake 4 (v := .slice d3 k e3) rfl (by kernel_rfl) (by kernel_rfl) (by kernel_rfl) (by kernel_rfl) (fun _ _ _ h => h) (by rfl) ?hy4 hH ?rest4
    case hy4 => exact fun w' _ => yields_slc rfl (HH.out w')
    try simp only [Act.put, List.setIfInBounds_toArray, List.set_cons_zero, List.set_cons_succ]
    refine hlTake 6 (v := ?v5) rfl (by kernel_rfl) (by kernel_rfl) (by kernel_rfl) (by kernel_rfl) (fun _ _ _ h => h) (by rfl) ?hy5 hH ?rest5
    case hy5 => ((intro w hSw); (try dsimp only at hSw); go_simp); try with_reducible rfl
    try simp only [Act.put, List.setIfInBounds_toArray, List.set_cons_zero, List.set_cons_succ]
    refine hlTake 10 (v := ?v6) rfl (by kernel_rfl) (by kernel_rfl) (by kernel_rfl) (by kernel_rfl) (fun _ _ _ h => h) (by rfl) ?hy6 hH ?rest6
    case hy6 => ((intro w hSw); (try dsimp only at hSw); go_simp); try with_reducible rfl
    try simp only [Act.put, List.setIfInBounds_toArray, List.set_cons_zero, List.set_cons_succ]
    refine hlTake 11 (v := ?v7) rfl (by kernel_rfl) (by kernel_rfl) (by kernel_rfl) (by kernel_rfl) (fun _ _ _ h => h) (by rfl) ?hy7 hH ?rest7
    case hy7 => ((intro w hSw); (try dsimp only at hSw); go_simp); try with_reducible rfl
    try simp only [Act.put, List.setIfInBounds_toArray, List.set_cons_zero, List.set_cons_succ]
    refine hlTake 12 (v := ?v8) rfl (by kernel_rfl) (by kernel_rfl) (by kernel_rfl) (by kernel_rfl) (fun _ _ _ h => h) (by rfl) ?hy8 hH ?rest8
    case hy8 => ((intro w hSw); (try dsimp only at hSw); go_simp); try with_reducible rfl
    try simp only [Act.put, List.setIfInBounds_toArray, List.set_cons_zero, List.set_cons_succ]
    refine hlTake 13 (v := .slice dt (m - k) et) rfl (by kernel_rfl) (by kernel_rfl) (by kernel_rfl) (by kernel_rfl) (fun _ _ _ h => h) (by rfl) ?hy9 hH ?rest9
    case hy9 => exact fun w' _ => yields_slc rfl (HTA.out w')
    try simp only [Act.put, List.setIfInBounds_toArray, List.set_cons_zero, List.set_cons_succ]
    refine hlReady (rs := [0]) (by kernel_rfl) (by simp) ?_
    refine AllReadyL.cons rfl (fun KK hKK => ?_) AllReadyL.nil
    -- order 0
    go_simp
    have B27 := bel1 (w := wr) (X := .cells #[] 94)
    refine hKK.out _ _ (HSS.out _ B27) (fun hH => ?_)
    clear hKK KK
    try simp only [Act.put, List.setIfInBounds_toArray, List.set_cons_zero, List.set_cons_succ]
    refine hlReady (rs := [5]) (by kernel_rfl) (by simp) ?_
    refine AllReadyL.cons rfl (fun KK hKK => ?_) AllReadyL.nil
    -- order 0 5
    refine step_of_list rfl ?_
    refine wpList_catG rfl (.tmp 27) (.tmp 31) 36 94 rfl Tryz.underlying36 (.agg #[.int .i64 0, .int .i64 0, .slice none 0 0, .int .i64 0, .int .i64 0]) 5 56 Tryz.infoLgtD rfl (by decide) wr.heap.size (.slice (some ⟨wr.heap.size, 0, none⟩) 0 0) 0 [] (by rfl) row_made1 d3 k e3 ts (by rfl) HT1.out HN1.out (HC1.out _ B27) HO1.out (by unfold maxLen; omega) (by omega) B27.size ?_
    intro v32 w32 o32 g32 l32
    have B32 : Below wr.heap.size wr w32 := Below.grown B27 g32 B27.size (fun q hq => by have hq2 : wr.heap.size = q := Option.some.inj hq; omega)
    unfold wpList
    refine ⟨rfl, ?_⟩
    refine hKK.out _ _ (HSS.out _ B32) (fun hH => ?_)
    clear hKK KK
    try simp only [Act.put, List.setIfInBounds_toArray, List.set_cons_zero, List.set_cons_succ]
    refine hlReady (rs := [7]) (by kernel_rfl) (by simp) ?_
    refine AllReadyL.cons rfl (fun KK hKK => ?_) AllReadyL.nil
    -- order 0 5 7
    go_simp
    go_at_call 193
    refine (HCP.out _ B32).mono ?_
    rintro e w34 ⟨v34, rfl, o34, b34⟩
    have R34 := row_kept0 o32 (fun q hq => b34.block q (o32.lt q hq).2)
    have B34 := B32.trans (b34.mono B32.size)
    obtain ⟨a34, c34, rfl⟩ := row_form0 o34
    have HA34 := Lib.hid (show Apt (.slice a34 x.fb.length c34) v32 from fun q h1 h2 => absurd (o32.lt q h2).2 (Nat.not_lt.2 (OwR.lt o34 q h1).1))
    refine hKK.out _ _ (HSS.out _ B34) (fun hH => ?_)
    clear hKK KK
    try simp only [Act.put, List.setIfInBounds_toArray, List.set_cons_zero, List.set_cons_succ]
    refine hlReady (rs := [8]) (by kernel_rfl) (by simp) ?_
    refine AllReadyL.cons rfl (fun KK hKK => ?_) AllReadyL.nil
    -- order 0 5 7 8
    go_simp
    have B35 := B34.alloc B34.size (.cells #[.int .i64 x.id, .int .i64 x.st, .slice a34 x.fb.length c34, .int .i64 x.fi, .int .i64 x.ct] 94)
    have R35 := row_kept0 R34 (fun q hq => heap_alloc_old w34 (.cells #[.int .i64 x.id, .int .i64 x.st, .slice a34 x.fb.length c34, .int .i64 x.fi, .int .i64 x.ct] 94) (R34.lt q hq).2)
    have o35 := OwR.below o34 ((Below.refl w34.heap.size w34).alloc (Nat.le_refl _) (.cells #[.int .i64 x.id, .int .i64 x.st, .slice a34 x.fb.length c34, .int .i64 x.fi, .int .i64 x.ct] 94))
    refine hKK.out _ _ (HSS.out _ B35) (fun hH => ?_)
    clear hKK KK
    try simp only [Act.put, List.setIfInBounds_toArray, List.set_cons_zero, List.set_cons_succ]
    refine hlReady (rs := [9]) (by kernel_rfl) (by simp) ?_
    refine AllReadyL.cons rfl (fun KK hKK => ?_) AllReadyL.nil
    -- order 0 5 7 8 9
    refine step_of_list rfl ?_
    refine wpList_catG rfl (.tmp 32) (.tmp 35) 36 94 rfl Tryz.underlying36 (.agg #[.int .i64 0, .int .i64 0, .slice none 0 0, .int .i64 0, .int .i64 0]) 5 56 Tryz.infoLgtD rfl (by decide) wr.heap.size v32 (0 + k) ([] ++ ts) (by rfl) R35 (some ⟨w34.heap.size, 0, none⟩) 1 1 (ltc [(x, .slice a34 x.fb.length c34)]) (by rfl) rfl (fun e => by cases e) (fun ad e j u hu => by cases e; exact World.news_of_block (heap_alloc_new w34 (.cells #[.int .i64 x.id, .int .i64 x.st, .slice a34 x.fb.length c34, .int .i64 x.fi, .int .i64 x.ct] 94)) j u hu) (fun u hu => by simp [ltc] at hu; rcases hu with rfl | rfl | rfl | rfl | rfl <;> rfl) (by unfold maxLen; omega) (by omega) B35.size ?_
    intro v36 w36 o36 g36 l36
    have B36 : Below wr.heap.size wr w36 := Below.grown B35 g36 B35.size (fun q hq => (R35.lt q hq).1)
    have P36 := put_keep o35 HA34.out g36 l36
    unfold wpList
    refine ⟨rfl, ?_⟩
    refine hKK.out _ _ (HSS.out _ B36) (fun hH => ?_)
    clear hKK KK
    try simp only [Act.put, List.setIfInBounds_toArray, List.set_cons_zero, List.set_cons_succ]
    refine hlStep 14 rfl (by kernel_rfl) (by kernel_rfl) (fun KK hKK => ?_)
    refine step_of_list rfl ?_
    refine wpList_catG rfl (.tmp 36) (.tmp 40) 36 94 rfl Tryz.underlying36 (.agg #[.int .i64 0, .int .i64 0, .slice none 0 0, .int .i64 0, .int .i64 0]) 5 56 Tryz.infoLgtD rfl (by decide) wr.heap.size v36 (0 + k + 1) ([] ++ ts ++ ltc [(x, .slice a34 x.fb.length c34)]) (by rfl) o36 dt (m - k) et ds (by rfl) HD1.out HN2.out (HC2.out _ B36) HO2.out (by unfold maxLen; omega) (by omega) B36.size ?_
    intro v41 w41 o41 g41 l41
    have B41 : Below wr.heap.size wr w41 := Below.grown B36 g41 B36.size (fun q hq => (o36.lt q hq).1)
    have P41 := put_keep P36.1 P36.2 g41 l41
    unfold wpList
    refine ⟨rfl, ?_⟩
    refine hKK.out _ _ ?_
    clear hKK KK
    try simp only [Act.put, List.setIfInBounds_toArray, List.set_cons_zero, List.set_cons_succ]
    obtain ⟨a41, c41, rfl⟩ := row_form0 o41
    have hbx4 := kept_o' hbx.out B41
    have f5 : w41.frozen? ⟨b5, 2, none⟩ = false := by simp only [World.frozen?, hbx4]; rfl
    have y5 := blkc hbx4 (show _ = some (Value.slice d3 m e3) from rfl) (j := 2)
    refine hlStep 15 rfl (by kernel_rfl) (by kernel_rfl) (fun KK hKK => ?_)
    go_simp
    refine hKK.out _ _ ?_
    clear hKK KK
    try simp only [Act.put, List.setIfInBounds_toArray, List.set_cons_zero, List.set_cons_succ]
    refine hlStep 16 rfl (by kernel_rfl) (by kernel_rfl) (fun KK hKK => ?_)
    go_simp
    refine hKK.out _ _ ?_
    clear hKK KK
    try simp only [Act.put, List.setIfInBounds_toArray, List.set_cons_zero, List.set_cons_succ]
    refine hlDone (by kernel_rfl) ?_ _
    have hlen : (qs.take k ++ [(x, Value.slice a34 x.fb.length c34)] ++ qs.drop k).length = 0 + k + 1 + (m - k) := by
      have := HM.out
      simp only [List.length_append, List.length_take, List.length_drop, List.length_singleton]; omega
    have hltc : ltc (qs.take k ++ [(x, Value.slice a34 x.fb.length c34)] ++ qs.drop k) = [] ++ ts ++ ltc [(x, .slice a34 x.fb.length c34)] ++ ds := by rw [ltc_app, ltc_app, HTS.out, HDS.out]; rfl
    have hv : (0 + k + 1 + (m - k)) = k + 1 + (m - k) := by omega
    rw [hv] at o41 P41 hlen
    have ho : ∀ (y0 y1 y2 : Value) g, g ≠ w.heap.size + 1 + 1 → g ≠ b5 → ((((w41.setCell ⟨b5, 2, none⟩ (.slice a41 (k + 1 + (m - k)) c41)).setCell ⟨w.heap.size + 1 + 1, 0, none⟩ y0).setCell ⟨w.heap.size + 1 + 1, 1, none⟩ y1).setCell ⟨w.heap.size + 1 + 1, 2, none⟩ y2).heap[g]? = w41.heap[g]? := fun y0 y1 y2 g h1 h2 => by
      rw [heap_setCell_other _ ⟨w.heap.size + 1 + 1, 2, none⟩ g _ h1, heap_setCell_other _ ⟨w.heap.size + 1 + 1, 1, none⟩ g _ h1, heap_setCell_other _ ⟨w.heap.size + 1 + 1, 0, none⟩ g _ h1, heap_setCell_other _ ⟨b5, 2, none⟩ g _ h2]
    have hs32 := B32.size
    have HBE : Below w.heap.size w w41 := ((HB2.out.trans (HBW.out.mono (by omega))).trans (HB.out.mono (by omega))).trans (B41.mono (by omega))
    have HFIN := Lib.hid (fun (y0 y1 y2 : Value) => show PutPlP n ps x w (.returned (.agg #[.slice d1 n.ns.length e1, .slice d2 n.fs.length e2, (.slice a41 (k + 1 + (m - k)) c41)])) ((((w41.setCell ⟨b5, 2, none⟩ (.slice a41 (k + 1 + (m - k)) c41)).setCell ⟨w.heap.size + 1 + 1, 0, none⟩ y0).setCell ⟨w.heap.size + 1 + 1, 1, none⟩ y1).setCell ⟨w.heap.size + 1 + 1, 2, none⟩ y2) from
      ⟨_, _, _, qs.take k ++ [(x, .slice a34 x.fb.length c34)] ++ qs.drop k, rfl, (putPl_done (b1 := wr.heap.size) k HPL.out (fun g h1 h2 => by
          rw [hb5] at h2
          rw [ho y0 y1 y2 g (by omega) (by omega), B41.block g (by omega), HB.out.block g (by omega)]
          exact HBA.out g h2) (by omega) (by omega) (by rw [HM.out]; exact hm29) (by
          rw [hlen, hltc]
          exact row_kept0 o41 fun g hg => ho y0 y1 y2 g (by have := (o41.lt g hg).1; omega) (by have := (o41.lt g hg).1; omega))
          ((P41.1.base (by omega)).kept fun g hg => ho y0 y1 y2 g (by have := (P41.1.lt g hg).1; omega) (by have := (P41.1.lt g hg).1; omega)) P41.2 hxl).base (by omega), by rw [hlen]; have := HQL.out; have := HM.out; omega,
        (((HBE.setCell (p := ⟨b5, 2, none⟩) (show w.heap.size ≤ b5 by omega) _).setCell (p := ⟨w.heap.size + 1 + 1, 0, none⟩) (show w.heap.size ≤ w.heap.size + 1 + 1 by omega) _).setCell (p := ⟨w.heap.size + 1 + 1, 1, none⟩) (show w.heap.size ≤ w.heap.size + 1 + 1 by omega) _).setCell (p := ⟨w.heap.size + 1 + 1, 2, none⟩) (show w.heap.size ≤ w.heap.size + 1 + 1 by omega) _⟩)
    have hbx6 := heap_setCell_same w41 b5 2 _ _ (.slice a41 (k + 1 + (m - k)) c41) hbx4
    have hx36 : (w41.setCell ⟨b5, 2, none⟩ (.slice a41 (k + 1 + (m - k)) c41)).heap[w.heap.size + 1 + 1]? = some (.cells #[.slice none 0 0, .slice none 0 0, .slice none 0 0] 38 (0, 0)) := (heap_setCell_other w41 ⟨b5, 2, none⟩ (w.heap.size + 1 + 1) (.slice a41 (k + 1 + (m - k)) c41) (show w.heap.size + 1 + 1 ≠ b5 by omega)).trans (kept_o' hx3.out B41)
    generalize w41.setCell ⟨b5, 2, none⟩ (.slice a41 (k + 1 + (m - k)) c41) = w6 at *
    clear ho hlen hltc hv o41 g41 l41 P41 B41 B36 B35 B34 B32 B27 o36 g36 l36 o32 g32 l32 R34 R35 o34 o35 b34 P36 HA34 hbx4 f5 y5 HBE hH
    have y0 := blkc hbx6 (show _ = some (Value.slice d1 n.ns.length e1) from rfl) (j := 0)
    have y1 := blkc hbx6 (show _ = some (Value.slice d2 n.fs.length e2) from rfl) (j := 1)
    have y2 := blkc hbx6 (show _ = some (.slice a41 (k + 1 + (m - k)) c41) from rfl) (j := 2)
    have z0 := blkc hx36 (show _ = some (Value.slice none 0 0) from rfl) (j := 0)
    have z1 := blkc hx36 (show _ = some (Value.slice none 0 0) from rfl) (j := 1)
    have z2 := blkc hx36 (show _ = some (Value.slice none 0 0) from rfl) (j := 2)
    have f0 : w6.frozen? ⟨w.heap.size + 1 + 1, 0, none⟩ = false := by simp only [World.frozen?, hx36]; rfl
    have f1 : w6.frozen? ⟨w.heap.size + 1 + 1, 1, none⟩ = false := by simp only [World.frozen?, hx36]; rfl
    have f2 : w6.frozen? ⟨w.heap.size + 1 + 1, 2, none⟩ = false := by simp only [World.frozen?, hx36]; rfl
    go_wp2_with fail
    subst hNP
    exact bodyPost_ret (v := .agg #[.slice d1 n.ns.length e1, .slice d2 n.fs.length e2, (.slice a41 (k + 1 + (m - k)) c41)]) (by simp [results, Tryz.results159, go_sem, z0, z1, z2]) rfl (HFIN.out _ _ _)
  clear hK1
  go_loopw [6] (fun i wr => ∃ k : Nat, k ≤ m ∧ i = .int .i64 k ∧ Hid (Below wB.heap.size wB wr)) (fun i _ => m - (intOf i).toNat)
  case atStart => exact ⟨0, Nat.zero_le _, rfl, Below.refl _ _⟩
  case round =>
    obtain ⟨k, hk, rfl, HB⟩ := hrel
    have HBd := Lib.hid (HB.out.drew)
    have hbx := kept_o' HBX.out HB.out
    have hx2 := kept_o' (kept_o' HX2.out HBW.out) HB.out
    have y2 : wr.cell? ⟨b5, 2, none⟩ = some (.slice d3 m e3) := blkc hbx rfl
    have x0 : wr.cell? ⟨w.heap.size + 1, 0, none⟩ = some (.int .i64 x.id) := blkc hx2 rfl
    by_cases hlt : k < m
    · have hltI : (k : Int) < (m : Int) := by omega
      have hwk : IntKind.i64.wrap ((k : Int) + 1) = (k : Int) + 1 := IntWalk.i64_in _ (by omega)
      have HPW := Lib.hid (HPD.out.below HB.out)
      obtain ⟨g, rfl, hg, c0, -⟩ := HPW.out.l.at k (by rw [HM.out]; exact hlt)
      generalize (qs[k]?.getD nilLV).1.id = id at *
      by_cases hid : id < x.id
      · go_wp2_with fail
        refine wp_region_L [0, 1, 2, 3, 4, 5, 6, 7, 8, 9, 10, 11, 12, 13, 14, 15] (S := fun w' => w'.cell? ⟨b5, 2, none⟩ = some (.slice (some ⟨g, 0, none⟩) m e3) ∧ w'.cell? ⟨w.heap.size + 1, 0, none⟩ = some (.int .i64 x.id) ∧ w'.cell? ⟨g, k * 5, none⟩ = some (.int .i64 id)) (by kernel_rfl) (⟨y2, x0, c0⟩) (fun hH => ?_)
        refine hlTake 0 (v := ?v10) rfl (by kernel_rfl) (by kernel_rfl) (by kernel_rfl) (by kernel_rfl) (fun _ _ _ h => h) (by rfl) ?hy10 hH ?rest10
        case hy10 => ((intro w hSw); (try dsimp only at hSw); go_simp); try with_reducible rfl
        try simp only [Act.put, List.setIfInBounds_toArray, List.set_cons_zero, List.set_cons_succ]
        refine hlTake 1 (v := ?v11) rfl (by kernel_rfl) (by kernel_rfl) (by kernel_rfl) (by kernel_rfl) (fun _ _ _ h => h) (by rfl) ?hy11 hH ?rest11
        case hy11 => ((intro w hSw); (try dsimp only at hSw); go_simp); try with_reducible rfl
        try simp only [Act.put, List.setIfInBounds_toArray, List.set_cons_zero, List.set_cons_succ]
        refine hlTake 2 (v := ?v12) rfl (by kernel_rfl) (by kernel_rfl) (by kernel_rfl) (by kernel_rfl) (fun _ _ _ h => h) (by rfl) ?hy12 hH ?rest12
        case hy12 => ((intro w hSw); (try dsimp only at hSw); go_simp); try with_reducible rfl
        try simp only [Act.put, List.setIfInBounds_toArray, List.set_cons_zero, List.set_cons_succ]
        refine hlTake 3 (v := ?v13) rfl (by kernel_rfl) (by kernel_rfl) (by kernel_rfl) (by kernel_rfl) (fun _ _ _ h => h) (by rfl) ?hy13 hH ?rest13
        case hy13 => ((intro w hSw); (try dsimp only at hSw); go_simp); try with_reducible rfl
        try simp only [Act.put, List.setIfInBounds_toArray, List.set_cons_zero, List.set_cons_succ]
        refine hlTake 4 (v := ?v14) rfl (by kernel_rfl) (by kernel_rfl) (by kernel_rfl) (by kernel_rfl) (fun _ _ _ h => h) (by rfl) ?hy14 hH ?rest14
        case hy14 => ((intro w hSw); (try dsimp only at hSw); go_simp); try with_reducible rfl
        try simp only [Act.put, List.setIfInBounds_toArray, List.set_cons_zero, List.set_cons_succ]
        refine hlTake 5 (v := ?v15) rfl (by kernel_rfl) (by kernel_rfl) (by kernel_rfl) (by kernel_rfl) (fun _ _ _ h => h) (by rfl) ?hy15 hH ?rest15
        case hy15 => ((intro w hSw); (try dsimp only at hSw); go_simp); try with_reducible rfl
        try simp only [Act.put, List.setIfInBounds_toArray, List.set_cons_zero, List.set_cons_succ]
        refine hlTake 6 (v := ?v16) rfl (by kernel_rfl) (by kernel_rfl) (by kernel_rfl) (by kernel_rfl) (fun _ _ _ h => h) (by rfl) ?hy16 hH ?rest16
        case hy16 => ((intro w hSw); (try dsimp only at hSw); go_simp); try with_reducible rfl
        try simp only [Act.put, List.setIfInBounds_toArray, List.set_cons_zero, List.set_cons_succ]
        refine hlTake 7 (v := ?v17) rfl (by kernel_rfl) (by kernel_rfl) (by kernel_rfl) (by kernel_rfl) (fun _ _ _ h => h) (by rfl) ?hy17 hH ?rest17
        case hy17 => ((intro w hSw); (try dsimp only at hSw); go_simp); try with_reducible rfl
        try simp only [Act.put, List.setIfInBounds_toArray, List.set_cons_zero, List.set_cons_succ]
        refine hlTake 8 (v := ?v18) rfl (by kernel_rfl) (by kernel_rfl) (by kernel_rfl) (by kernel_rfl) (fun _ _ _ h => h) (by rfl) ?hy18 hH ?rest18
        case hy18 => ((intro w hSw); (try dsimp only at hSw); go_simp); try with_reducible rfl
        try simp only [Act.put, List.setIfInBounds_toArray, List.set_cons_zero, List.set_cons_succ]
        refine hlTake 9 (v := ?v19) rfl (by kernel_rfl) (by kernel_rfl) (by kernel_rfl) (by kernel_rfl) (fun _ _ _ h => h) (by rfl) ?hy19 hH ?rest19
        case hy19 => ((intro w hSw); (try dsimp only at hSw); go_simp); try with_reducible rfl
        try simp only [Act.put, List.setIfInBounds_toArray, List.set_cons_zero, List.set_cons_succ]
        refine hlTake 10 (v := ?v20) rfl (by kernel_rfl) (by kernel_rfl) (by kernel_rfl) (by kernel_rfl) (fun _ _ _ h => h) (by rfl) ?hy20 hH ?rest20
        case hy20 => ((intro w hSw); (try dsimp only at hSw); go_simp); try with_reducible rfl
        try simp only [Act.put, List.setIfInBounds_toArray, List.set_cons_zero, List.set_cons_succ]
        refine hlTake 11 (v := ?v21) rfl (by kernel_rfl) (by kernel_rfl) (by kernel_rfl) (by kernel_rfl) (fun _ _ _ h => h) (by rfl) ?hy21 hH ?rest21
        case hy21 => ((intro w hSw); (try dsimp only at hSw); go_simp); try with_reducible rfl
        try simp only [Act.put, List.setIfInBounds_toArray, List.set_cons_zero, List.set_cons_succ]
        refine hlTake 12 (v := ?v22) rfl (by kernel_rfl) (by kernel_rfl) (by kernel_rfl) (by kernel_rfl) (fun _ _ _ h => h) (by rfl) ?hy22 hH ?rest22
        case hy22 => ((intro w hSw); (try dsimp only at hSw); go_simp); try with_reducible rfl
        try simp only [Act.put, List.setIfInBounds_toArray, List.set_cons_zero, List.set_cons_succ]
        refine hlTake 13 (v := ?v23) rfl (by kernel_rfl) (by kernel_rfl) (by kernel_rfl) (by kernel_rfl) (fun _ _ _ h => h) (by rfl) ?hy23 hH ?rest23
        case hy23 => ((intro w hSw); (try dsimp only at hSw); go_simp); try with_reducible rfl
        try simp only [Act.put, List.setIfInBounds_toArray, List.set_cons_zero, List.set_cons_succ]
        refine hlTake 14 (v := ?v24) rfl (by kernel_rfl) (by kernel_rfl) (by kernel_rfl) (by kernel_rfl) (fun _ _ _ h => h) (by rfl) ?hy24 hH ?rest24
        case hy24 => ((intro w hSw); (try dsimp only at hSw); go_simp); try with_reducible rfl
        try simp only [Act.put, List.setIfInBounds_toArray, List.set_cons_zero, List.set_cons_succ]
        refine hlStep 15 rfl (by kernel_rfl) (by kernel_rfl) (fun KK hKK => ?_)
        go_simp
        refine hKK.out _ _ ?_
        clear hKK KK
        try simp only [Act.put, List.setIfInBounds_toArray, List.set_cons_zero, List.set_cons_succ]
        refine hlDone (by kernel_rfl) ?_ _
        clear y2 x0 c0 hbx hx2
        go_wp2_with fail
        go_roundw
        case rel => exact ⟨k + 1, by omega, by go_num, HBd.out⟩
        case measure => simp [intOf]; omega
      · go_wp2_with fail
        refine wp_region_L [0, 1, 2, 3, 4, 5, 6, 7, 8, 9, 10, 11, 12, 13, 14, 15] (S := fun w' => w'.cell? ⟨b5, 2, none⟩ = some (.slice (some ⟨g, 0, none⟩) m e3) ∧ w'.cell? ⟨w.heap.size + 1, 0, none⟩ = some (.int .i64 x.id) ∧ w'.cell? ⟨g, k * 5, none⟩ = some (.int .i64 id)) (by kernel_rfl) (⟨y2, x0, c0⟩) (fun hH => ?_)
        refine hlTake 0 (v := ?v25) rfl (by kernel_rfl) (by kernel_rfl) (by kernel_rfl) (by kernel_rfl) (fun _ _ _ h => h) (by rfl) ?hy25 hH ?rest25
        case hy25 => ((intro w hSw); (try dsimp only at hSw); go_simp); try with_reducible rfl
        try simp only [Act.put, List.setIfInBounds_toArray, List.set_cons_zero, List.set_cons_succ]
        refine hlTake 1 (v := ?v26) rfl (by kernel_rfl) (by kernel_rfl) (by kernel_rfl) (by kernel_rfl) (fun _ _ _ h => h) (by rfl) ?hy26 hH ?rest26
        case hy26 => ((intro w hSw); (try dsimp only at hSw); go_simp); try with_reducible rfl
        try simp only [Act.put, List.setIfInBounds_toArray, List.set_cons_zero, List.set_cons_succ]
        refine hlTake 2 (v := ?v27) rfl (by kernel_rfl) (by kernel_rfl) (by kernel_rfl) (by kernel_rfl) (fun _ _ _ h => h) (by rfl) ?hy27 hH ?rest27
        case hy27 => ((intro w hSw); (try dsimp only at hSw); go_simp); try with_reducible rfl
        try simp only [Act.put, List.setIfInBounds_toArray, List.set_cons_zero, List.set_cons_succ]
        refine hlTake 3 (v := ?v28) rfl (by kernel_rfl) (by kernel_rfl) (by kernel_rfl) (by kernel_rfl) (fun _ _ _ h => h) (by rfl) ?hy28 hH ?rest28
        case hy28 => ((intro w hSw); (try dsimp only at hSw); go_simp); try with_reducible rfl
        try simp only [Act.put, List.setIfInBounds_toArray, List.set_cons_zero, List.set_cons_succ]
        refine hlTake 4 (v := ?v29) rfl (by kernel_rfl) (by kernel_rfl) (by kernel_rfl) (by kernel_rfl) (fun _ _ _ h => h) (by rfl) ?hy29 hH ?rest29
        case hy29 => ((intro w hSw); (try dsimp only at hSw); go_simp); try with_reducible rfl
        try simp only [Act.put, List.setIfInBounds_toArray, List.set_cons_zero, List.set_cons_succ]
        refine hlTake 5 (v := ?v30) rfl (by kernel_rfl) (by kernel_rfl) (by kernel_rfl) (by kernel_rfl) (fun _ _ _ h => h) (by rfl) ?hy30 hH ?rest30
        case hy30 => ((intro w hSw); (try dsimp only at hSw); go_simp); try with_reducible rfl
        try simp only [Act.put, List.setIfInBounds_toArray, List.set_cons_zero, List.set_cons_succ]
        refine hlTake 6 (v := ?v31) rfl (by kernel_rfl) (by kernel_rfl) (by kernel_rfl) (by kernel_rfl) (fun _ _ _ h => h) (by rfl) ?hy31 hH ?rest31
        case hy31 => ((intro w hSw); (try dsimp only at hSw); go_simp); try with_reducible rfl
        try simp only [Act.put, List.setIfInBounds_toArray, List.set_cons_zero, List.set_cons_succ]
        refine hlTake 7 (v := ?v32) rfl (by kernel_rfl) (by kernel_rfl) (by kernel_rfl) (by kernel_rfl) (fun _ _ _ h => h) (by rfl) ?hy32 hH ?rest32
        case hy32 => ((intro w hSw); (try dsimp only at hSw); go_simp); try with_reducible rfl
        try simp only [Act.put, List.setIfInBounds_toArray, List.set_cons_zero, List.set_cons_succ]
        refine hlTake 8 (v := ?v33) rfl (by kernel_rfl) (by kernel_rfl) (by kernel_rfl) (by kernel_rfl) (fun _ _ _ h => h) (by rfl) ?hy33 hH ?rest33
        case hy33 => ((intro w hSw); (try dsimp only at hSw); go_simp); try with_reducible rfl
        try simp only [Act.put, List.setIfInBounds_toArray, List.set_cons_zero, List.set_cons_succ]
        refine hlTake 9 (v := ?v34) rfl (by kernel_rfl) (by kernel_rfl) (by kernel_rfl) (by kernel_rfl) (fun _ _ _ h => h) (by rfl) ?hy34 hH ?rest34
        case hy34 => ((intro w hSw); (try dsimp only at hSw); go_simp); try with_reducible rfl
        try simp only [Act.put, List.setIfInBounds_toArray, List.set_cons_zero, List.set_cons_succ]
        refine hlTake 10 (v := ?v35) rfl (by kernel_rfl) (by kernel_rfl) (by kernel_rfl) (by kernel_rfl) (fun _ _ _ h => h) (by rfl) ?hy35 hH ?rest35
        case hy35 => ((intro w hSw); (try dsimp only at hSw); go_simp); try with_reducible rfl
        try simp only [Act.put, List.setIfInBounds_toArray, List.set_cons_zero, List.set_cons_succ]
        refine hlTake 11 (v := ?v36) rfl (by kernel_rfl) (by kernel_rfl) (by kernel_rfl) (by kernel_rfl) (fun _ _ _ h => h) (by rfl) ?hy36 hH ?rest36
        case hy36 => ((intro w hSw); (try dsimp only at hSw); go_simp); try with_reducible rfl
        try simp only [Act.put, List.setIfInBounds_toArray, List.set_cons_zero, List.set_cons_succ]
        refine hlTake 12 (v := ?v37) rfl (by kernel_rfl) (by kernel_rfl) (by kernel_rfl) (by kernel_rfl) (fun _ _ _ h => h) (by rfl) ?hy37 hH ?rest37
        case hy37 => ((intro w hSw); (try dsimp only at hSw); go_simp); try with_reducible rfl
        try simp only [Act.put, List.setIfInBounds_toArray, List.set_cons_zero, List.set_cons_succ]
        refine hlTake 13 (v := ?v38) rfl (by kernel_rfl) (by kernel_rfl) (by kernel_rfl) (by kernel_rfl) (fun _ _ _ h => h) (by rfl) ?hy38 hH ?rest38
        case hy38 => ((intro w hSw); (try dsimp only at hSw); go_simp); try with_reducible rfl
        try simp only [Act.put, List.setIfInBounds_toArray, List.set_cons_zero, List.set_cons_succ]
        refine hlTake 14 (v := ?v39) rfl (by kernel_rfl) (by kernel_rfl) (by kernel_rfl) (by kernel_rfl) (fun _ _ _ h => h) (by rfl) ?hy39 hH ?rest39
        case hy39 => ((intro w hSw); (try dsimp only at hSw); go_simp); try with_reducible rfl
        try simp only [Act.put, List.setIfInBounds_toArray, List.set_cons_zero, List.set_cons_succ]
        refine hlStep 15 rfl (by kernel_rfl) (by kernel_rfl) (fun KK hKK => ?_)
        go_simp
        refine hKK.out _ _ ?_
        clear hKK KK
        try simp only [Act.put, List.setIfInBounds_toArray, List.set_cons_zero, List.set_cons_succ]
        refine hlDone (by kernel_rfl) ?_ _
        clear y2 x0 c0 hbx hx2
        go_wp2_with fail
        exact hRest k _ _ _ _ _ _ _ _ _ _ _ _ _ _ _ _ _ _ _ hk HBd
    · have hltI : ¬ (k : Int) < (m : Int) := by omega
      go_wp2_with fail
      refine wp_region_L [0, 1, 2, 3, 4, 5, 6, 7, 8, 9, 10, 11, 12, 13, 14, 15] (S := fun w' => w'.cell? ⟨b5, 2, none⟩ = some (.slice d3 m e3) ∧ w'.cell? ⟨w.heap.size + 1, 0, none⟩ = some (.int .i64 x.id)) (by kernel_rfl) (⟨y2, x0⟩) (fun hH => ?_)
      refine hlTake 0 (v := ?v40) rfl (by kernel_rfl) (by kernel_rfl) (by kernel_rfl) (by kernel_rfl) (fun _ _ _ h => h) (by rfl) ?hy40 hH ?rest40
      case hy40 => ((intro w hSw); (try dsimp only at hSw); go_simp); try with_reducible rfl
      try simp only [Act.put, List.setIfInBounds_toArray, List.set_cons_zero, List.set_cons_succ]
      refine hlTake 1 (v := ?v41) rfl (by kernel_rfl) (by kernel_rfl) (by kernel_rfl) (by kernel_rfl) (fun _ _ _ h => h) (by rfl) ?hy41 hH ?rest41
      case hy41 => ((intro w hSw); (try dsimp only at hSw); go_simp); try with_reducible rfl
      try simp only [Act.put, List.setIfInBounds_toArray, List.set_cons_zero, List.set_cons_succ]
      refine hlTake 2 (v := ?v42) rfl (by kernel_rfl) (by kernel_rfl) (by kernel_rfl) (by kernel_rfl) (fun _ _ _ h => h) (by rfl) ?hy42 hH ?rest42
      case hy42 => ((intro w hSw); (try dsimp only at hSw); go_simp); try with_reducible rfl
      try simp only [Act.put, List.setIfInBounds_toArray, List.set_cons_zero, List.set_cons_succ]
      refine hlTake 3 (v := ?v43) rfl (by kernel_rfl) (by kernel_rfl) (by kernel_rfl) (by kernel_rfl) (fun _ _ _ h => h) (by rfl) ?hy43 hH ?rest43
      case hy43 => ((intro w hSw); (try dsimp only at hSw); go_simp); try with_reducible rfl
      try simp only [Act.put, List.setIfInBounds_toArray, List.set_cons_zero, List.set_cons_succ]
      refine hlTake 4 (v := ?v44) rfl (by kernel_rfl) (by kernel_rfl) (by kernel_rfl) (by kernel_rfl) (fun _ _ _ h => h) (by rfl) ?hy44 hH ?rest44
      case hy44 => ((intro w hSw); (try dsimp only at hSw); go_simp); try with_reducible rfl
      try simp only [Act.put, List.setIfInBounds_toArray, List.set_cons_zero, List.set_cons_succ]
      refine hlTake 5 (v := ?v45) rfl (by kernel_rfl) (by kernel_rfl) (by kernel_rfl) (by kernel_rfl) (fun _ _ _ h => h) (by rfl) ?hy45 hH ?rest45
      case hy45 => ((intro w hSw); (try dsimp only at hSw); go_simp); try with_reducible rfl
      try simp only [Act.put, List.setIfInBounds_toArray, List.set_cons_zero, List.set_cons_succ]
      refine hlSkip 6 rfl (by kernel_rfl) (by kernel_rfl) (by kernel_rfl) (by kernel_rfl) (fun _ _ _ h => h) (by rfl) hH ?_
      try simp only [Act.put, List.setIfInBounds_toArray, List.set_cons_zero, List.set_cons_succ]
      refine hlSkip 7 rfl (by kernel_rfl) (by kernel_rfl) (by kernel_rfl) (by kernel_rfl) (fun _ _ _ h => h) (by rfl) hH ?_
      try simp only [Act.put, List.setIfInBounds_toArray, List.set_cons_zero, List.set_cons_succ]
      refine hlSkip 8 rfl (by kernel_rfl) (by kernel_rfl) (by kernel_rfl) (by kernel_rfl) (fun _ _ _ h => h) (by rfl) hH ?_
      try simp only [Act.put, List.setIfInBounds_toArray, List.set_cons_zero, List.set_cons_succ]
      refine hlSkip 9 rfl (by kernel_rfl) (by kernel_rfl) (by kernel_rfl) (by kernel_rfl) (fun _ _ _ h => h) (by rfl) hH ?_
      try simp only [Act.put, List.setIfInBounds_toArray, List.set_cons_zero, List.set_cons_succ]
      refine hlSkip 10 rfl (by kernel_rfl) (by kernel_rfl) (by kernel_rfl) (by kernel_rfl) (fun _ _ _ h => h) (by rfl) hH ?_
      try simp only [Act.put, List.setIfInBounds_toArray, List.set_cons_zero, List.set_cons_succ]
      refine hlSkip 11 rfl (by kernel_rfl) (by kernel_rfl) (by kernel_rfl) (by kernel_rfl) (fun _ _ _ h => h) (by rfl) hH ?_
      try simp only [Act.put, List.setIfInBounds_toArray, List.set_cons_zero, List.set_cons_succ]
      refine hlSkip 12 rfl (by kernel_rfl) (by kernel_rfl) (by kernel_rfl) (by kernel_rfl) (fun _ _ _ h => h) (by rfl) hH ?_
      try simp only [Act.put, List.setIfInBounds_toArray, List.set_cons_zero, List.set_cons_succ]
      refine hlSkip 13 rfl (by kernel_rfl) (by kernel_rfl) (by kernel_rfl) (by kernel_rfl) (fun _ _ _ h => h) (by rfl) hH ?_
      try simp only [Act.put, List.setIfInBounds_toArray, List.set_cons_zero, List.set_cons_succ]
      refine hlSkip 14 rfl (by kernel_rfl) (by kernel_rfl) (by kernel_rfl) (by kernel_rfl) (fun _ _ _ h => h) (by rfl) hH ?_
      try simp only [Act.put, List.setIfInBounds_toArray, List.set_cons_zero, List.set_cons_succ]
      refine hlStep 15 rfl (by kernel_rfl) (by kernel_rfl) (fun KK hKK => ?_)
      go_simp
      refine hKK.out _ _ ?_
      clear hKK KK
      try simp only [Act.put, List.setIfInBounds_toArray, List.set_cons_zero, List.set_cons_succ]
      refine hlDone (by kernel_rfl) ?_ _
      clear y2 x0 hbx hx2
      go_wp2_with fail
      exact hRest k _ _ _ _ _ _ _ _ _ _ _ _ _ _ _ _ _ _ _ hk HBd
end Go.Proofs.YtmkkdenhjfjmgaaGreat
