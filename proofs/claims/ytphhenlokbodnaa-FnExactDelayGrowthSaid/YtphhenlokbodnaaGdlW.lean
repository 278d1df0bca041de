/- Walks: DelayGrowth, both. -/
import Derived.Test.YtphhenlokbodnaaGacW
import Derived.Test.YtphhenlokbodnaaMid
namespace Go.Proofs.Ytphhenlokbodnaa
open Go.RowKit Go.Sort
set_option maxRecDepth 100000

section
variable {α : Type}
theorem fltC_setCell {enc : α → List Value} {m : Nat} (hm : ∀ z, (enc z).length = m) (hm0 : 0 < m) (nil : α) (zs : List α) {i r : Nat} (hi : i < zs.length) (hr : r < m) (u : Value) (z' : α) (h : enc z' = (enc (zs[i]?.getD nil)).set r u) :
    (fltC enc zs).set (i * m + r) (.leaf u) = fltC enc (zs.set i z') := by
  apply List.ext_getElem?
  intro j
  obtain ⟨k, q, hq, rfl⟩ : ∃ k q, q < m ∧ j = k * m + q := ⟨j / m, j % m, Nat.mod_lt _ hm0, by rw [Nat.mul_comm]; exact (Nat.div_add_mod j m).symm⟩
  have hlen := fltC_len hm zs
  have him : i * m + r < (fltC enc zs).length := by
    rw [hlen]
    have := Nat.mul_le_mul_right m (show i + 1 ≤ zs.length by omega)
    rw [Nat.add_mul] at this; omega
  rw [fltC_at hm (zs.set i z') k q hq]
  by_cases e : i = k
  · subst e
    rw [List.getElem?_set_self hi, Option.bind_some, h]
    by_cases e2 : r = q
    · subst e2
      rw [List.getElem?_set_self him, List.getElem?_set_self (by rw [hm]; exact hr)]; rfl
    · rw [List.getElem?_set_ne (by omega), List.getElem?_set_ne e2, fltC_at hm zs i q hq, List.getElem?_eq_getElem hi]; rfl
  · rw [List.getElem?_set_ne e, List.getElem?_set_ne (fun h2 => e ?_), fltC_at hm zs k q hq]
    rcases Nat.lt_or_gt_of_ne e with h3 | h3
    · have := Nat.mul_le_mul_right m (show i + 1 ≤ k by omega)
      rw [Nat.add_mul] at this; omega
    · have := Nat.mul_le_mul_right m (show k + 1 ≤ i by omega)
      rw [Nat.add_mul] at this; omega
/-- A cell of an element stored over. -/
theorem flt_putC {enc : α → List Value} {m base : Nat} {w : World} {v : Value} {zs : List α} (hm : ∀ z, (enc z).length = m) (hm0 : 0 < m) (nil : α) (h : Ofr w base (flt m enc zs) v) (hb : base ≤ w.heap.size) {k r : Nat} (hk : k < zs.length) (hr : r < m) (u : Value) (z' : α) (hz : enc z' = (enc (zs[k]?.getD nil)).set r u) :
    ∃ g off cap, v = .slice (some ⟨g, off, none⟩) zs.length cap ∧ base ≤ g ∧ g < w.heap.size ∧ (∃ u0, w.cell? ⟨g, off + k * m + r, none⟩ = some u0) ∧ w.frozen? ⟨g, off + k * m + r, none⟩ = false ∧
      Ofr (w.setCell ⟨g, off + k * m + r, none⟩ u) base (flt m enc (zs.set k z')) v := by
  obtain ⟨g, off, cap, rfl, h1, h2, h3, h4, -⟩ := flt_put hm hm0 h hb hk z'
  have hkm : k * m + r < (fltC enc zs).length := by
    rw [fltC_len hm]
    have := Nat.mul_le_mul_right m (show k + 1 ≤ zs.length by omega)
    rw [Nat.add_mul] at this; omega
  have := h.putRow rfl [u] w (fltC enc zs) (k * m + r) hb (show k * m + r + 1 ≤ _ from hkm)
  simp only [setRow, setDs] at this
  rw [fltC_setCell hm hm0 nil zs hk hr u z' hz, ← Nat.add_assoc] at this
  exact ⟨g, off, cap, rfl, h1, h2, h3 r hr, h4 _, this⟩
theorem flt_cellAt {enc : α → List Value} {m : Nat} {w : World} {g off n cap : Nat} {zs : List α} (hm : ∀ z, (enc z).length = m) (hm0 : 0 < m) (nil : α) (h : Rdt w (flt m enc zs) (.slice (some ⟨g, off, none⟩) n cap)) {i r : Nat} {u : Value} (hi : i < zs.length) (hu : (enc (zs[i]?.getD nil))[r]? = some u) : w.cell? ⟨g, off + i * m + r, none⟩ = some u := by
  obtain ⟨a, n', cap', e, HN, -, -, ha⟩ := flt_opn hm hm0 nil h
  simp only [Value.slice.injEq] at e
  obtain ⟨rfl, rfl, rfl⟩ := e
  obtain ⟨b, off', e2, -, hc⟩ := ha (by have := HN.out; omega)
  simp only [Option.some.injEq, Addr.mk.injEq, and_true] at e2
  obtain ⟨rfl, rfl⟩ := e2
  exact hc i (by have := HN.out; omega) r u hu
/-- A whole list of flat structs appended to a row of the call's own. -/
theorem wpList_catF {P : Program} {ops : Array Oper} {rest : List Oper} {o : Oper} {a : Act} {Q : Exit → Act → World → Prop} {w : World} {enc : α → List Value} {m : Nat} (hm : ∀ z, (enc z).length = m) (hm0 : 0 < m) (nil : α) (h1 : ∀ z, ∀ u ∈ enc z, u.oneCell' = true)
    (hgd : o.guard = none) (s x : Operand) (T e : TypeId) (ho : o.op = .call { callee := .builtin .append, args := #[s, x], argTypes := #[T, T] }) (ht : P.underlying T = some (.slice e)) (z : Value) (bytes : Nat)
    (hinfo : (P.info? e).map (fun i => (i.zero, i.size, i.bytes)) = some (some z, m, bytes)) (hzs : z.cells.size = m) (hby : bytes ≤ 1000)
    (base : Nat) (v : Value) (n : Nat) (us : List Value) (hs : a.eval s = v) (hown : w.ownsRow base e m v n us)
    (zs : List α) (b off k cap : Nat) (hx : a.eval x = .slice (some ⟨b, off, none⟩) k cap) (hk : zs.length = k) (hc : ∀ i, i < k → ∀ r u, (enc (zs[i]?.getD nil))[r]? = some u → w.cell? ⟨b, off + i * m + r, none⟩ = some u)
    (hn : n + k ≤ 1000000) (hbase : base ≤ w.heap.size)
    (h : ∀ v' w', w'.ownsRow base e m v' (n + k) (us ++ zs.flatMap enc) → w.grownBy w' v.ownBlock → wpList P ops Q rest (a.put o.dst v') w') : wpList P ops Q (o :: rest) a w := by
  obtain ⟨i0, hi, hz0, hz1, hz2⟩ := info_parts hinfo
  have hfl : (zs.flatMap enc).length = k * m := by
    have := fltC_len hm zs
    unfold fltC at this
    rw [← hk, ← this, ← List.map_flatMap, List.length_map]
  refine wpList_append_own _ hgd s x T ho base e i0 z m bytes ht hi hz0 hz1 hz2 hzs hm0 v n us hs hown ⟨b, off, none⟩ k cap (zs.flatMap enc) hx hfl (fun j u hu => ?_) (fun u hu => ?_) (by unfold maxLen; omega) ?_ hbase (fun v' w' g1 g2 _ => h v' w' g1 g2)
  · obtain ⟨i, r, hr, rfl⟩ : ∃ i r, r < m ∧ j = i * m + r := ⟨j / m, j % m, Nat.mod_lt _ hm0, by rw [Nat.mul_comm]; exact (Nat.div_add_mod j m).symm⟩
    have hik : i < k := by
      have hlt : i * m + r < k * m := by rw [← hfl]; exact (List.getElem?_eq_some_iff.1 hu).1
      by_cases e2 : i < k
      · exact e2
      · have := Nat.mul_le_mul_right m (Nat.le_of_not_lt e2); omega
    have hiz : i < zs.length := by rw [hk]; exact hik
    rw [flatV_at hm zs i r hr, List.getElem?_eq_getElem hiz, Option.bind_some] at hu
    have := hc i hik r u (by rw [List.getElem?_eq_getElem hiz]; exact hu)
    have ea : (⟨b, off, none⟩ : Addr).add (i * m + r) = ⟨b, off + i * m + r, none⟩ := by
      unfold Addr.add
      split
      · rename_i h0; rw [Nat.add_assoc, h0, Nat.add_zero]
      · simp [Nat.add_assoc]
    rw [ea]; exact this
  · obtain ⟨zz, -, h2⟩ := List.mem_flatMap.1 hu
    exact h1 zz u h2
  · have : (n + k) * bytes ≤ 1000000 * 1000 := Nat.mul_le_mul hn hby
    omega
end
theorem groE_one (z : Gro) : ∀ u ∈ groE z, u.oneCell' = true := by
  intro u hu; simp [groE] at hu; rcases hu with rfl | rfl | rfl | rfl | rfl | rfl <;> rfl
theorem Try.infoGro : (Try.prog.info? 69).map (fun i => (i.zero, i.size, i.bytes)) = some (some (.agg #[.int .i64 0, .int .i64 0, .int .i64 0, .int .i64 0, .int .i64 0, .int .i64 0]), 6, 48) := by kernel_rfl
set_option maxHeartbeats 1600000 in
theorem cloneGro_any (v : Value) (gs : List Gro) (w : World) (h : Rdt w (flt 6 groE gs) v) (h0 : 0 < gs.length) (hl : gs.length ≤ 1000) :
    Calls Try.prog 52 #[v] w fun e w' => ∃ v', e = .returned v' ∧ Ofr w' w.heap.size (flt 6 groE gs) v' ∧ Below w.heap.size w w' := by
  obtain ⟨a, n, cap, rfl, HN, hnc, hn, ha⟩ := flt_opn (m := 6) (enc := groE) (fun _ => rfl) (by omega) nilG h
  rw [HN.out] at h0 hl
  obtain ⟨b, off, rfl, hb, hc⟩ := ha h0
  have hne : ∀ w, (binOp .eql 34 (.slice (some ⟨b, off, none⟩) n cap) (.slice none 0 0)).run Try.prog w = .ok (.bool false) w := fun _ => rfl
  have hb1 := (Below.refl w.heap.size w).alloc (Nat.le_refl _) (.cells #[] 69)
  have HO := Lib.hid (World.ownsRow_made (base := w.heap.size) (e := 69) (size := 6) w #[] 0 (Nat.le_refl _) (Nat.zero_le _) (by simp))
  have HC := Lib.hid (fun i hi r u hu => (hb1.cell (p := ⟨b, off + i * 6 + r, none⟩) hb).trans (hc i hi r u hu))
  have HB := Lib.hid hb1
  clear hb1 hc ha h
  go_enter Try.func52, Try.ntmps52
  go_wp2_with (at_builtin; go_loud (refine wpList_catF (m := 6) (enc := groE) (fun _ => rfl) (by omega) nilG groE_one rfl (.tmp 5) (.tmp 6) 34 69 rfl Try.underlying34 _ 48 Try.infoGro rfl (by omega) w.heap.size (.slice (some ⟨w.heap.size, 0, none⟩) 0 0) 0 [] rfl HO.out gs b off n cap rfl HN.out HC.out (by omega) HB.out.size ?_; intro v3 w3 hown hgr; have HO3 := Lib.hid hown; have HB3 := Lib.hid (HB.out.grown hgr HB.out.size (fun q hq => (HO.out.lt q hq).1)); clear hown hgr))
  go_ret
  exact ⟨_, rfl, flt_of_row (enc := groE) (by simpa using HO3.out), HB3.out⟩
def delG (g : Gro) (d : Int) : Gro := ⟨g.d, g.s + d, g.e + d⟩
def delL (gs : List Gro) (i : Nat) (d : Int) : List Gro := gs.set i (delG (gs[i]?.getD nilG) d)
def delOk0 (n : Net) (gs : List Gro) (i d : Int) : Bool := grsOk n gs && inB i 0 ((gs.length : Int) - 1) && inB d (-8) 8
def delOk (n : Net) (gs : List Gro) (i d : Int) : Bool := delOk0 n gs i d && grsOk n (delL gs i.toNat d)
def delR (n : Net) (gs : List Gro) (i d : Int) : List Gro := if delOk n gs i d then delL gs i.toNat d else []
theorem delR_len (n : Net) (gs : List Gro) (i d : Int) : (delR n gs i d).length ≤ gs.length := by
  unfold delR; split
  · simp [delL]
  · simp
def DelP (n : Net) (gs : List Gro) (i d : Int) (w : World) (e : Ending) (w' : World) : Prop := ∃ v, e = .returned (.tuple #[v, .bool (delOk n gs i d)]) ∧ Ofr w' w.heap.size (flt 6 groE (delR n gs i d)) v ∧ Below w.heap.size w w'
theorem DelP.no {n : Net} {gs : List Gro} {i d : Int} {w w' : World} {v : Value} (h : delOk n gs i d = false) (ho : Ofr w' w.heap.size (.rows 6 []) v) (hb : Below w.heap.size w w') : DelP n gs i d w (.returned (.tuple #[v, .bool false])) w' :=
  ⟨v, by rw [h], by rw [show delR n gs i d = [] by unfold delR; rw [h]; rfl]; exact ho, hb⟩
theorem DelP.yes {n : Net} {gs : List Gro} {i d : Int} {w w' : World} {v : Value} (h : delOk n gs i d = true) (ho : Ofr w' w.heap.size (flt 6 groE (delL gs i.toNat d)) v) (hb : Below w.heap.size w w') : DelP n gs i d w (.returned (.tuple #[v, .bool true])) w' :=
  ⟨v, by rw [h], by rw [show delR n gs i d = delL gs i.toNat d by unfold delR; rw [if_pos h]]; exact ho, hb⟩
theorem gro_bounds {n : Net} {gs : List Gro} (h : grsOk n gs = true) {i : Nat} (hi : i < gs.length) : 0 ≤ (gs[i]?.getD nilG).s ∧ (gs[i]?.getD nilG).s ≤ (gs[i]?.getD nilG).e ∧ (gs[i]?.getD nilG).e < 8 := by
  unfold grsOk at h
  simp only [Bool.and_eq_true, Bool.not_eq_true', List.any_eq_false] at h
  have hx : groOk n.ns.length gs[i] = true := by have := h.2 gs[i] (List.getElem_mem hi); simpa using this
  rw [List.getElem?_eq_getElem hi, Option.getD_some]
  unfold groOk at hx
  simp only [Bool.and_eq_true, decide_eq_true_eq] at hx
  have h2 := inB_true hx.1.2
  omega
set_option maxHeartbeats 3200000 in
theorem implDelay_any (v u : Value) (n : Net) (gs : List Gro) (i d : Int) (w : World) (h : NetR w v n) (hg : Rdt w (flt 6 groE gs) u) :
    Calls Try.prog 23 #[v, u, .int .i64 i, .int .i64 d] w (DelP n gs i d w) := by
  have HVG := Lib.hid (fun w' (hb : Below w.heap.size w w') => implGrowths_any v u n gs w' (h.behind hb) (hg.behind hb))
  have HV2 := Lib.hid (fun (u' : Value) (gs' : List Gro) w' (hb : Below w.heap.size w w') (hg' : Rdt w' (flt 6 groE gs') u') => implGrowths_any v u' n gs' w' (h.behind hb) hg')
  have HCL := Lib.hid (fun w' (hb : Below w.heap.size w w') h0 hl => cloneGro_any u gs w' (hg.behind hb) h0 hl)
  obtain ⟨u1, u2, rfl, r1, r2, -⟩ := h
  obtain ⟨a1, m1, c1, rfl⟩ := Rdt.slice' r1
  obtain ⟨a2, m2, c2, rfl⟩ := Rdt.slice' r2
  obtain ⟨a3, m3, c3, rfl, HN3, hc3, hm3, -⟩ := flt_opn (m := 6) (enc := groE) (fun _ => rfl) (by omega) nilG hg
  obtain ⟨bx, bc, blt, -⟩ := box_facts w #[.slice a1 m1 c1, .slice a2 m2 c2] 32
  have HBX := Lib.hid bx
  have q0 := bc 0 (.slice a1 m1 c1) rfl
  have q1 := bc 1 (.slice a2 m2 c2) rfl
  have HOK0 := Lib.hid (show delOk0 n gs i d = (grsOk n gs && inB i 0 ((m3 : Int) - 1) && inB d (-8) 8) by unfold delOk0; rw [HN3.out])
  have HOK := Lib.hid (show delOk n gs i d = (delOk0 n gs i d && grsOk n (delL gs i.toNat d)) from rfl)
  have H12 := Lib.hid (show grsOk n gs = true → m3 ≤ 12 from fun e => by unfold grsOk at e; simp only [Bool.and_eq_true, decide_eq_true_eq] at e; have := HN3.out; omega)
  have HBD := Lib.hid (fun (e : grsOk n gs = true) (j : Nat) hj => gro_bounds e (i := j) hj)
  have HNO := Lib.hid (fun w' v (ho : Ofr w' w.heap.size (.rows 6 []) v) hb (e : delOk n gs i d = false) => DelP.no e ho hb)
  have HYE := Lib.hid (fun w' v (ho : Ofr w' w.heap.size (flt 6 groE (delL gs i.toNat d)) v) hb (e : delOk n gs i d = true) => DelP.yes e ho hb)
  clear bx bc r1 r2 hg
  go_enter Try.func23, Try.ntmps23
  go_wp2_with fail
  have HV1 := Lib.hid (HVG.out _ HBX.out)
  generalize w.alloc (.cells #[.slice a1 m1 c1, .slice a2 m2 c2] 32) = w1 at *
  cases hgk : grsOk n gs
  · have HE := Lib.hid (show delOk n gs i d = false by rw [HOK.out, HOK0.out, hgk]; rfl)
    rw [hgk] at HV1
    refine HV1.out.mono ?_
    rintro e w2 ⟨rfl, b2⟩
    have HB2 := Lib.hid (HBX.out.trans (b2.mono HBX.out.size))
    clear b2 hgk
    go_wp2
    go_ret2
    exact HNO.out _ _ (Ofr.nil _ _ _) HB2.out HE.out
  have h12 := H12.out hgk
  have HBD2 := Lib.hid (HBD.out hgk)
  rw [hgk] at HV1
  refine HV1.out.mono ?_
  rintro e w2 ⟨rfl, b2⟩
  have HB2 := Lib.hid (HBX.out.trans (b2.mono HBX.out.size))
  have p0 := (b2.cell blt).trans q0
  have p1 := (b2.cell blt).trans q1
  have blt2 := Nat.lt_of_lt_of_le blt b2.size
  clear b2 q0 q1
  cases hin : inB i 0 ((m3 : Int) - 1)
  · have HE := Lib.hid (show delOk n gs i d = false by rw [HOK.out, HOK0.out, hin]; simp)
    clear hgk
    go_wp2_with (go_at_call 44; refine (within_any _ _ _ _).mono ?_; rintro e w' ⟨rfl, rfl⟩; rw [hin])
    go_ret2
    exact HNO.out _ _ (Ofr.nil _ _ _) HB2.out HE.out
  have hib := inB_true hin
  cases hdn : inB d (-8) 8
  · have HE := Lib.hid (show delOk n gs i d = false by rw [HOK.out, HOK0.out, hdn]; simp)
    clear hgk
    go_wp2_with (go_at_call 44; refine (within_any _ _ _ _).mono ?_; rintro e w' ⟨rfl, rfl⟩; first | rw [hin] | rw [hdn])
    go_ret2
    exact HNO.out _ _ (Ofr.nil _ _ _) HB2.out HE.out
  have hdb := inB_true hdn
  have HE0 := Lib.hid (show delOk n gs i d = grsOk n (delL gs i.toNat d) by rw [HOK.out, HOK0.out, hgk, hin, hdn]; rfl)
  obtain ⟨k, hk⟩ : ∃ k : Nat, i = (k : Int) := ⟨i.toNat, by omega⟩
  have HKE := Lib.hid (show i.toNat = k by omega)
  have hk1 : (k : Int) < (m3 : Int) := by omega
  have HCL2 := Lib.hid (HCL.out w2 HB2.out (by rw [HN3.out]; omega) (by rw [HN3.out]; omega))
  have hgb := HBD2.out k (by rw [HN3.out]; omega)
  rw [HKE.out] at HYE HE0
  clear hgk HKE HOK HOK0 HV1 HVG HCL HBD HBD2
  subst hk
  have hkl : k < gs.length := by rw [HN3.out]; omega
  have HKL := Lib.hid hkl
  have HSET := Lib.hid (show (gs.set k ⟨(gs[k]?.getD nilG).d, (gs[k]?.getD nilG).s + d, (gs[k]?.getD nilG).e⟩).set k (delG (gs[k]?.getD nilG) d) = delL gs k d by rw [List.set_set]; rfl)
  have HGK := Lib.hid (show (gs.set k ⟨(gs[k]?.getD nilG).d, (gs[k]?.getD nilG).s + d, (gs[k]?.getD nilG).e⟩)[k]?.getD nilG = ⟨(gs[k]?.getD nilG).d, (gs[k]?.getD nilG).s + d, (gs[k]?.getD nilG).e⟩ by rw [List.getElem?_set_self hkl]; rfl)
  clear hkl
  obtain ⟨hs0, hs1, hs2⟩ := hgb
  obtain ⟨hd1, hd2⟩ := hdb
  have he0 : 0 ≤ (gs[k]?.getD nilG).e := by omega
  have hs7 : (gs[k]?.getD nilG).s ≤ 7 := by omega
  have he7 : (gs[k]?.getD nilG).e ≤ 7 := by omega
  go_wp2_with fail
  refine (within_any _ _ _ _).mono ?_
  rintro e w' ⟨rfl, rfl⟩
  rw [hin]
  go_wp2_with fail
  refine (within_any _ _ _ _).mono ?_
  rintro e w' ⟨rfl, rfl⟩
  rw [hdn]
  go_wp2_with fail
  refine HCL2.out.mono ?_
  rintro e w3 ⟨v3, rfl, o3, b3⟩
  obtain ⟨g, off, cap, rfl, hg1, hg2, ⟨x4, t4⟩, f4, o4⟩ := flt_putC (enc := groE) (m := 6) (fun _ => rfl) (by omega) nilG o3 b3.size HKL.out (r := 4) (by omega) (.int .i64 ((gs[k]?.getD nilG).s + d)) ⟨(gs[k]?.getD nilG).d, (gs[k]?.getD nilG).s + d, (gs[k]?.getD nilG).e⟩ rfl
  have t4' := flt_cellAt (enc := groE) (m := 6) (fun _ => rfl) (by omega) nilG o3.rd (i := k) (r := 4) HKL.out rfl
  have t5 := flt_cellAt (enc := groE) (m := 6) (fun _ => rfl) (by omega) nilG o3.rd (i := k) (r := 5) HKL.out rfl
  obtain ⟨g', off', cap', ev, -, -, ⟨x5, t5'⟩, f5, o5⟩ := flt_putC (enc := groE) (m := 6) (fun _ => rfl) (by omega) nilG o4 (by simpa using b3.size) (k := k) (by rw [List.length_set]; exact HKL.out) (r := 5) (by omega) (.int .i64 ((gs[k]?.getD nilG).e + d)) (delG (gs[k]?.getD nilG) d) (by rw [HGK.out]; rfl)
  simp only [Value.slice.injEq, Option.some.injEq, Addr.mk.injEq, and_true] at ev
  obtain ⟨⟨rfl, rfl⟩, -, rfl⟩ := ev
  rw [HSET.out, HN3.out] at o5
  rw [HN3.out]
  clear t4 t5'
  have f5' : w3.frozen? ⟨g, off + k * 6 + 5, none⟩ = false := by simpa using f5
  clear f5
  have n0 := (b3.cell blt2).trans p0
  have n1 := (b3.cell blt2).trans p1
  have hne : ¬ w.heap.size = g := by omega
  have HO5 := Lib.hid o5
  have HB5 := Lib.hid (((HB2.out.trans (b3.mono HB2.out.size)).setCell (p := ⟨g, off + k * 6 + 4, none⟩) (show w.heap.size ≤ g by omega) (.int .i64 ((gs[k]?.getD nilG).s + d))).setCell (p := ⟨g, off + k * 6 + 5, none⟩) (show w.heap.size ≤ g by omega) (.int .i64 ((gs[k]?.getD nilG).e + d)))
  have HW := Lib.hid (show w.heap.size ≤ w2.heap.size from HB2.out.size)
  clear o3 o4 o5 b3 hg1 hg2 HGK HSET HCL2 p0 p1
  have HVV := Lib.hid (HV2.out _ (delL gs k d) _ HB5.out HO5.out.rd)
  generalize gs[k]?.getD nilG = z at *
  generalize delL gs k d = gs' at *
  go_wp2_with fail
  cases hg2k : grsOk n gs'
  all_goals
    rw [hg2k] at HVV HE0
    clear hg2k
    refine HVV.out.mono ?_
    rintro e w6 ⟨rfl, b6⟩
    have HB6 := Lib.hid (HB5.out.trans (b6.mono HB5.out.size))
    have HO6 := Lib.hid (HO5.out.below b6)
    clear b6
    go_wp2
    go_ret2
  · exact HNO.out _ _ (Ofr.nil _ _ _) HB6.out HE0.out
  · exact HYE.out _ _ (HO6.out.mono HW.out) HB6.out HE0.out
theorem setRow_eq (w : World) (g : Nat) (us : List Value) : ∀ (w : World) (o : Nat), setRow w g o us = w.setCells g o us := by
  induction us with
  | nil => intro w o; rfl
  | cons u us ih => intro w o; exact ih _ _
/-- An element stored over another, by one law. -/
theorem flt_putX {α : Type} {enc : α → List Value} {m base : Nat} {w : World} {v : Value} {zs : List α} (hm : ∀ z, (enc z).length = m) (hm0 : 0 < m) (h : Ofr w base (flt m enc zs) v) (hb : base ≤ w.heap.size) {k : Nat} (hk : k < zs.length) :
    ∃ g off cap, v = .slice (some ⟨g, off, none⟩) zs.length cap ∧ base ≤ g ∧ g < w.heap.size ∧ (∀ w', Below w.heap.size w w' → w'.there g (off + k * m) m ∧ ∀ z, Ofr (w'.setCells g (off + k * m) (enc z)) base (flt m enc (zs.set k z)) v) := by
  obtain ⟨nil⟩ : Nonempty α := ⟨zs[k]⟩
  obtain ⟨g, off, cap, rfl, h1, h2, -⟩ := flt_put hm hm0 h hb hk nil
  refine ⟨g, off, cap, rfl, h1, h2, fun w' hw' => ⟨fun j hj => ?_, fun z => ?_⟩⟩
  · obtain ⟨g', off', cap', e, -, -, q1, q2, -⟩ := flt_put hm hm0 (h.below hw') (Nat.le_trans hb hw'.size) hk nil
    simp only [Value.slice.injEq, Option.some.injEq, Addr.mk.injEq, and_true] at e
    obtain ⟨⟨rfl, rfl⟩, -, rfl⟩ := e
    obtain ⟨u0, hu0⟩ := q1 j hj
    exact ⟨by rw [hu0]; rfl, q2 _⟩
  · obtain ⟨g', off', cap', e, -, -, -, -, q3⟩ := flt_put hm hm0 (h.below hw') (Nat.le_trans hb hw'.size) hk z
    simp only [Value.slice.injEq, Option.some.injEq, Addr.mk.injEq, and_true] at e
    obtain ⟨⟨rfl, rfl⟩, -, rfl⟩ := e
    rw [setRow_eq w] at q3
    exact q3
set_option maxHeartbeats 3200000 in
theorem specDelay_any (v u : Value) (n : Net) (gs : List Gro) (i d : Int) (w : World) (h : NetR w v n) (hg : Rdt w (flt 6 groE gs) u) :
    Calls Try.prog 22 #[v, u, .int .i64 i, .int .i64 d] w (DelP n gs i d w) := by
  have HVG := Lib.hid (fun w' (hb : Below w.heap.size w w') => l26Good_any v u n gs w' (h.behind hb) (hg.behind hb))
  have HV2 := Lib.hid (fun (u' : Value) (gs' : List Gro) w' (hb : Below w.heap.size w w') (hg' : Rdt w' (flt 6 groE gs') u') => l26Good_any v u' n gs' w' (h.behind hb) hg')
  obtain ⟨u1, u2, rfl, r1, r2, -⟩ := h
  obtain ⟨a1, m1, c1, rfl⟩ := Rdt.slice' r1
  obtain ⟨a2, m2, c2, rfl⟩ := Rdt.slice' r2
  obtain ⟨a3, m3, c3, rfl, HN3, hc3, hm3, ha3⟩ := flt_opn (m := 6) (enc := groE) (fun _ => rfl) (by omega) nilG hg
  obtain ⟨bx, bc, blt, -⟩ := box_facts w #[.slice a1 m1 c1, .slice a2 m2 c2] 32
  have HBX := Lib.hid bx
  have HA := Lib.hid ha3
  have q0 := bc 0 (.slice a1 m1 c1) rfl
  have q1 := bc 1 (.slice a2 m2 c2) rfl
  have HOK0 := Lib.hid (show delOk0 n gs i d = (grsOk n gs && inB i 0 ((m3 : Int) - 1) && inB d (-8) 8) by unfold delOk0; rw [HN3.out])
  have HOK := Lib.hid (show delOk n gs i d = (delOk0 n gs i d && grsOk n (delL gs i.toNat d)) from rfl)
  have H12 := Lib.hid (show grsOk n gs = true → m3 ≤ 12 from fun e => by unfold grsOk at e; simp only [Bool.and_eq_true, decide_eq_true_eq] at e; have := HN3.out; omega)
  have HBD := Lib.hid (fun (e : grsOk n gs = true) (j : Nat) hj => gro_bounds e (i := j) hj)
  have HNO := Lib.hid (fun (w2 : World) (hb : Below w.heap.size w w2) (e : delOk n gs i d = false) => DelP.no (w' := w2.alloc (.cells #[] 69)) (v := .slice (some ⟨w2.heap.size, 0, none⟩) 0 0) e (Ofr.of_row (us := []) (World.ownsRow_made w2 #[] 0 hb.size (Nat.zero_le _) (by simp))) (hb.alloc hb.size _))
  have HYE := Lib.hid (fun w' v (ho : Ofr w' w.heap.size (flt 6 groE (delL gs i.toNat d)) v) hb (e : delOk n gs i d = true) => DelP.yes e ho hb)
  clear bx bc r1 r2 hg ha3
  go_enter Try.func22, Try.ntmps22
  go_wp2_with fail
  have HV1 := Lib.hid (HVG.out _ HBX.out)
  generalize w.alloc (.cells #[.slice a1 m1 c1, .slice a2 m2 c2] 32) = w1 at *
  cases hgk : grsOk n gs
  · have HE := Lib.hid (show delOk n gs i d = false by rw [HOK.out, HOK0.out, hgk]; rfl)
    rw [hgk] at HV1
    refine HV1.out.mono ?_
    rintro e w2 ⟨rfl, b2⟩
    have HB2 := Lib.hid (HBX.out.trans (b2.mono HBX.out.size))
    clear b2 hgk
    go_wp2
    go_ret2
    exact HNO.out _ HB2.out HE.out
  have h12 := H12.out hgk
  have HBD2 := Lib.hid (HBD.out hgk)
  rw [hgk] at HV1
  refine HV1.out.mono ?_
  rintro e w2 ⟨rfl, b2⟩
  have HB2 := Lib.hid (HBX.out.trans (b2.mono HBX.out.size))
  have p0 := (b2.cell blt).trans q0
  have p1 := (b2.cell blt).trans q1
  have blt2 := Nat.lt_of_lt_of_le blt b2.size
  clear b2 q0 q1
  cases hin : inB i 0 ((m3 : Int) - 1)
  · have HE := Lib.hid (show delOk n gs i d = false by rw [HOK.out, HOK0.out, hin]; simp)
    clear hgk
    go_wp2_with (go_at_call 48; refine (l1In_any _ _ _ _).mono ?_; rintro e w' ⟨rfl, rfl⟩; rw [hin])
    go_ret2
    exact HNO.out _ HB2.out HE.out
  have hib := inB_true hin
  cases hdn : inB d (-8) 8
  · have HE := Lib.hid (show delOk n gs i d = false by rw [HOK.out, HOK0.out, hdn]; simp)
    clear hgk
    go_wp2_with (go_at_call 48; refine (l1In_any _ _ _ _).mono ?_; rintro e w' ⟨rfl, rfl⟩; first | rw [hin] | rw [hdn])
    go_ret2
    exact HNO.out _ HB2.out HE.out
  have hdb := inB_true hdn
  have HE0 := Lib.hid (show delOk n gs i d = grsOk n (delL gs i.toNat d) by rw [HOK.out, HOK0.out, hgk, hin, hdn]; rfl)
  obtain ⟨k, hk⟩ : ∃ k : Nat, i = (k : Int) := ⟨i.toNat, by omega⟩
  have HKE := Lib.hid (show i.toNat = k by omega)
  have hk1 : (k : Int) < (m3 : Int) := by omega
  have hgb := HBD2.out k (by rw [HN3.out]; omega)
  rw [HKE.out] at HYE HE0
  clear hgk HKE HOK HOK0 HV1 HVG HBD HBD2
  subst hk
  have hkl : k < gs.length := by rw [HN3.out]; omega
  have HKL := Lib.hid hkl
  clear hkl
  obtain ⟨hs0, hs1, hs2⟩ := hgb
  obtain ⟨hd1, hd2⟩ := hdb
  have he0 : 0 ≤ (gs[k]?.getD nilG).e := by omega
  have hs7 : (gs[k]?.getD nilG).s ≤ 7 := by omega
  have he7 : (gs[k]?.getD nilG).e ≤ 7 := by omega
  obtain ⟨b, off0, rfl, hbs, hcs⟩ := HA.out (by omega)
  have ba := (Below.refl w2.heap.size w2).alloc (Nat.le_refl _) (.cells #[] 69)
  have HO := Lib.hid (World.ownsRow_made (base := w2.heap.size) (e := 69) (size := 6) w2 #[] 0 (Nat.le_refl _) (Nat.zero_le _) (by simp))
  have HC := Lib.hid (fun i hi r u hu => (ba.cell (p := ⟨b, off0 + i * 6 + r, none⟩) (Nat.lt_of_lt_of_le hbs HB2.out.size)).trans ((HB2.out.cell hbs).trans (hcs i hi r u hu)))
  have HB := Lib.hid ba
  have HSET := Lib.hid (show gs.set k ⟨(gs[k]?.getD nilG).d, (gs[k]?.getD nilG).s + d, (gs[k]?.getD nilG).e + d⟩ = delL gs k d from rfl)
  have HBL := Lib.hid (show w.heap.size < w2.heap.size from blt2)
  have P0 := Lib.hid p0
  have P1 := Lib.hid p1
  clear ba hcs hbs p0 p1
  go_wp2_with fail
  refine (l1In_any _ _ _ _).mono ?_
  rintro e w' ⟨rfl, rfl⟩
  rw [hin]
  go_wp2_with fail
  refine (l1In_any _ _ _ _).mono ?_
  rintro e w' ⟨rfl, rfl⟩
  rw [hdn]
  go_wp2_with (first
    | (at_builtin; go_loud (refine wpList_catF (m := 6) (enc := groE) (fun _ => rfl) (by omega) nilG groE_one rfl (.tmp 30) (.tmp 31) 34 69 rfl Try.underlying34 _ 48 Try.infoGro rfl (by omega) w2.heap.size (.slice (some ⟨w2.heap.size, 0, none⟩) 0 0) 0 [] rfl HO.out gs b off0 m3 c3 rfl HN3.out HC.out (by omega) HB.out.size ?_); intro v3 w3 hown hgr; have HB3 := Lib.hid (HB.out.grown hgr HB.out.size (fun q hq => (HO.out.lt q hq).1)); have o3 := flt_of_row (enc := groE) (zs := gs) (by simpa using hown); obtain ⟨g, off, cap, rfl, hg1, hg2, hput⟩ := flt_putX (enc := groE) (m := 6) (fun _ => rfl) (by omega) o3 HB3.out.size HKL.out; have t0 := flt_cellAt (enc := groE) (m := 6) (fun _ => rfl) (by omega) nilG o3.rd (i := k) (r := 0) HKL.out rfl; have t1 := flt_cellAt (enc := groE) (m := 6) (fun _ => rfl) (by omega) nilG o3.rd (i := k) (r := 1) HKL.out rfl; have t2 := flt_cellAt (enc := groE) (m := 6) (fun _ => rfl) (by omega) nilG o3.rd (i := k) (r := 2) HKL.out rfl; have t3 := flt_cellAt (enc := groE) (m := 6) (fun _ => rfl) (by omega) nilG o3.rd (i := k) (r := 3) HKL.out rfl; have t4 := flt_cellAt (enc := groE) (m := 6) (fun _ => rfl) (by omega) nilG o3.rd (i := k) (r := 4) HKL.out rfl; have t5 := flt_cellAt (enc := groE) (m := 6) (fun _ => rfl) (by omega) nilG o3.rd (i := k) (r := 5) HKL.out rfl; simp only [Nat.add_zero] at t0; rw [HN3.out] at *; have HPUT := Lib.hid hput; clear hput hown hgr o3)
    | ((show wpList _ _ _ (⟨none, .store 69 (.tmp 50) _, _, _, _, _⟩ :: _) _ _); have hal := (Below.refl w3.heap.size w3).alloc (Nat.le_refl _) (.cells #[.int .i64 (gs[k]?.getD nilG).d.a, .int .i64 (gs[k]?.getD nilG).d.b, .int .i64 (gs[k]?.getD nilG).d.r, .int .i64 (gs[k]?.getD nilG).d.c, .int .i64 ((gs[k]?.getD nilG).s + d), .int .i64 ((gs[k]?.getD nilG).e + d)] 69); go_loud (refine wpList_store_mid rfl 69 _ _ rfl g (off + k * 6) #[.int .i64 (gs[k]?.getD nilG).d.a, .int .i64 (gs[k]?.getD nilG).d.b, .int .i64 (gs[k]?.getD nilG).d.r, .int .i64 (gs[k]?.getD nilG).d.c, .int .i64 ((gs[k]?.getD nilG).s + d), .int .i64 ((gs[k]?.getD nilG).e + d)] rfl rfl (HPUT.out _ hal).1 (by kernel_rfl) (by simp [Value.oneCell']) ?_); have o6 := (HPUT.out _ hal).2 ⟨(gs[k]?.getD nilG).d, (gs[k]?.getD nilG).s + d, (gs[k]?.getD nilG).e + d⟩; rw [HSET.out] at o6; have HO6 := Lib.hid o6; have HB6 := Lib.hid (below_put hg1 (groE ⟨(gs[k]?.getD nilG).d, (gs[k]?.getD nilG).s + d, (gs[k]?.getD nilG).e + d⟩) (off + k * 6) (HB3.out.trans (hal.mono HB3.out.size))); have e6 : (#[.int .i64 (gs[k]?.getD nilG).d.a, .int .i64 (gs[k]?.getD nilG).d.b, .int .i64 (gs[k]?.getD nilG).d.r, .int .i64 (gs[k]?.getD nilG).d.c, .int .i64 ((gs[k]?.getD nilG).s + d), .int .i64 ((gs[k]?.getD nilG).e + d)] : Array Value).toList = groE ⟨(gs[k]?.getD nilG).d, (gs[k]?.getD nilG).s + d, (gs[k]?.getD nilG).e + d⟩ := rfl; rw [e6]; generalize (w3.alloc (.cells #[.int .i64 (gs[k]?.getD nilG).d.a, .int .i64 (gs[k]?.getD nilG).d.b, .int .i64 (gs[k]?.getD nilG).d.r, .int .i64 (gs[k]?.getD nilG).d.c, .int .i64 ((gs[k]?.getD nilG).s + d), .int .i64 ((gs[k]?.getD nilG).e + d)] 69)).setCells g (off + k * 6) (groE ⟨(gs[k]?.getD nilG).d, (gs[k]?.getD nilG).s + d, (gs[k]?.getD nilG).e + d⟩) = w6 at *; have p0 := (HB6.out.cell HBL.out).trans P0.out; have p1 := (HB6.out.cell HBL.out).trans P1.out; clear hal o6 e6 HPUT))
  have HB7 := Lib.hid (HB2.out.trans (HB6.out.mono HB2.out.size))
  have HW2 := Lib.hid (show w.heap.size ≤ w2.heap.size from HB2.out.size)
  have HVV := Lib.hid (HV2.out _ (delL gs k d) _ HB7.out HO6.out.rd)
  generalize delL gs k d = gs' at *
  cases hg2k : grsOk n gs'
  all_goals
    rw [hg2k] at HVV HE0
    clear hg2k
    refine HVV.out.mono ?_
    rintro e w8 ⟨rfl, b8⟩
    have HB8 := Lib.hid (HB7.out.trans (b8.mono HB7.out.size))
    have HO8 := Lib.hid (HO6.out.below b8)
    clear b8
    go_wp2
    go_ret2
  · exact HNO.out _ HB8.out HE0.out
  · exact HYE.out _ _ (HO8.out.mono HW2.out) HB8.out HE0.out
end Go.Proofs.Ytphhenlokbodnaa
