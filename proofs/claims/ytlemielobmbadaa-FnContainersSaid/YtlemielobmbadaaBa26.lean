/- Joined: XRdcR XCgpP XCtnW. -/
import Derived.Test.YtlemielobmbadaaBa25
import Derived.Test.YtlemielobmbadaaFillP
import Derived.Test.YtlemielobmbadaaBa24
import Derived.StillTailTactics
namespace Go.Proofs.Ytlemielobmbadaa
open Go.RowKit
set_option maxRecDepth 100000

def tot' (xss : List (List Int)) : Nat := (xss.map List.length).sum
def allR (fs : List Frm) : List Int := (fs.map fun f => f.l).flatten
theorem allR_step {fs : List Frm} {k : Nat} (h : k < fs.length) : allR (fs.take (k + 1)) = allR (fs.take k) ++ (fs[k]?.getD nilF).l := by
  rw [allR, allR, List.take_add_one, List.map_append, List.flatten_append, List.getElem?_eq_getElem h]; simp
theorem allR_len {fs : List Frm} (h : fs.all frmOk = true) : (allR fs).length = 12 * fs.length := by
  induction fs with
  | nil => rfl
  | cons f fs ih =>
    simp only [List.all_cons, Bool.and_eq_true] at h
    have := ih h.2
    have h12 := (frmOk_parts h.1).2.2.1
    simp only [allR, List.map_cons, List.flatten_cons, List.length_append, List.length_cons] at this ⊢
    omega
def ptr (fs : List Frm) (i : Nat) : Nat := (fs[i]?.getD nilF).p.toNat
theorem ptr_eq {fs : List Frm} (h : fs.all frmOk = true) {i : Nat} (hi : i < fs.length) : (fs[i]?.getD nilF).p = (ptr fs i : Int) ∧ ptr fs i ≤ 11 := by
  have := inB_true (frmOk_parts (frs_get h i hi)).2.1
  unfold ptr; omega
def fromI (fs : List Frm) (i : Nat) : Nat := 12 * i + ptr fs i
def toI (fs : List Frm) (i : Nat) : Nat := if i + 1 < fs.length then min (fromI fs i + 12) (fromI fs (i + 1)) else fromI fs i + 12
def rdTo (fs : List Frm) (k : Nat) : List (List Int) := (List.range k).flatMap fun i => if toI fs i ≤ 12 * fs.length then [sub (allR fs) (fromI fs i) (toI fs i - fromI fs i)] else []
theorem rdTo_step (fs : List Frm) (k : Nat) : rdTo fs (k + 1) = rdTo fs k ++ (if toI fs k ≤ 12 * fs.length then [sub (allR fs) (fromI fs k) (toI fs k - fromI fs k)] else []) := by
  rw [rdTo, rdTo, List.range_succ, List.flatMap_append]; simp
theorem toI_bd {fs : List Frm} (h : fs.all frmOk = true) {i : Nat} (hi : i < fs.length) : fromI fs i < toI fs i ∧ toI fs i ≤ fromI fs i + 12 := by
  have h1 := (ptr_eq h hi).2
  unfold toI
  split
  · have h2 := (ptr_eq h (show i + 1 < fs.length from by assumption)).2
    unfold fromI; omega
  · omega
theorem rdTo_len (fs : List Frm) (k : Nat) : (rdTo fs k).length ≤ k := by
  induction k with
  | zero => simp [rdTo]
  | succ k ih =>
    rw [rdTo_step, List.length_append]
    split <;> simp <;> omega
def rdR (fs : List Frm) : List (List Int) := if frsOk fs then rdTo fs fs.length else []
theorem frsOk_parts {fs : List Frm} (h : frsOk fs = true) : fs.length ≤ 12 ∧ fs.all frmOk = true := by
  simpa [frsOk] using h
theorem tot_append (a b : List (List Int)) : tot' (a ++ b) = tot' a + tot' b := by simp [tot']
theorem rdR_tot (fs : List Frm) : tot' (rdR fs) ≤ 1048576 := by
  unfold rdR
  split
  · rename_i h
    obtain ⟨h1, h2⟩ := frsOk_parts h
    have : ∀ k, k ≤ fs.length → tot' (rdTo fs k) ≤ 12 * k := by
      intro k
      induction k with
      | zero => intro _; simp [rdTo, tot']
      | succ k ih =>
        intro hk
        have := ih (by omega)
        rw [rdTo_step, tot_append]
        split
        · have hb := toI_bd h2 (show k < fs.length by omega)
          have : (sub (allR fs) (fromI fs k) (toI fs k - fromI fs k)).length ≤ 12 := by simp [sub]; omega
          have e1 : ∀ l : List Int, tot' [l] = l.length := fun l => by simp [tot']
          rw [e1]; omega
        · have e0 : tot' [] = 0 := rfl
          rw [e0]; omega
    have := this fs.length (Nat.le_refl _)
    omega
  · simp [tot']
def RdcP (w : World) (fs : List Frm) (e : Ending) (w' : World) : Prop := ∃ v, e = .returned (.tuple #[v, .bool (frsOk fs)]) ∧ Ofr w' w.heap.size (ssD (rdR fs)) v ∧ Below w.heap.size w w'
theorem RdcP.no {w w' : World} {fs : List Frm} {v : Value} (h : frsOk fs = false) (ho : Ofr w' w.heap.size (.rows 1 []) v) (hb : Below w.heap.size w w') : RdcP w fs (.returned (.tuple #[v, .bool false])) w' :=
  ⟨v, by rw [h], by rw [show rdR fs = [] by unfold rdR; rw [h]; rfl]; exact ho, hb⟩
theorem RdcP.yes {w w' : World} {fs : List Frm} {v : Value} {n : Nat} (h : frsOk fs = true) (hn : fs.length = n) (ho : Ofr w' w.heap.size (ssD (rdTo fs n)) v) (hb : Below w.heap.size w w') : RdcP w fs (.returned (.tuple #[v, .bool true])) w' :=
  ⟨v, by rw [h], by rw [show rdR fs = rdTo fs n by unfold rdR; rw [if_pos h, hn]]; exact ho, hb⟩
theorem Grw.lit {w : World} {base g size : Nat} {T : TypeId} (h : w.heap[g]? = some (.cells #[] T (0, 0))) (hb : base ≤ g) : Grw w base T size (.slice (some ⟨g, 0, none⟩) 0 0) 0 [] :=
  ⟨[], [], ⟨by simp, .inr ⟨g, 0, #[], rfl, hb, h, Nat.le_refl _, Nat.zero_le _, by simp, by simp⟩⟩, rfl, rfl, (fun j d u f h => by simp at h), List.nodup_nil, (fun k hk => by simp at hk), (fun g _ hk => by simp at hk)⟩
theorem wpList_catL {P : Program} {ops : Array Oper} {rest : List Oper} {o : Oper} {a : Act} {Q : Exit → Act → World → Prop} {w : World} (hgd : o.guard = none) (s x : Operand) (T : TypeId)
    (ho : o.op = .call { callee := .builtin .append, args := #[s, x], argTypes := #[T, T] }) (ht : P.underlying T = some (.slice 3))
    (hinfo : (P.info? 3).map (fun i => (i.zero, i.size, i.bytes)) = some (some (.int .i64 0), 1, 8))
    (base : Nat) (v : Value) (n : Nat) (xs : List Int) (hs : a.eval s = v) (hown : w.ownsRow base 3 1 v n (ints xs))
    (y : Value) (ys : List Int) (hx : a.eval x = y) (hy : Rd w y ys) (hy0 : 0 < ys.length) (hn : n + ys.length ≤ 1099511627776) (hbase : base ≤ w.heap.size)
    (h : ∀ v' w', w'.ownsRow base 3 1 v' (n + ys.length) (ints (xs ++ ys)) → w.grownBy w' v.ownBlock → (∀ g, v'.ownBlock = some g → v.ownBlock = some g ∨ w.heap.size ≤ g) → wpList P ops Q rest (a.put o.dst v') w') :
    wpList P ops Q (o :: rest) a w := by
  obtain ⟨i0, hi, hz0, hz1, hz2⟩ := info_parts hinfo
  rcases hy with ⟨_, rfl⟩ | ⟨b, off, cap, rfl, h1, h2, h3, h4⟩
  · simp at hy0
  · refine wpList_append_lies _ hgd s x T ho base 3 i0 (.int .i64 0) 1 8 ht hi hz0 hz1 hz2 rfl (by decide) v n (ints xs) hs hown ⟨b, off, none⟩ ys.length cap (ints ys) hx (by simp) ?_ (ints_oneCell _ _) hy0 (by unfold maxLen; omega) (by omega) hbase _ rfl ?_
    · intro j u hu
      have hj : j < ys.length := by have := (List.getElem?_eq_some_iff.1 hu).1; simpa using this
      have e : (⟨b, off, none⟩ : Addr).add j = ⟨b, off + j, none⟩ := by unfold Addr.add; split <;> simp_all
      rw [e, h4 j hj, ← hu]
      simp [hj]
    · intro g cap' w' g1 g2 g3 _
      refine h _ w' (by simpa [ints] using g1) g2 (fun g' hg' => ?_)
      have : g = g' := by simpa [Value.ownBlock] using hg'
      subst this
      rcases g3 with e | e
      · exact .inl e
      · exact .inr (by rw [e]; exact Nat.le_refl _)
end Go.Proofs.Ytlemielobmbadaa
namespace Go.Proofs.Ytlemielobmbadaa
open Go.RowKit

theorem flatC_len {xss : List (List Int)} (h : xss.all conOk = true) : xss.flatten.length = 12 * xss.length := by
  have := allW_len 0 h
  simpa [allW] using this
theorem flatC_sub {xss : List (List Int)} (h : xss.all conOk = true) (pad : List Int) {k : Nat} (hk : k < xss.length) : sub (xss.flatten ++ pad) (12 * k) 12 = xss[k]?.getD [] := by
  induction xss generalizing k with
  | nil => simp at hk
  | cons xs xss ih =>
    simp only [List.all_cons, Bool.and_eq_true] at h
    have h12 := (conOk_parts h.1).1
    rcases k with _ | k
    · simp only [sub, List.flatten_cons, List.append_assoc, Nat.mul_zero, List.drop_zero, List.getElem?_cons_zero, Option.getD_some]
      rw [List.take_append_of_le_length (by omega), List.take_of_length_le (by omega)]
    · have := ih h.2 (k := k) (by simpa using hk)
      rw [List.getElem?_cons_succ, ← this]
      simp only [sub, List.flatten_cons, List.append_assoc]
      rw [show 12 * (k + 1) = xs.length + 12 * k by omega, List.drop_append, List.drop_of_length_le (by omega), List.nil_append]
      congr 2
      omega
theorem flatC_bytes {xss : List (List Int)} (h : xss.all conOk = true) : bytL xss.flatten = true := by
  induction xss with
  | nil => rfl
  | cons xs xss ih =>
    simp only [List.all_cons, Bool.and_eq_true] at h
    have h1 := (conOk_parts h.1).2
    have h2 := ih h.2
    unfold bytL at *
    rw [List.flatten_cons, List.all_append, h1, h2]; rfl
theorem bytL_zeros (n : Nat) : bytL (List.replicate n 0) = true := by
  unfold bytL
  rw [List.all_eq_true]
  intro x hx
  have := List.eq_of_mem_replicate hx
  subst this
  exact inB_of (by omega)
theorem bytL_both {a b : List Int} (h1 : bytL a = true) (h2 : bytL b = true) : bytL (a ++ b) = true := by
  unfold bytL at *; rw [List.all_append, h1, h2]; rfl
theorem bytL_subs {a : List Int} (h : bytL a = true) (i s : Nat) : bytL (sub a i s) = true := by
  unfold bytL at *
  rw [List.all_eq_true] at *
  exact fun x hx => h x (List.mem_of_mem_drop (List.mem_of_mem_take hx))
/-- The bytes that are written, in parts. -/
theorem wrtP_form {xss : List (List Int)} {p : Nat} (h : xss.all conOk = true) (hp : p ≤ 11) : ∃ (M : Nat) (pad : List Int), wrtP xss (p : Int) = List.replicate p 0 ++ (xss.flatten ++ pad) ∧ (wrtP xss (p : Int)).length = 12 * M ∧ bytL (wrtP xss (p : Int)) = true ∧ (p = 0 ∧ M = xss.length ∨ 0 < p ∧ M = xss.length + 1) := by
  have hl := allW_len p h
  have hm := padN_mod (p + 12 * xss.length)
  have hP : wrtP xss (p : Int) = List.replicate p 0 ++ (xss.flatten ++ List.replicate (padN (p + 12 * xss.length)) 0) := by
    unfold wrtP padW
    rw [Int.toNat_natCast, hl]
    simp [allW]
  have hlen : (wrtP xss (p : Int)).length = p + 12 * xss.length + padN (p + 12 * xss.length) := by
    rw [hP]; simp only [List.length_append, List.length_replicate, flatC_len h]; omega
  refine ⟨(p + 12 * xss.length + padN (p + 12 * xss.length)) / 12, _, hP, by rw [hlen]; omega, ?_, ?_⟩
  · rw [hP]
    exact bytL_both (bytL_zeros _) (bytL_both (flatC_bytes h) (bytL_zeros _))
  · unfold padN at *
    by_cases h0 : p = 0
    · exact .inl ⟨h0, by omega⟩
    · exact .inr ⟨by omega, by omega⟩
theorem wrtTo_get (P : List Int) (p : Int) {M k : Nat} (h : k < M) : (wrtTo P p M)[k]?.getD nilF = ⟨(k : Int), p, sub P (12 * k) 12⟩ := by simp [wrtTo, h]
theorem allR_wrt {P : List Int} (p : Int) {M : Nat} (h : P.length = 12 * M) : ∀ k, k ≤ M → allR (wrtTo P p k) = P.take (12 * k) := by
  intro k
  induction k with
  | zero => intro _; simp [wrtTo, allR]
  | succ k ih =>
    intro hk
    have := ih (by omega)
    rw [wrtTo_step, allR, List.map_append, List.flatten_append]
    show allR (wrtTo P p k) ++ _ = _
    rw [this, show 12 * (k + 1) = 12 * k + 12 by omega, List.take_add]
    simp [sub]
theorem rd_wrt {xss : List (List Int)} {P pad : List Int} {p M : Nat} (h : xss.all conOk = true) (hp : p ≤ 11) (hP : P = List.replicate p 0 ++ (xss.flatten ++ pad)) (hl : P.length = 12 * M) (hM : p = 0 ∧ M = xss.length ∨ 0 < p ∧ M = xss.length + 1) :
    ∀ k, k ≤ M → rdTo (wrtTo P (p : Int) M) k = xss.take k := by
  have hlen := wrtTo_len P (p : Int) M
  have hall : allR (wrtTo P (p : Int) M) = P := by rw [allR_wrt (p : Int) hl M (Nat.le_refl _), ← hl, List.take_length]
  have hpt : ∀ i, i < M → ptr (wrtTo P (p : Int) M) i = p := fun i hi => by unfold ptr; rw [wrtTo_get P _ hi]; simp
  intro k
  induction k with
  | zero => intro _; rfl
  | succ k ih =>
    intro hk
    have hk0 := ih (by omega)
    have hf : fromI (wrtTo P (p : Int) M) k = 12 * k + p := by unfold fromI; rw [hpt k (by omega)]
    have ht : toI (wrtTo P (p : Int) M) k = 12 * k + p + 12 := by
      unfold toI
      rw [hlen, hf]
      by_cases e : k + 1 < M
      · rw [if_pos e]
        unfold fromI
        rw [hpt (k + 1) e]; omega
      · rw [if_neg e]
    rw [rdTo_step, hk0, ht, hf, hall, hlen]
    by_cases hkx : k < xss.length
    · have hs : sub P (12 * k + p) 12 = xss[k]?.getD [] := by
        rw [← flatC_sub h pad hkx, hP]
        unfold sub
        rw [show 12 * k + p = (List.replicate p (0 : Int)).length + 12 * k by simp; omega, List.drop_append, List.drop_of_length_le (by omega), List.nil_append]
        congr 2
        omega
      rw [if_pos (by omega), show 12 * k + p + 12 - (12 * k + p) = 12 by omega, hs, List.take_add_one, List.getElem?_eq_getElem hkx]
      simp
    · rw [if_neg (by omega), List.append_nil, List.take_of_length_le (by omega), List.take_of_length_le (by omega)]
/-- The frames are frames, numbered from 0, and hold what was written. -/
theorem wrt_back {xss : List (List Int)} {p : Int} (h : wrtOk xss p = true) : frsOk (wrtR xss p) = true ∧ rdR (wrtR xss p) = xss ∧ ∀ k, k < (wrtR xss p).length → ((wrtR xss p)[k]?.getD nilF).c = (k : Int) := by
  obtain ⟨⟨h1, h2⟩, ⟨h3, h4⟩, h5⟩ := wrtOk_parts h
  obtain ⟨p, rfl⟩ := Int.eq_ofNat_of_zero_le h3
  have hp : p ≤ 11 := by omega
  obtain ⟨M, pad, hP, hl, hb, hM⟩ := wrtP_form h5 hp
  have e := wrtR_yes h rfl hl
  generalize wrtP xss (p : Int) = P at *
  rw [e]
  have hlen := wrtTo_len P (p : Int) M
  have hok : frsOk (wrtTo P (p : Int) M) = true := by
    unfold frsOk
    rw [hlen, decide_eq_true (show M ≤ 12 by omega), Bool.true_and, List.all_eq_true]
    intro f hf
    obtain ⟨k, hk, rfl⟩ := List.mem_iff_getElem.1 hf
    rw [hlen] at hk
    have := wrtTo_get P (p : Int) hk
    rw [List.getElem?_eq_getElem (by omega), Option.getD_some] at this
    rw [this]
    have hs := bytL_subs hb (12 * k) 12
    have hsl : (sub P (12 * k) 12).length = 12 := sub_len (by omega)
    simp [frmOk, hs, hsl, inB_of (x := (k : Int)) (lo := 0) (hi := 255) (by omega), inB_of (x := (p : Int)) (lo := 0) (hi := 11) (by omega)]
  refine ⟨hok, ?_, fun k hk => ?_⟩
  · unfold rdR
    rw [if_pos hok, hlen, rd_wrt h5 hp hP hl hM M (Nat.le_refl _), List.take_of_length_le (by omega)]
  · rw [hlen] at hk
    rw [wrtTo_get P (p : Int) hk]
end Go.Proofs.Ytlemielobmbadaa
namespace Go.Proofs.Ytlemielobmbadaa
open Go.RowKit
set_option maxRecDepth 100000

theorem eqIntS_same (va vb : Value) (xs : List Int) (w : World) (ha : Rd w va xs) (hb : Rd w vb xs) :
    Calls Try.prog 90 #[va, vb] w fun e w' => e = .returned (.bool true) ∧ Below w.heap.size w w' := by
  refine (eqIntS_any va vb xs xs w ha hb).mono ?_
  rintro e w' ⟨rfl, n, rfl⟩
  rw [eqL_refl]
  exact ⟨rfl, ⟨rfl, rfl, rfl, Nat.le_refl _, fun _ _ => rfl⟩⟩
set_option maxHeartbeats 1600000 in
theorem eqIntSS_same (va vb : Value) (xss : List (List Int)) (w : World) (ha : Rdt w (ssD xss) va) (hb : Rdt w (ssD xss) vb) :
    Calls Try.prog 33 #[va, vb] w fun e w' => e = .returned (.bool true) ∧ Below w.heap.size w w' := by
  obtain ⟨a, n, ca, rfl, HN, _, hn, HA⟩ := ssD_opn ha
  obtain ⟨b, m, cb, rfl, HM, _, _, HBB⟩ := ssD_opn hb
  obtain rfl : n = m := HN.out.symm.trans HM.out
  have HA := Lib.hid HA
  have HBB := Lib.hid HBB
  clear HM ha hb
  have hne : ((n : Int) != (n : Int)) = false := by simp
  go_enter Try.func33, Try.ntmps33
  go_wp2
  go_loopw [5] (fun i wr => ∃ k : Nat, k ≤ n ∧ i = .int .i64 k ∧ Hid (Below w.heap.size w wr)) (fun i _ => n - (intOf i).toNat)
  case atStart => exact ⟨0, by omega, rfl, Below.refl _ _⟩
  case round =>
    obtain ⟨k, hk, rfl, HB⟩ := hrel
    by_cases hlt : k < n
    · obtain ⟨g1, o1, rfl, hg1, hc1⟩ := HA.out (by omega)
      obtain ⟨g2, o2, rfl, hg2, hc2⟩ := HBB.out (by omega)
      have hltI : (k : Int) < (n : Int) := by omega
      obtain ⟨u1, p1, q1⟩ := hc1 k hlt
      obtain ⟨u2, p2, q2⟩ := hc2 k hlt
      have d1 := (HB.out.cell (p := ⟨g1, o1 + k, none⟩) hg1).trans p1
      have d2 := (HB.out.cell (p := ⟨g2, o2 + k, none⟩) hg2).trans p2
      have hB1 := HB.out.drew
      have HQ := Lib.hid (eqIntS_same u1 u2 _ wr.drew (q1.belowAll hB1) (q2.belowAll hB1))
      have hz := hB1.size
      clear hc1 hc2 p1 p2 q1 q2
      go_wp2
      go_still_tail 8, (by kernel_rfl)
      go_wp2_with fail
      refine HQ.out.mono ?_
      rintro e w2 ⟨rfl, b2⟩
      have hB2 := Lib.hid (hB1.trans (b2.mono hz))
      go_wp2
      go_roundw
      case rel => exact ⟨k + 1, by omega, by go_num, hB2⟩
      case measure => simp [intOf]; omega
    · obtain rfl : k = n := by omega
      go_wp2
      go_ret
      exact ⟨rfl, HB.out⟩
theorem eqFrame_same (va vb : Value) (f : Frm) (w : World) (ha : RdF w va f) (hb : RdF w vb f) :
    Calls Try.prog 89 #[va, vb] w fun e w' => e = .returned (.bool true) ∧ Below w.heap.size w w' := by
  obtain ⟨u1, rfl, r1⟩ := ha
  obtain ⟨u2, rfl, r2⟩ := hb
  obtain ⟨a1, c1, n1, -, rfl, -⟩ := r1.opn
  obtain ⟨a2, c2, n2, -, rfl, -⟩ := r2.opn
  have hb1 := (Below.refl w.heap.size w).alloc (Nat.le_refl _) (.cells #[.int .i64 f.c, .int .i64 f.p, .slice a1 n1 c1] 50)
  have hb2 := hb1.alloc hb1.size (.cells #[.int .i64 f.c, .int .i64 f.p, .slice a2 n2 c2] 50)
  have HQ := Lib.hid (eqIntS_same _ _ _ _ (r1.belowAll hb2) (r2.belowAll hb2))
  have HB := Lib.hid hb2
  have hcc : (f.c != f.c) = false := by simp
  have hpp : (f.p != f.p) = false := by simp
  clear hb1 hb2 r1 r2
  go_enter Try.func89, Try.ntmps89
  go_wp2_with fail
  refine HQ.out.mono ?_
  rintro e w2 ⟨rfl, b2⟩
  have hB2 := Lib.hid (HB.out.trans (b2.mono HB.out.size))
  go_wp2
  go_ret
  exact ⟨rfl, hB2.out⟩
set_option maxHeartbeats 1600000 in
theorem eqFrameS_same (va vb : Value) (fs : List Frm) (w : World) (ha : Rdt w (frD fs) va) (hb : Rdt w (frD fs) vb) :
    Calls Try.prog 32 #[va, vb] w fun e w' => e = .returned (.bool true) ∧ Below w.heap.size w w' := by
  obtain ⟨a, n, ca, rfl, HN, _, hn, HA⟩ := frD_opn ha
  obtain ⟨b, m, cb, rfl, HM, _, _, HBB⟩ := frD_opn hb
  obtain rfl : n = m := HN.out.symm.trans HM.out
  have HA := Lib.hid HA
  have HBB := Lib.hid HBB
  clear HM ha hb
  have hne : ((n : Int) != (n : Int)) = false := by simp
  go_enter Try.func32, Try.ntmps32
  go_wp2
  go_loopw [5] (fun i wr => ∃ k : Nat, k ≤ n ∧ i = .int .i64 k ∧ Hid (Below w.heap.size w wr)) (fun i _ => n - (intOf i).toNat)
  case atStart => exact ⟨0, by omega, rfl, Below.refl _ _⟩
  case round =>
    obtain ⟨k, hk, rfl, HB⟩ := hrel
    by_cases hlt : k < n
    · obtain ⟨g1, o1, rfl, hg1, hc1⟩ := HA.out (by omega)
      obtain ⟨g2, o2, rfl, hg2, hc2⟩ := HBB.out (by omega)
      have hltI : (k : Int) < (n : Int) := by omega
      obtain ⟨u1, p1, p2, p3, q1⟩ := hc1 k hlt
      obtain ⟨u2, p4, p5, p6, q2⟩ := hc2 k hlt
      generalize fs[k]?.getD nilF = f at *
      have d1 := (HB.out.cell (p := ⟨g1, o1 + k * 3, none⟩) hg1).trans p1
      have d2 := (HB.out.cell (p := ⟨g1, o1 + k * 3 + 1, none⟩) hg1).trans p2
      have d3 := (HB.out.cell (p := ⟨g1, o1 + k * 3 + 2, none⟩) hg1).trans p3
      have d4 := (HB.out.cell (p := ⟨g2, o2 + k * 3, none⟩) hg2).trans p4
      have d5 := (HB.out.cell (p := ⟨g2, o2 + k * 3 + 1, none⟩) hg2).trans p5
      have d6 := (HB.out.cell (p := ⟨g2, o2 + k * 3 + 2, none⟩) hg2).trans p6
      have hB1 := HB.out.drew
      have HQ := Lib.hid (eqFrame_same (.agg #[.int .i64 f.c, .int .i64 f.p, u1]) (.agg #[.int .i64 f.c, .int .i64 f.p, u2]) f wr.drew ⟨_, rfl, q1.belowAll hB1⟩ ⟨_, rfl, q2.belowAll hB1⟩)
      have hz := hB1.size
      clear hc1 hc2 p1 p2 p3 p4 p5 p6 q1 q2
      go_wp2
      go_still_tail 8, (by kernel_rfl)
      go_wp2_with fail
      refine HQ.out.mono ?_
      rintro e w2 ⟨rfl, b2⟩
      have hB2 := Lib.hid (hB1.trans (b2.mono hz))
      go_wp2
      go_roundw
      case rel => exact ⟨k + 1, by omega, by go_num, hB2⟩
      case measure => simp [intOf]; omega
    · obtain rfl : k = n := by omega
      go_wp2
      go_ret
      exact ⟨rfl, HB.out⟩
end Go.Proofs.Ytlemielobmbadaa
