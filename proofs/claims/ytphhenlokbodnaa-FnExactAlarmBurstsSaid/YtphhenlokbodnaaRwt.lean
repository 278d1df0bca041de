/- Data with depth as an argument gives it: an empty slice may lie anywhere. -/
import Derived.Test.YtphhenlokbodnaaDpP
import Derived.Deep.Slices
import Derived.Lib.SmallJoins
namespace Go.Proofs.Ytphhenlokbodnaa
open Go.RowKit

inductive Rwt (w : World) : Dt → Value → Prop
  | leaf (u : Value) : Rwt w (.leaf u) u
  | emp (size : Nat) (a : Option Addr) (cap : Nat) : Rwt w (.rows size []) (.slice a 0 cap)
  | mk {size n b off cap : Nat} {ds : List Dt} {us : List Value} (hl : ds.length = n * size) (hu : us.length = ds.length) (hn : n ≤ cap) (hc : cap ≤ maxLen) (hb : b < w.heap.size)
      (hcell : ∀ (j : Nat) (u : Value), us[j]? = some u → w.cell? ⟨b, off + j, none⟩ = some u) (hd : ∀ (j : Nat) (d : Dt) (u : Value), ds[j]? = some d → us[j]? = some u → Rwt w d u) : Rwt w (.rows size ds) (.slice (some ⟨b, off, none⟩) n cap)
theorem Rdt.weak {w : World} {d : Dt} {v : Value} (h : Rdt w d v) : Rwt w d v := by
  induction h with
  | leaf u => exact .leaf u
  | nil size => exact .emp size none 0
  | mk hl hu hn hc hb hcell hd ih => exact .mk hl hu hn hc hb hcell ih
theorem Rwt.leaf_inv {w : World} {u v : Value} (h : Rwt w (.leaf u) v) : v = u := by cases h; rfl
theorem Rwt.kept {w w' : World} {d : Dt} {v : Value} (h : Rwt w d v) (hs : w.heap.size ≤ w'.heap.size) (hk : ∀ p : Addr, p.block < w.heap.size → w'.cell? p = w.cell? p) : Rwt w' d v := by
  induction h with
  | leaf u => exact .leaf u
  | emp size a cap => exact .emp size a cap
  | mk hl hu hn hc hb hcell hd ih => exact .mk hl hu hn hc (by omega) (fun j u hj => (hk _ hb).trans (hcell j u hj)) (fun j d u h1 h2 => ih j d u h1 h2)
theorem Rwt.behind {w w' : World} {d : Dt} {v : Value} (h : Rwt w d v) (hb : Below w.heap.size w w') : Rwt w' d v := h.kept hb.size (fun _ hp => hb.cell hp)
theorem Rwt.opn {w : World} {size : Nat} {ds : List Dt} {v : Value} (h : Rwt w (.rows size ds) v) : ∃ a n cap, v = .slice a n cap ∧ Hid (ds.length = n * size) ∧ n ≤ 9223372036854775807 ∧
    (0 < n → ∃ b off, a = some ⟨b, off, none⟩ ∧ b < w.heap.size ∧ ∀ (j : Nat) (d : Dt), ds[j]? = some d → ∃ u, w.cell? ⟨b, off + j, none⟩ = some u ∧ Rwt w d u) := by
  cases h with
  | emp size a cap => exact ⟨a, 0, cap, rfl, by simp [Hid], by omega, fun h => by omega⟩
  | @mk size n b off cap ds us hl hu hn hc hb hcell hd =>
    refine ⟨_, n, cap, rfl, hl, by unfold maxLen at hc; omega, fun _ => ⟨b, off, rfl, hb, fun j d hj => ?_⟩⟩
    have hju : j < us.length := by have := (List.getElem?_eq_some_iff.1 hj).1; omega
    exact ⟨us[j], hcell j _ (List.getElem?_eq_getElem hju), hd j _ _ hj (List.getElem?_eq_getElem hju)⟩
/-- A slice of integers, read: what a walk asks. -/
def Rw (w : World) (v : Value) (xs : List Int) : Prop := ∃ a cap n, Hid (xs.length = n) ∧ v = .slice a n cap ∧ n ≤ 9223372036854775807 ∧
    (0 < n → ∃ b off, a = some ⟨b, off, none⟩ ∧ b < w.heap.size ∧ ∀ j, j < n → w.cell? ⟨b, off + j, none⟩ = some (.int .i64 ((xs[j]?.getD 0))))
theorem Rd.weak {w : World} {v : Value} {xs : List Int} (h : Rd w v xs) : Rw w v xs := by
  obtain ⟨a, cap, n, h1, h2, _, h3, h4⟩ := h.opn; exact ⟨a, cap, n, h1, h2, h3, h4⟩
theorem Rwt.ints {w : World} {xs : List Int} {v : Value} (h : Rwt w (inD xs) v) : Rw w v xs := by
  obtain ⟨a, n, cap, hv, hl, hn, hc⟩ := Rwt.opn (show Rwt w (.rows 1 (xs.map fun x => .leaf (.int .i64 x))) v from h)
  have hx : xs.length = n := by have := hl.out; simpa using this
  refine ⟨a, cap, n, hx, hv, hn, fun h0 => ?_⟩
  obtain ⟨b, off, ea, hb, hcc⟩ := hc h0
  refine ⟨b, off, ea, hb, fun j hj => ?_⟩
  have hjx : j < xs.length := by omega
  obtain ⟨u, k1, k2⟩ := hcc j (.leaf (.int .i64 xs[j])) (by simp [hjx])
  rw [k1, k2.leaf_inv, List.getElem?_eq_getElem hjx]; rfl
theorem Rw.behind {w w' : World} {v : Value} {xs : List Int} (h : Rw w v xs) (hb : Below w.heap.size w w') : Rw w' v xs := by
  obtain ⟨a, cap, n, h1, h2, h3, h4⟩ := h
  refine ⟨a, cap, n, h1, h2, h3, fun h0 => ?_⟩
  obtain ⟨b, off, ea, hbb, hc⟩ := h4 h0
  exact ⟨b, off, ea, Nat.lt_of_lt_of_le hbb hb.size, fun j hj => (hb.cell (p := ⟨b, off + j, none⟩) hbb).trans (hc j hj)⟩

/-- What is read at the type t reads as one of the data F a. -/
def Opens {H : Type} (enc : TypeId × Value → H) (P : Program) (w : World) (t : TypeId) {α : Type} (F : α → List Dt) : Prop :=
  ∀ (fuel : Nat) (cs : List Value) (x : DataW H × List MemPlace), DataW.trod enc P w 0 (fun _ => true) true fuel t cs = some x → ∃ a : α, cs.length = (F a).length ∧ ∀ (r : Nat) (d : Dt), (F a)[r]? = some d → ∃ u, cs[r]? = some u ∧ Rwt w d u
section
variable {H : Type} {enc : TypeId × Value → H} {P : Program} {w : World}
theorem opens_int {t : TypeId} (ht : P.underlying t = some (.int .i64)) : Opens enc P w t (fun x : Int => [.leaf (.int .i64 x)]) := fun fuel cs x h => by
  obtain ⟨n, rfl, _, _⟩ := DataW.trod_int ht h
  refine ⟨n, rfl, fun r d hr => ?_⟩
  match r with
  | 0 => simp at hr; subst hr; exact ⟨_, rfl, .leaf _⟩
  | r + 1 => simp at hr
theorem flat_at {α : Type} {F : α → List Dt} {k : Nat} (hF : ∀ a, (F a).length = k) : ∀ (xs : List α) (i r : Nat), r < k → (xs.flatMap F)[i * k + r]? = (xs[i]?).bind fun a => (F a)[r]?
  | [], i, r, _ => by simp
  | a :: xs, 0, r, h => by
    rw [List.flatMap_cons, List.getElem?_append_left (by rw [hF]; omega)]
    simp
  | a :: xs, i + 1, r, h => by
    rw [List.flatMap_cons, List.getElem?_append_right (by rw [hF, Nat.add_mul]; omega), hF, show (i + 1) * k + r - k = i * k + r by rw [Nat.add_mul]; omega, flat_at hF xs i r h]
    simp
theorem flat_length {α : Type} {F : α → List Dt} {k : Nat} (hF : ∀ a, (F a).length = k) (xs : List α) : (xs.flatMap F).length = xs.length * k := by
  induction xs with
  | nil => simp
  | cons a xs ih => rw [List.flatMap_cons, List.length_append, ih, hF, List.length_cons, Nat.add_mul]; omega
theorem opens_slice {t e : TypeId} {α : Type} [Inhabited α] {F : α → List Dt} {k : Nat} (ht : P.underlying t = some (.slice e)) (hc : P.cellsOf e = k) (hk : 0 < k) (hF : ∀ a, (F a).length = k) (he : Opens enc P w e F) :
    Opens enc P w t (fun xs : List α => [.rows k (xs.flatMap F)]) := fun fuel cs x h => by
  rcases Deep.open_slice ht h with ⟨rfl, _⟩ | ⟨a, len, cap, m, n, D, Pl, rfl, _, hl, hm, hmc, _, hx⟩
  · refine ⟨[], rfl, fun r d hr => ?_⟩
    match r with
    | 0 => simp at hr; subst hr; exact ⟨_, rfl, .emp k none 0⟩
    | r + 1 => simp at hr
  · rw [hc] at hx
    have hmc' : m = cap := by simpa using hmc
    by_cases h0 : len = 0
    · subst h0
      refine ⟨[], rfl, fun r d hr => ?_⟩
      match r with
      | 0 => simp at hr; subst hr; exact ⟨_, rfl, .emp k _ cap⟩
      | r + 1 => simp at hr
    · obtain ⟨g, hg⟩ := Deep.choose_lt (α := α) (n := len) (p := fun i y => ∃ cs', w.cells? 0 (a.add (i * k)) k = some cs' ∧ cs'.length = (F y).length ∧ ∀ (r : Nat) (d : Dt), (F y)[r]? = some d → ∃ u, cs'[r]? = some u ∧ Rwt w d u) (fun i hi => by
        obtain ⟨cs', h1, h2⟩ := hx i (by omega)
        obtain ⟨y, k1, k2⟩ := he _ _ _ h2
        exact ⟨y, cs', h1, k1, k2⟩)
      obtain ⟨b, off, spot⟩ := a
      obtain ⟨cs0, q1, q2, q3⟩ := hg 0 (by omega)
      obtain ⟨d0, hd0⟩ : ∃ d, (F (g 0))[0]? = some d := ⟨(F (g 0))[0]'(by rw [hF]; exact hk), List.getElem?_eq_getElem _⟩
      obtain ⟨u0, hu0, _⟩ := q3 0 d0 hd0
      have hc0 := (World.cells?_some q1).2.2 0 hk
      rw [hu0] at hc0
      have hspot : spot = none := by simpa [Addr.add] using World.cell?_spot hc0
      subst hspot
      have hb : b < w.heap.size := by
        have := World.block_lt_of_cell? w _ hc0
        simpa [Addr.add] using this
      have hadd : ∀ j, (⟨b, off, none⟩ : Addr).add j = ⟨b, off + j, none⟩ := fun j => by unfold Addr.add; split <;> simp_all
      have hgl : ∀ j, j < len * k → ∃ u, w.cell? ⟨b, off + j, none⟩ = some u ∧ ∀ d, (((List.range len).map g).flatMap F)[j]? = some d → Rwt w d u := fun j hj => by
        have hjk : j % k < k := Nat.mod_lt _ hk
        have hjl : j / k < len := Nat.div_lt_of_lt_mul (by rw [Nat.mul_comm]; exact hj)
        obtain ⟨cs', r1, r2, r3⟩ := hg (j / k) hjl
        have hcj := (World.cells?_some r1).2.2 (j % k) hjk
        have hlen := (World.cells?_some r1).2.1
        have ej : j / k * k + j % k = j := by rw [Nat.mul_comm]; exact Nat.div_add_mod j k
        rw [hadd, show (⟨b, off + j / k * k, none⟩ : Addr).add (j % k) = ⟨b, off + j, none⟩ from by
          unfold Addr.add; split
          · rename_i h; rw [h, Nat.add_zero] at ej; rw [ej]
          · simp; omega, List.getElem?_eq_getElem (by omega)] at hcj
        refine ⟨_, hcj, fun d hd => ?_⟩
        rw [← ej, flat_at hF _ _ _ hjk] at hd
        simp [hjl] at hd
        obtain ⟨u, s1, s2⟩ := r3 _ _ hd
        rw [List.getElem?_eq_getElem (by omega)] at s1
        cases s1
        exact s2
      obtain ⟨U, hU⟩ := Deep.choose_lt (α := Value) hgl
      refine ⟨(List.range len).map g, rfl, fun r d hr => ?_⟩
      match r with
      | 0 =>
        simp only [List.getElem?_cons_zero, Option.some.injEq] at hr
        subst hr
        have hfl := flat_length hF ((List.range len).map g)
        simp only [List.length_map, List.length_range] at hfl
        refine ⟨_, rfl, .mk (us := (List.range (len * k)).map U) hfl (by simp [hfl]) hl hm hb (fun j u hj => ?_) (fun j d u e1 e2 => ?_)⟩
        · have hjl : j < len * k := by have := (List.getElem?_eq_some_iff.1 hj).1; simpa using this
          simp [hjl] at hj
          rw [← hj]; exact (hU j hjl).1
        · have hjl : j < len * k := by have := (List.getElem?_eq_some_iff.1 e2).1; simpa using this
          simp [hjl] at e2
          rw [← e2]; exact (hU j hjl).2 d e1
      | r + 1 => simp at hr
/-- The value of a parameter that is a slice. -/
theorem opens_val {t e : TypeId} {α : Type} {G : α → Dt} {r : Reach} {b0 : Nat} {v : Value} {d : DataW H} {ps : List MemPlace} (ht : P.underlying t = some (.slice e)) (hval : Value.okWide P w r b0 t v) (ho : Opens enc P w t (fun a => [G a])) (h : DataW.Trod enc P w 0 (fun _ => true) true t v d ps) : ∃ a : α, Rwt w (G a) v := by
  obtain ⟨a, len, cap, rfl⟩ := WideShapes.okWide_slice ht hval
  obtain ⟨m, hm⟩ := h
  obtain ⟨x, _, hx⟩ := ho _ _ _ hm
  obtain ⟨u, h1, h2⟩ := hx 0 _ rfl
  simp [Value.cells] at h1
  subst h1
  exact ⟨x, h2⟩
end
theorem flat_single {α : Type} (G : α → Dt) (xs : List α) : xs.flatMap (fun x => [G x]) = xs.map G := by
  induction xs with
  | nil => rfl
  | cons x xs ih => rw [List.flatMap_cons, ih]; rfl
section
variable {H : Type} {enc : TypeId × Value → H} {P : Program} {w : World}
theorem opens_inD {t e : TypeId} (ht : P.underlying t = some (.slice e)) (hc : P.cellsOf e = 1) (he : P.underlying e = some (.int .i64)) : Opens enc P w t (fun xs : List Int => [inD xs]) := by
  have h := opens_slice (enc := enc) (w := w) (F := fun x : Int => [Dt.leaf (.int .i64 x)]) ht hc (by decide) (fun _ => rfl) (opens_int he)
  have e : (fun xs : List Int => [Dt.rows 1 (xs.flatMap fun x => [Dt.leaf (.int .i64 x)])]) = fun xs => [inD xs] := by funext xs; rw [flat_single]; rfl
  rwa [e] at h
end
end Go.Proofs.Ytphhenlokbodnaa
