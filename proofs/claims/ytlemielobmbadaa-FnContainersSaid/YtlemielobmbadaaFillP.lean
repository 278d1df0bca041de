/- Plain Lean: a block filled at some places; and a copy of a slice. -/
import Derived.Test.YtlemielobmbadaaPivW
namespace Go.Proofs.Ytlemielobmbadaa
open Go.RowKit

/-- A place, as a number. -/
def pl (ps : List Int) (k : Nat) : Nat := (ps[k]?.getD 0).toNat
/-- The first k places set to 0. -/
def zto (xs ps : List Int) : Nat → List Int
  | 0 => xs
  | k + 1 => (zto xs ps k).set (pl ps k) 0
/-- The first k places set to given numbers. -/
def fto (xs ps : List Int) (F : Vec) : Nat → List Int
  | 0 => xs
  | k + 1 => (fto xs ps F k).set (pl ps k) (F k)
theorem zto_len (xs ps : List Int) (k : Nat) : (zto xs ps k).length = xs.length := by induction k with | zero => rfl | succ k ih => simp [zto, ih]
theorem fto_len (xs ps : List Int) (F : Vec) (k : Nat) : (fto xs ps F k).length = xs.length := by induction k with | zero => rfl | succ k ih => simp [fto, ih]
theorem symL_set {xs : List Int} (h : symL xs = true) (i : Nat) {x : Int} (hx : Sym x) : symL (xs.set i x) = true := by
  simp only [symL, List.all_eq_true] at *
  intro y hy
  rcases List.mem_or_eq_of_mem_set hy with hy | rfl
  · exact h y hy
  · exact inB_mk hx.1 hx.2
theorem zto_sym {xs ps : List Int} (h : symL xs = true) (k : Nat) : symL (zto xs ps k) = true := by induction k with | zero => exact h | succ k ih => exact symL_set ih _ Sym.zero
theorem fto_sym {xs ps : List Int} {F : Vec} (h : symL xs = true) (hF : SymV F) (k : Nat) : symL (fto xs ps F k) = true := by induction k with | zero => exact h | succ k ih => exact symL_set ih _ (hF k)
/-- The syndromes as a vector. -/
def synV (xs : List Int) : Vec := fun j => synTo xs j xs.length
theorem synV_sym {xs : List Int} (h : symL xs = true) : SymV (synV xs) := fun j => synTo_bd h j _
theorem syn_get (xs : List Int) {j : Nat} (hj : j < 4) : (syn xs)[j]?.getD 0 = synV xs j := by simp [syn, synV, hj]
/-- What the reference's l24Fill comes to. -/
def fillOk (xs ps : List Int) : Bool := solOk ps (synV (zto xs ps ps.length))
def fillR (xs ps : List Int) : List Int := if fillOk xs ps then fto (zto xs ps ps.length) ps (fin ps (synV (zto xs ps ps.length))) ps.length else zto xs ps ps.length

/-- append of a slice of integers that can be read, to one of the call's own: 'append(out, xs...)'. -/
theorem wpList_cat {P : Program} {ops : Array Oper} {rest : List Oper} {o : Oper} {a : Act} {Q : Exit → Act → World → Prop} {w : World} (hgd : o.guard = none) (s x : Operand) (T : TypeId)
    (ho : o.op = .call { callee := .builtin .append, args := #[s, x], argTypes := #[T, T] }) (ht : P.underlying T = some (.slice 3))
    (hinfo : (P.info? 3).map (fun i => (i.zero, i.size, i.bytes)) = some (some (.int .i64 0), 1, 8))
    (base : Nat) (v : Value) (n : Nat) (xs : List Int) (hs : a.eval s = v) (hown : w.ownsRow base 3 1 v n (ints xs))
    (y : Value) (ys : List Int) (hx : a.eval x = y) (hy : Rd w y ys) (hy0 : 0 < ys.length) (hn : n + ys.length ≤ 1099511627776) (hbase : base ≤ w.heap.size)
    (h : ∀ v' w', w'.ownsRow base 3 1 v' (n + ys.length) (ints (xs ++ ys)) → w.grownBy w' v.ownBlock → wpList P ops Q rest (a.put o.dst v') w') :
    wpList P ops Q (o :: rest) a w := by
  obtain ⟨i0, hi, hz0, hz1, hz2⟩ := info_parts hinfo
  rcases hy with ⟨_, rfl⟩ | ⟨b, off, cap, rfl, h1, h2, h3, h4⟩
  · simp at hy0
  · refine wpList_append_own _ hgd s x T ho base 3 i0 (.int .i64 0) 1 8 ht hi hz0 hz1 hz2 rfl (by decide) v n (ints xs) hs hown ⟨b, off, none⟩ ys.length cap (ints ys) hx (by simp) ?_ (ints_oneCell _ _) (by unfold maxLen; omega) (by omega) hbase ?_
    · intro j u hu
      have hj : j < ys.length := by have := (List.getElem?_eq_some_iff.1 hu).1; simpa using this
      have e : (⟨b, off, none⟩ : Addr).add j = ⟨b, off + j, none⟩ := by unfold Addr.add; split <;> simp_all
      rw [e, h4 j hj, ← hu]
      simp [hj]
    · intro v' w' g1 g2 _
      refine h v' w' ?_ g2
      simpa [ints] using g1

set_option maxHeartbeats 800000 in
theorem l1Own_any (v : Value) (xs : List Int) (w : World) (h : Rd w v xs) (h0 : 0 < xs.length) (hl : xs.length ≤ 1000000) :
    Calls Try.prog 85 #[v] w fun e w' => ∃ v', e = .returned v' ∧ Own w' w.heap.size v' xs ∧ Below w.heap.size w w' := by
  have hrd := h.belowAll (((Below.refl _ _).alloc (Nat.le_refl _) _ : Below w.heap.size w (w.alloc (.cells #[] 3))))
  have hown0 : (w.alloc (.cells #[] 3)).ownsRow w.heap.size 3 1 (.slice (some ⟨w.heap.size, 0, none⟩) 0 0) 0 (ints []) :=
    World.ownsRow_lit (base := w.heap.size) (e := 3) (size := 1) w #[] 0 (Nat.le_refl _) (by simp) rfl
  obtain ⟨a, cap, n, HX, rfl, _⟩ := h.opn
  go_enter Try.func85, Try.ntmps85
  go_wp2_with (at_builtin; refine wpList_cat rfl (.tmp 3) (.tmp 4) 24 rfl Try.underlying24 Try.infoInt w.heap.size (.slice (some ⟨w.heap.size, 0, none⟩) 0 0) 0 [] rfl hown0 _ xs rfl hrd h0 (by omega) (by simp) ?_; intro v' w1 hown1 hgrow1)
  go_ret
  exact ⟨_, rfl, own_of_row hown1, ((Below.refl _ _).alloc (Nat.le_refl _) _).grown hgrow1 (by simp) (fun k hk => by have e : w.heap.size = k := (by simpa [Value.ownBlock] using hk); exact Nat.le_of_eq e)⟩
end Go.Proofs.Ytlemielobmbadaa
