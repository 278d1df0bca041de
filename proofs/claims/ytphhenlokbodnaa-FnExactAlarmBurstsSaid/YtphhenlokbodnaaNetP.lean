/- Plain Lean: networks; small lemmas for regions whose callees make memory. -/
import Derived.Test.YtphhenlokbodnaaCpf
import Derived.Lib.QuietBelow
namespace Go.Proofs.Ytphhenlokbodnaa
open Go.RowKit Go.Sort

/-! ### Boxes, regions -/
theorem box_facts (w : World) (us : Array Value) (T : TypeId) : Below w.heap.size w (w.alloc (.cells us T)) ∧ (∀ j u, us[j]? = some u → (w.alloc (.cells us T)).cell? ⟨w.heap.size, j, none⟩ = some u) ∧ w.heap.size < (w.alloc (.cells us T)).heap.size ∧ (∀ j, (w.alloc (.cells us T)).frozen? ⟨w.heap.size, j, none⟩ = false) :=
  ⟨(Below.refl w.heap.size w).alloc (Nat.le_refl _) _, fun j u h => blkc (heap_alloc_new w (.cells us T)) h, by simp, fun j => frozen_of_row _ _ _ _ _ (heap_alloc_new w (.cells us T))⟩
theorem bcell {W w1 : World} (hb : Below W.heap.size W w1) : (∀ b o, b < W.heap.size → w1.cell? ⟨b, o, none⟩ = W.cell? ⟨b, o, none⟩) ∧ (∀ b o, b < W.heap.size → w1.frozen? ⟨b, o, none⟩ = W.frozen? ⟨b, o, none⟩) :=
  ⟨fun b o h => hb.cell (p := ⟨b, o, none⟩) h, fun b o h => hb.frozen (p := ⟨b, o, none⟩) h⟩
theorem rg {w : World} {a : Addr} {v : Value} (h : w.cell? a = some v) : ∀ d os, (grow (redrawn w d) os).cell? a = some v := fun d os => cell_regrown h d os
theorem rg_same {P : Program} {f : FuncId} {args : Array Value} {w : World} {d : Nat} {os : Array Obj} {v : Value}
    (h : Calls P f args (grow (redrawn w d) os) fun e w' => e = .returned v ∧ grow (redrawn w d) os = w') : Calls P f args (grow (redrawn w d) os) fun e w'' => e = .returned v ∧ ∃ p : Regrown, w'' = grow (redrawn w p.d) p.os :=
  h.mono fun _ _ ⟨he, hb⟩ => ⟨he, ⟨⟨d, os⟩, hb.symm⟩⟩
theorem rg_dr {P : Program} {f : FuncId} {args : Array Value} {w : World} {d : Nat} {os : Array Obj} {v : Value}
    (h : Calls P f args (grow (redrawn w d) os) fun e w' => e = .returned v ∧ Dr (grow (redrawn w d) os) w') : Calls P f args (grow (redrawn w d) os) fun e w'' => e = .returned v ∧ ∃ p : Regrown, w'' = grow (redrawn w p.d) p.os :=
  Calls.regrown_of (h.mono fun _ _ ⟨he, hb⟩ => ⟨he, hb.below (Below.refl _ _)⟩)
theorem Rdt.rg {w : World} {dt : Dt} {v : Value} (h : Rdt w dt v) (d : Nat) (os : Array Obj) : Rdt (grow (redrawn w d) os) dt v := h.behind (below_regrown w d os)

/-! ### Ranges -/
theorem rng_no {m i : Nat} {P : Nat → Bool} (hi : i < m) (h : P i = false) : (List.range m).all P = false := by
  rw [List.all_eq_false]; exact ⟨i, List.mem_range.2 hi, by simp [h]⟩
theorem rng_yes {m : Nat} {P : Nat → Bool} (h : ∀ i, i < m → P i = true) : (List.range m).all P = true := by
  rw [List.all_eq_true]; exact fun i hi => h i (List.mem_range.1 hi)
theorem upto_succ {k : Nat} {P : Nat → Bool} (h : ∀ i, i < k → P i = true) (hk : P k = true) : ∀ i, i < k + 1 → P i = true := fun i hi => by
  by_cases e : i = k
  · rw [e]; exact hk
  · exact h i (by omega)

/-! ### Networks -/
structure Net where
  ns : List ByteArray
  fs : List Fib
abbrev nmA (n : Net) (i : Nat) : ByteArray := n.ns[i]?.getD nilS
abbrev fbA (n : Net) (i : Nat) : Fib := n.fs[i]?.getD nilB
def nmOk (n : Net) (i : Nat) : Bool := nameOk (nmA n i) && decide (plc n.ns (nmA n i) = (i : Int))
def fbOk (n : Net) (i : Nat) : Bool := fibOk (fbA n i) n.ns.length && !(decide (0 < i) && fibGt (fbA n (i - 1)) (fbA n i))
def netOk (n : Net) : Bool := decide (2 ≤ n.ns.length ∧ n.ns.length ≤ 8 ∧ n.fs.length ≤ 14) && ((List.range n.ns.length).all (nmOk n) && (List.range n.fs.length).all (fbOk n))
theorem netOk_nm {n : Net} {i : Nat} (hi : i < n.ns.length) (h : nmOk n i = false) : netOk n = false := by
  unfold netOk; rw [rng_no hi h]; simp
theorem netOk_fb {n : Net} {i : Nat} (hi : i < n.fs.length) (h : fbOk n i = false) : netOk n = false := by
  unfold netOk; rw [rng_no hi h]; simp
theorem netOk_sz {n : Net} (h : ¬ (2 ≤ n.ns.length ∧ n.ns.length ≤ 8 ∧ n.fs.length ≤ 14)) : netOk n = false := by
  unfold netOk; rw [decide_eq_false h]; simp
theorem netOk_all {n : Net} (h1 : ∀ i, i < n.ns.length → nmOk n i = true) (h2 : ∀ i, i < n.fs.length → fbOk n i = true) : netOk n = decide (2 ≤ n.ns.length ∧ n.ns.length ≤ 8 ∧ n.fs.length ≤ 14) := by
  unfold netOk; rw [rng_yes h1, rng_yes h2]; simp
theorem netOk_yes {n : Net} (h : netOk n = true) : 2 ≤ n.ns.length ∧ n.ns.length ≤ 8 ∧ n.fs.length ≤ 14 ∧ (∀ i, i < n.ns.length → nmOk n i = true) ∧ (∀ i, i < n.fs.length → fbOk n i = true) := by
  unfold netOk at h
  simp only [Bool.and_eq_true, decide_eq_true_eq, List.all_eq_true] at h
  obtain ⟨⟨a, b, c⟩, d, e⟩ := h
  exact ⟨a, b, c, fun i hi => d i (List.mem_range.2 hi), fun i hi => e i (List.mem_range.2 hi)⟩
theorem fibOk_parts {f : Fib} {m : Nat} (h : fibOk f m = true) : 0 ≤ f.a ∧ f.a < f.b ∧ f.b < m ∧ 1 ≤ f.l ∧ f.l ≤ 5000 ∧ 0 ≤ f.r ∧ f.r ≤ 9 := by
  unfold fibOk at h
  simp only [Bool.and_eq_true] at h
  obtain ⟨⟨⟨h1, h2⟩, h3⟩, h4⟩ := h
  have := inB_true h1; have := inB_true h2; have := inB_true h3; have := inB_true h4
  omega
theorem fibOk_small {f : Fib} {m : Nat} (h : fibOk f m = true) (hm : m ≤ 1000) : smallF f := by
  have := fibOk_parts h
  unfold smallF
  omega
theorem plc_pre {ns : List ByteArray} {k : Nat} (hk : k < ns.length) : decide (0 ≤ plc (ns.take k) (ns[k]?.getD nilS)) = !decide (plc ns (ns[k]?.getD nilS) = (k : Int)) := by
  generalize hx : ns[k]?.getD nilS = x
  cases h : (ns.take k).any (fun s => s.toList == x.toList)
  · rw [plc_none h, plc_some hk h (by rw [hx]; simp)]; simp
  · have h1 : 0 ≤ plc (ns.take k) x ∧ plc (ns.take k) x < k ∧ plc ns x = plc (ns.take k) x := by
      unfold plc
      cases hf : (ns.take k).findIdx? (fun s => s.toList == x.toList) with
      | none =>
        rw [List.findIdx?_eq_none_iff] at hf
        obtain ⟨s, hs, e⟩ := List.any_eq_true.1 h
        rw [hf s hs] at e; cases e
      | some i =>
        obtain ⟨hi, e1, e2⟩ := List.findIdx?_eq_some_iff_getElem.1 hf
        have hi' : i < k := by simp at hi; omega
        have hfull : ns.findIdx? (fun s => s.toList == x.toList) = some i := List.findIdx?_eq_some_iff_getElem.2 ⟨by omega, by simpa using e1, fun j hj => by have := e2 j hj; simpa using this⟩
        rw [hfull]
        simp; omega
    rw [decide_eq_true h1.1, h1.2.2, decide_eq_false (by omega)]; rfl

/-- The value reads as the network. -/
def NetR (w : World) (v : Value) (n : Net) : Prop := ∃ u1 u2, v = .agg #[u1, u2] ∧ Rdt w (flt 1 strE n.ns) u1 ∧ Rdt w (flt 4 fibE n.fs) u2 ∧ ∀ i : Nat, (nmA n i).size ≤ 1048576
theorem NetR.behind {w w' : World} {v : Value} {n : Net} (h : NetR w v n) (hb : Below w.heap.size w w') : NetR w' v n := by
  obtain ⟨u1, u2, e, h1, h2, h3⟩ := h; exact ⟨u1, u2, e, h1.behind hb, h2.behind hb, h3⟩
theorem flt_take {α : Type} {enc : α → List Value} {m : Nat} {w : World} {a : Option Addr} {n cap k : Nat} {zs : List α} (hm : ∀ z, (enc z).length = m) (hm0 : 0 < m) (h : Rdt w (flt m enc zs) (.slice a n cap)) (hk : k ≤ n) : Rdt w (flt m enc (zs.take k)) (.slice a k cap) := by
  unfold flt at h ⊢
  have hlen := fltC_len hm zs
  have hlk := fltC_len hm (zs.take k)
  have hat : ∀ j, j < k * m → (fltC enc (zs.take k))[j]? = (fltC enc zs)[j]? := fun j hj => by
    obtain ⟨i, r, hr, rfl⟩ : ∃ i r, r < m ∧ j = i * m + r := ⟨j / m, j % m, Nat.mod_lt _ hm0, by rw [Nat.mul_comm]; exact (Nat.div_add_mod j m).symm⟩
    have hi : i < k := by
      by_cases e : i < k
      · exact e
      · have := Nat.mul_le_mul_right m (Nat.le_of_not_lt e); omega
    rw [fltC_at hm _ i r hr, fltC_at hm _ i r hr, List.getElem?_take, if_pos hi]
  generalize fltC enc zs = ds at *
  generalize fltC enc (zs.take k) = ds' at *
  cases h with
  | nil size =>
    obtain rfl : k = 0 := by omega
    have : ds' = [] := List.eq_nil_of_length_eq_zero (by simpa using hlk)
    rw [this]; exact .nil m
  | @mk size n b off cap ds us hl hu hn hc hb hcell hd =>
    have hzl : zs.length = n := Nat.eq_of_mul_eq_mul_right hm0 (by omega)
    rw [List.length_take, hzl, Nat.min_eq_left hk] at hlk
    have hkm := Nat.mul_le_mul_right m hk
    refine .mk (us := us.take (k * m)) hlk (by rw [List.length_take, hlk]; omega) (by omega) hc hb (fun j u hj => ?_) (fun j d u e1 e2 => ?_)
    · rw [List.getElem?_take] at hj
      split at hj
      · exact hcell j u hj
      · cases hj
    · rw [List.getElem?_take] at e2
      split at e2
      · rename_i hjk
        rw [hat j hjk] at e1
        exact hd j d u e1 e2
      · cases e2
theorem Rdt.slice' {α : Type} {enc : α → List Value} {m : Nat} {zs : List α} {w : World} {v : Value} (h : Rdt w (flt m enc zs) v) : ∃ a n cap, v = .slice a n cap := by
  obtain ⟨a, n, cap, e, _⟩ := Rdt.opn (show Rdt w (.rows m (fltC enc zs)) v from h); exact ⟨a, n, cap, e⟩
end Go.Proofs.Ytphhenlokbodnaa
