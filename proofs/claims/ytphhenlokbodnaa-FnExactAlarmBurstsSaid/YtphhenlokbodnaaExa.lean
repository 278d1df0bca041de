/- What the exact laws' walks share. -/
import Derived.Test.YtphhenlokbodnaaLnw
namespace Go.Proofs.Ytphhenlokbodnaa
open Go.RowKit Go.Sort
set_option maxRecDepth 100000

theorem Ofr.open {w : World} {base : Nat} {d : Dt} {v : Value} (h : Ofr w base d v) : ∃ fp, Odt w d v fp ∧ fp.Nodup ∧ ∀ k ∈ fp, base ≤ k ∧ k < w.heap.size := by
  obtain ⟨fp, h1, h2, h3⟩ := h; exact ⟨fp, h1, h2, fun k hk => ⟨h3 k hk, h1.lt k hk⟩⟩
theorem Own.odt {w : World} {base : Nat} {v : Value} {xs : List Int} (h : Own w base v xs) : Odt w (inD xs) v v.ownBlock.toList := by
  obtain ⟨fp, h1, h2, h3⟩ := h.tree
  have : fp = v.ownBlock.toList := by
    unfold inD at h1
    generalize hD : (xs.map fun x => Dt.leaf (.int .i64 x)) = ds at h1
    cases h1 with
    | nil size => rfl
    | @mk size n g off cap ds us fs cur T hl hu hf hn hc hg hcs ht hd =>
      have : fs.flatten = [] := by
        rw [List.flatten_eq_nil_iff]
        intro f hf'
        obtain ⟨j, hj, rfl⟩ := List.mem_iff_getElem.1 hf'
        have hjd : j < ds.length := by omega
        have h1 := hd j ds[j] us[j] fs[j] (List.getElem?_eq_getElem hjd) (List.getElem?_eq_getElem (by omega)) (List.getElem?_eq_getElem hj)
        have hx : j < xs.length := by rw [← hD] at hjd; simpa using hjd
        have e : ds[j] = .leaf (.int .i64 xs[j]) := by simp [← hD]
        rw [e] at h1
        exact h1.leaf_inv.2
      rw [this]; rfl
  rw [← this]; exact h1
theorem inD_fp {w : World} {v : Value} {xs : List Int} {f : List Nat} (h : Odt w (inD xs) v f) : f = v.ownBlock.toList := by
  unfold inD at h
  generalize hD : (xs.map fun x => Dt.leaf (.int .i64 x)) = ds at h
  cases h with
  | nil size => rfl
  | @mk size n g off cap ds us fs cur T hl hu hf hn hc hg hcs ht hd =>
    have : fs.flatten = [] := by
      rw [List.flatten_eq_nil_iff]
      intro f hf'
      obtain ⟨j, hj, rfl⟩ := List.mem_iff_getElem.1 hf'
      have hjd : j < ds.length := by omega
      have h1 := hd j ds[j] us[j] fs[j] (List.getElem?_eq_getElem hjd) (List.getElem?_eq_getElem (by omega)) (List.getElem?_eq_getElem hj)
      have hx : j < xs.length := by rw [← hD] at hjd; simpa using hjd
      have e : ds[j] = .leaf (.int .i64 xs[j]) := by simp [← hD]
      rw [e] at h1
      exact h1.leaf_inv.2
    rw [this]; rfl
theorem eqIntS_same (va vb : Value) (xs : List Int) (w : World) (ha : Rd w va xs) (hb : Rd w vb xs) :
    Calls Try.prog 17 #[va, vb] w fun e w' => e = .returned (.bool true) ∧ Below w.heap.size w w' := by
  refine (eqIntS_any va vb xs xs w ha hb).mono ?_
  rintro e w' ⟨rfl, n, rfl⟩
  rw [eqL_refl]
  exact ⟨rfl, ⟨rfl, rfl, rfl, Nat.le_refl _, fun _ _ => rfl⟩⟩
theorem markIntS_N (v : Value) (xs : List Int) (f : List Nat) (q : Nat) (w : World) (h : Odt w (inD xs) v f) (hq : 0 < q) (hq2 : q ≤ 1099511627776) (hl : xs.length ≤ 1073741824) :
    Calls Try.prog 20 #[v, .int .i64 (q : Int)] w fun e w' => e = .returned (.int .i64 ((q + xs.length : Nat) : Int)) ∧ Odt w' (inD (cnt (q : Int) xs.length)) v f ∧ Wr w w' f := by
  have ho := (h.toOwn (base := 0) (fun _ _ => Nat.zero_le _)).1
  have hf := inD_fp h
  refine (markIntS_any v xs q 0 w ho (by omega) (by omega)).mono ?_
  rintro e w' ⟨rfl, o, g⟩
  have hd := o.odt
  rw [← hf] at hd
  exact ⟨ret_int (by omega), hd, Wr.of_grown g (fun k hk => by rw [hf, hk]; simp)⟩
theorem heldIntS_N (v : Value) (q n : Nat) (w : World) (h : Rd w v (cnt (q : Int) n)) (hq : q ≤ 1099511627776) (hn : n ≤ 1073741824) :
    Calls Try.prog 21 #[v, .int .i64 (q : Int)] w fun e w' => e = .returned (.int .i64 ((q + n : Nat) : Int)) ∧ Below w.heap.size w w' := by
  refine (heldIntS_yes v q n w h (by omega) (by omega)).mono ?_
  rintro e w' ⟨rfl, hd⟩
  exact ⟨ret_int (by omega), hd.below (Below.refl _ _)⟩
end Go.Proofs.Ytphhenlokbodnaa
