/- Joined: XCpyP XCpyW XNcoP XNcoO XHld. -/
import Derived.Test.YtonpcgdnfclidaaGreatDoorBh04
import Derived.Test.YtonpcgdnfclidaaGreatDoorBh05
import Derived.Test.YtonpcgdnfclidaaGreatDoorBh03
import Derived.Test.YtonpcgdnfclidaaGreatDoorBh02
import Derived.Deep.RegionLaw
import Derived.Deep.RegionHeld3
import Derived.ArgAppend
import Derived.Laws.AppendOwnNone
import Derived.StillTailTactics
import Derived.Lib.QuietBelow
import Derived.Deep.CutRange
import Derived.Test.YtonpcgdnfclidaaGreatDoorBh12
import Derived.Test.YtonpcgdnfclidaaGreatDoorBh01
namespace Go.Proofs.YtonpcgdnfclidaaGreatDoor
open Go.RowKit Go.Sort
set_option maxRecDepth 100000
namespace Cpy

theorem upon_mono {P : Program} {o : Oper} {a : Act} {K K' : Act → World → Prop} {Q Q' : Exit → Act → World → Prop} (hK : ∀ a w, K a w → K' a w) (hQ : ∀ e a w, e ≠ .normal → Q e a w → Q' e a w) {r} (h : o.upon P a K Q r) : o.upon P a K' Q' r := by
  unfold Oper.upon at h ⊢
  split at h
  all_goals first
    | exact hK _ _ h
    | exact hQ _ _ _ (by simp) h
    | exact h
    | (refine Calls.mono h ?_
       rintro e w' hh
       cases e
       · exact hK _ _ hh
       · exact hQ _ _ _ (by simp) hh
       · obtain ⟨a2, w2, q⟩ := hh; exact ⟨a2, w2, hQ _ _ _ (by simp) q⟩)
    | (refine Rows.mono h ?_
       intro v w' hh
       exact hK _ _ hh)
theorem step_of_list {P : Program} {ops : Array Oper} {o : Oper} {a : Act} {w : World} {K : Act → World → Prop} {Q : Exit → Act → World → Prop} {E : Prop} (hg : o.guard = none)
    (h : wpList P ops (fun e a' w' => e = .normal ∧ K a' w') [o] a w) : if Region.wanted o (yielded ops a.tmps) = true then Oper.wp P o a w K Q else E := by
  have hw : Region.wanted o (yielded ops a.tmps) = true := by simp [Region.wanted, hg]
  rw [if_pos hw]
  unfold wpList at h
  rw [if_pos hw] at h
  rcases h with h | ⟨-, a2, w2, h, -⟩
  · unfold Oper.wp at h ⊢
    refine upon_mono (fun a w hh => ?_) (fun e a w hne hh => ?_) h
    · unfold wpList at hh; exact hh.2
    · exact absurd hh.1 hne
  · cases h
section
variable {w : World} {X Y : Obj} {T : TypeId}
theorem bel1 : Below w.heap.size w (w.drew.alloc X) := (Below.refl w.heap.size w).drew.alloc (Nat.le_refl _) _
theorem bel2 : Below w.heap.size w ((w.drew.alloc X).alloc Y) := bel1.alloc (by simp) _
theorem size_alloc {B : Nat} (h : B ≤ w.heap.size) : B ≤ (w.alloc X).heap.size := Nat.le_trans h (by simp)
end
theorem Tryz.infoFib : (Tryz.prog.info? 110).map (fun i => (i.zero, i.size, i.bytes)) = some (some (.agg #[.int .i64 0, .int .i64 0, .int .i64 0, .int .i64 0]), 4, 32) := by kernel_rfl
/-- The cells of a list of fibers. -/
def fbs (fs : List Fib) : List Value := fs.flatMap fibE
theorem fbs_one {fs : List Fib} : ∀ u ∈ fbs fs, u.oneCell' = true := fun u hu => by
  unfold fbs at hu
  obtain ⟨f, -, h⟩ := List.mem_flatMap.1 hu
  simp [fibE] at h
  rcases h with rfl | rfl | rfl | rfl <;> rfl
/-- append of a part of a row of structs that may be empty to an own row. -/
theorem wpList_catG {P : Program} {ops : Array Oper} {rest : List Oper} {o : Oper} {a : Act} {Q : Exit → Act → World → Prop} {w : World} (hgd : o.guard = none) (s x : Operand) (T e : TypeId)
    (ho : o.op = .call { callee := .builtin .append, args := #[s, x], argTypes := #[T, T] }) (ht : P.underlying T = some (.slice e)) (z : Value) (size bytes : Nat)
    (hinfo : (P.info? e).map (fun i => (i.zero, i.size, i.bytes)) = some (some z, size, bytes)) (hzs : z.cells.size = size) (hsz : 0 < size)
    (base : Nat) (v : Value) (n : Nat) (xs : List Value) (hs : a.eval s = v) (hown : w.ownsRow base e size v n xs)
    (ao : Option Addr) (m c : Nat) (ys : List Value) (hx : a.eval x = .slice ao m c) (hm : ys.length = m * size) (hy : ao = none → m = 0 ∧ c = 0) (hc : ∀ ad, ao = some ad → ∀ j u, ys[j]? = some u → w.cell? (ad.add j) = some u) (h1 : ∀ u ∈ ys, u.oneCell' = true) (hn : n + m ≤ maxLen) (hby : (n + m) * bytes ≤ 140737488355328) (hbase : base ≤ w.heap.size)
    (h : ∀ v' w', w'.ownsRow base e size v' (n + m) (xs ++ ys) → w.grownBy w' v.ownBlock → (v'.ownBlock = v.ownBlock ∨ v'.ownBlock = some w.heap.size) → wpList P ops Q rest (a.put o.dst v') w') :
    wpList P ops Q (o :: rest) a w := by
  obtain ⟨i0, hi, hz0, hz1, hz2⟩ := info_parts hinfo
  rcases ao with _ | ad
  · obtain ⟨rfl, rfl⟩ := hy rfl
    have : ys = [] := List.eq_nil_of_length_eq_zero (by simpa using hm)
    subst this
    refine wpList_append_own_none hgd s x T ho base e i0 size ht hi v n xs hs hown hx ?_
    exact h v w (by simpa using hown) ⟨rfl, rfl, rfl, Nat.le_refl _, fun _ _ _ => rfl⟩ (.inl rfl)
  · refine wpList_append_own_at _ hgd s x T ho base e i0 z size bytes ht hi hz0 hz1 hz2 hzs hsz v n xs hs hown ad m c ys hx hm (hc ad rfl) h1 hn hby hbase ?_
    intro v' w' g1 g2 _ g4
    exact h v' w' g1 g2 g4
theorem addr_add (b off j : Nat) : (⟨b, off, none⟩ : Addr).add j = ⟨b, off + j, none⟩ := by unfold Addr.add; split <;> simp_all
section
variable {w : World} {X Y : Obj} {T : TypeId} {m : Nat}
theorem row_made1 : (w.drew.alloc (.cells #[] T)).ownsRow w.heap.size T m (.slice (some ⟨w.heap.size, 0, none⟩) 0 0) 0 [] := World.ownsRow_made w.drew #[] 0 (Nat.le_refl _) (Nat.zero_le _) (by simp)
theorem row_made2 : ((w.drew.alloc (.cells #[] T)).alloc X).ownsRow w.heap.size T m (.slice (some ⟨w.heap.size, 0, none⟩) 0 0) 0 [] := row_made1.alloc _
theorem row_made3 : ((w.drew.alloc X).alloc (.cells #[] T)).ownsRow w.heap.size T m (.slice (some ⟨w.heap.size + 1, 0, none⟩) 0 0) 0 [] := by
  have := World.ownsRow_made (base := w.heap.size) (e := T) (size := m) (w.drew.alloc X) #[] 0 (by simp) (Nat.zero_le _) (by simp)
  simpa using this
end
theorem row_kept0 {w w' : World} {base : Nat} {e : TypeId} {size : Nat} {v : Value} {n : Nat} {xs : List Value} (h : w.ownsRow base e size v n xs) (hk : ∀ g, v.ownBlock = some g → w'.heap[g]? = w.heap[g]?) : w'.ownsRow base e size v n xs := by
  refine ⟨h.1, ?_⟩
  rcases h.2 with q | ⟨g, cap, cur, rfl, q1, q2, q3⟩
  · exact .inl q
  · exact .inr ⟨g, cap, cur, rfl, q1, by rw [hk g rfl]; exact q2, q3⟩
theorem row_form0 {w : World} {base n : Nat} {T : TypeId} {v : Value} {us : List Value} {m : Nat} (h : w.ownsRow base T m v n us) : ∃ a c, v = .slice a n c := by
  rcases h.2 with ⟨h, h2⟩ | ⟨g, cap, cur, h, _⟩
  · exact ⟨none, 0, by rw [h, h2]⟩
  · exact ⟨_, _, h⟩
/-- Two rows of the call's own that lie apart. -/
def Apt (u v : Value) : Prop := ∀ q, u.ownBlock = some q → v.ownBlock ≠ some q
theorem Apt.nil (v : Value) : Apt (.slice none 0 0) v := fun q h => by simp [Value.ownBlock] at h
theorem Tryz.infoStrD : (Tryz.prog.info? 9).map (fun i => (i.zero, i.size, i.bytes)) = some (some (.string ⟨#[]⟩), 1, 16) := by kernel_rfl
section
variable {W w5 : World} {X : Obj} {T : TypeId} {m : Nat}
theorem mk_kept3 (g : ((W.drew.alloc X).alloc (.cells #[] T)).grownBy w5 (some W.heap.size)) : w5.ownsRow W.heap.size T m (.slice (some ⟨W.heap.size + 1, 0, none⟩) 0 0) 0 [] :=
  row_kept0 row_made3 fun q hq => g.block q (World.ownsRow.lt (row_made3 (X := X) (T := T) (m := m)) q hq).2 fun e => by
    have h1 : W.heap.size + 1 = q := Option.some.inj hq
    have h2 := Option.some.inj e
    omega
theorem mk_kept2 (g : ((W.drew.alloc (.cells #[] T)).alloc X).grownBy w5 (some (W.heap.size + 1))) : w5.ownsRow W.heap.size T m (.slice (some ⟨W.heap.size, 0, none⟩) 0 0) 0 [] :=
  row_kept0 row_made2 fun q hq => g.block q (World.ownsRow.lt (row_made2 (X := X) (T := T) (m := m)) q hq).2 fun e => by
    have h1 : W.heap.size = q := Option.some.inj hq
    have h2 := Option.some.inj e
    omega
end
theorem two_rows {w5 wA w10 : World} {base s3 b3 b7 m1 n1 : Nat} {T1 : TypeId} {us1 : List Value} {v5 v10 : Value} (o5 : w5.ownsRow base T1 m1 v5 n1 us1) (hA : Below w5.heap.size w5 wA) (g10 : wA.grownBy w10 (some b7)) (l10 : v10.ownBlock = some b7 ∨ v10.ownBlock = some wA.heap.size) (l5 : v5.ownBlock = some b3 ∨ v5.ownBlock = some s3) (hd : (b3 ≠ b7 ∧ s3 ≠ b7) ∨ w5.heap.size ≤ b7) : w10.ownsRow base T1 m1 v5 n1 us1 ∧ Apt v5 v10 := by
  have hlt := fun q hq => (World.ownsRow.lt o5 q hq).2
  have hne : ∀ q, v5.ownBlock = some q → q ≠ b7 := fun q hq => by
    have h1 := hlt q hq
    rcases hd with ⟨h2, h3⟩ | h2
    · rcases l5 with l | l
      · rw [l] at hq; have := Option.some.inj hq; omega
      · rw [l] at hq; have := Option.some.inj hq; omega
    · omega
  refine ⟨row_kept0 o5 fun q hq => (g10.block q (Nat.lt_of_lt_of_le (hlt q hq) hA.size) fun e => hne q hq (Option.some.inj e)).trans (hA.block q (hlt q hq)), fun q hq e => ?_⟩
  rcases l10 with l | l
  · rw [l] at e; exact hne q hq (Option.some.inj e).symm
  · rw [l] at e
    have h1 := Option.some.inj e
    have h2 := hlt q hq
    have h3 := hA.size
    omega
end Cpy
end Go.Proofs.YtonpcgdnfclidaaGreatDoor
namespace Go.Proofs.YtonpcgdnfclidaaGreatDoor
open Go.RowKit Go.Sort
set_option maxRecDepth 100000
open Cpy

/-- A readable row of flat structs as what is appended. -/
theorem src_flt {α : Type} {enc : α → List Value} {m : Nat} {w : World} {zs : List α} {a : Option Addr} {n c : Nat} (hm : ∀ z, (enc z).length = m) (hm0 : 0 < m) (h : Rdt w (flt m enc zs) (.slice a n c)) (hn : zs.length = n) :
    (a = none → n = 0 ∧ c = 0) ∧ (zs.flatMap enc).length = n * m ∧ ∀ w', Below w.heap.size w w' → ∀ ad, a = some ad → ∀ j u, (zs.flatMap enc)[j]? = some u → w'.cell? (ad.add j) = some u := by
  have hlen : (zs.flatMap enc).length = n * m := by
    have := fltC_len hm zs
    unfold fltC at this
    rw [← hn, ← this, ← List.map_flatMap, List.length_map]
  have hds : fltC enc zs = (zs.flatMap enc).map Dt.leaf := by unfold fltC; rw [List.map_flatMap]
  unfold flt at h
  rw [hds] at h
  generalize hys : (zs.flatMap enc).map Dt.leaf = ds at *
  cases h with
  | nil =>
    have : zs.flatMap enc = [] := by simpa using hys
    rw [this] at hlen ⊢
    exact ⟨fun _ => ⟨rfl, rfl⟩, hlen, fun w' _ ad e => by cases e⟩
  | mk hl hu hnc hc hb hcell hd =>
    refine ⟨fun e => (by cases e), hlen, fun w' hbw ad e j u hj => ?_⟩
    cases e
    have hdj : ds[j]? = some (Dt.leaf u) := by rw [← hys, List.getElem?_map, hj]; rfl
    have hjl := (List.getElem?_eq_some_iff.1 hdj).1
    rename_i us
    have huj : us[j]? = some us[j] := List.getElem?_eq_getElem (by omega)
    have := (hd j _ _ hdj huj).leaf_inv
    have hc2 := hcell j _ huj
    rw [this] at hc2
    rw [addr_add]
    exact (hbw.cell (p := ⟨_, _, none⟩) hb).trans hc2
theorem odt_of_row {w : World} {base m n : Nat} {T : TypeId} {v : Value} {us : List Value} (h : w.ownsRow base T m v n us) : ∃ fp, Odt w (.rows m (us.map Dt.leaf)) v fp ∧ fp.Nodup ∧ ∀ k ∈ fp, base ≤ k ∧ k < w.heap.size ∧ v.ownBlock = some k := by
  have ho := Ofr.of_row h
  obtain ⟨fp, h1, h2, h3⟩ := ho
  refine ⟨fp, h1, h2, fun k hk => ⟨h3 k hk, h1.lt k hk, ?_⟩⟩
  generalize hys : us.map Dt.leaf = ds at *
  cases h1 with
  | nil => cases hk
  | mk hl hu hf hn hc hg hcs ht hd =>
    rename_i us2 fs cur T2
    rcases List.mem_cons.1 hk with rfl | hk
    · rfl
    · obtain ⟨f, hf1, hf2⟩ := List.mem_flatten.1 hk
      obtain ⟨j, hj, e⟩ := List.getElem_of_mem hf1
      have hjd : j < ds.length := by omega
      have hj2 : ds[j]? = some ds[j] := List.getElem?_eq_getElem hjd
      have hj3 : us2[j]? = some us2[j] := List.getElem?_eq_getElem (by omega)
      have := hd j _ _ f hj2 hj3 (by rw [List.getElem?_eq_getElem hj, e])
      have hje : ds[j]? = (us.map Dt.leaf)[j]? := by rw [hys]
      rw [List.getElem?_map, hj2] at hje
      obtain ⟨u, -, hu2⟩ := Option.map_eq_some_iff.1 hje.symm
      rw [← hu2] at this
      rw [this.leaf_inv.2] at hf2
      cases hf2
theorem flt_of_row' {α : Type} {enc : α → List Value} {w : World} {base m n : Nat} {T : TypeId} {v : Value} {zs : List α} (h : w.ownsRow base T m v n ([] ++ zs.flatMap enc)) : ∃ fp, Odt w (flt m enc zs) v fp ∧ fp.Nodup ∧ ∀ k ∈ fp, base ≤ k ∧ k < w.heap.size ∧ v.ownBlock = some k := by
  have := odt_of_row h
  rw [List.nil_append, List.map_flatMap] at this
  exact this
/-- A copy: the same network, in blocks of the call's own. -/
def CpyP (n : Net) (w : World) (e : Ending) (w' : World) : Prop := ∃ v fp, e = .returned v ∧ NetO w' n v fp ∧ fp.Nodup ∧ (∀ k ∈ fp, w.heap.size ≤ k ∧ k < w'.heap.size) ∧ Below w.heap.size w w'
theorem CpyP.of {w w2 w10 : World} {n : Net} {v5 v10 : Value} (hb0 : Below w.heap.size w w2) (hz : w2.heap.size = w.heap.size + 2) (hb : Below w2.heap.size w2 w10)
    (h1 : ∃ fp, Odt w10 (flt 1 strE n.ns) v5 fp ∧ fp.Nodup ∧ ∀ k ∈ fp, w2.heap.size ≤ k ∧ k < w10.heap.size ∧ v5.ownBlock = some k) (h2 : ∃ fp, Odt w10 (flt 4 fibE n.fs) v10 fp ∧ fp.Nodup ∧ ∀ k ∈ fp, w2.heap.size ≤ k ∧ k < w10.heap.size ∧ v10.ownBlock = some k) (ha : Apt v5 v10) :
    CpyP n w (.returned (.agg #[v5, v10])) ((w10.setCell ⟨w.heap.size + 1, 0, none⟩ v5).setCell ⟨w.heap.size + 1, 1, none⟩ v10) := by
  obtain ⟨f1, a1, a2, a3⟩ := h1
  obtain ⟨f2, b1, b2, b3⟩ := h2
  have hk : ∀ g, w2.heap.size ≤ g → ((w10.setCell ⟨w.heap.size + 1, 0, none⟩ v5).setCell ⟨w.heap.size + 1, 1, none⟩ v10).heap[g]? = w10.heap[g]? := fun g hg => by
    rw [heap_setCell_other _ _ _ _ (show g ≠ w.heap.size + 1 by omega), heap_setCell_other _ _ _ _ (show g ≠ w.heap.size + 1 by omega)]
  refine ⟨_, f1 ++ f2, rfl, ⟨v5, v10, f1, f2, rfl, a1.kept fun k hk2 => hk k (a3 k hk2).1, b1.kept fun k hk2 => hk k (b3 k hk2).1, rfl⟩, List.nodup_append.2 ⟨a2, b2, fun x hx y hy e => ?_⟩, fun k hk2 => ?_, ((hb0.trans (hb.mono hb0.size)).setCell (p := ⟨w.heap.size + 1, 0, none⟩) (Nat.le_succ _) v5).setCell (p := ⟨w.heap.size + 1, 1, none⟩) (Nat.le_succ _) v10⟩
  · subst e
    exact ha x (a3 x hx).2.2 (b3 x hy).2.2
  · have hs : ((w10.setCell ⟨w.heap.size + 1, 0, none⟩ v5).setCell ⟨w.heap.size + 1, 1, none⟩ v10).heap.size = w10.heap.size := by simp
    rw [hs]
    rcases List.mem_append.1 hk2 with h | h
    · have := a3 k h; omega
    · have := b3 k h; omega
set_option maxHeartbeats 6400000 in
theorem copyNetwork_any (u1 u2 : Value) (n : Net) (w : World) (h : NetR w (.agg #[u1, u2]) n) (h1 : n.ns.length ≤ 1048576) (h2 : n.fs.length ≤ 1048576) :
    Calls Tryz.prog 41 #[.agg #[u1, u2]] w (CpyP n w) := by
  obtain ⟨x1, x2, e, r1, r2, hsm⟩ := h
  simp only [Value.agg.injEq, Array.mk.injEq, List.cons.injEq, and_true] at e
  obtain ⟨rfl, rfl⟩ := e
  obtain ⟨a1, m1, c1, rfl, HN1, -, hm1, -⟩ := flt_opn (m := 1) (enc := strE) (fun _ => rfl) (by omega) nilS r1
  obtain ⟨a2, m2, c2, rfl, HN2, -, hm2, -⟩ := flt_opn (m := 4) (enc := fibE) (fun _ => rfl) (by omega) nilB r2
  have HS1 := Lib.hid (src_flt (enc := strE) (m := 1) (fun _ => rfl) (by omega) r1 HN1.out)
  have HS2 := Lib.hid (src_flt (enc := fibE) (m := 4) (fun _ => rfl) (by omega) r2 HN2.out)
  have hl1 : m1 ≤ 1048576 := by have := HN1.out; omega
  have hl2 : m2 ≤ 1048576 := by have := HN2.out; omega
  have HD1 := Lib.hid (show ∀ w' b v, w'.ownsRow b 9 1 v (0 + m1) ([] ++ n.ns.flatMap strE) → ∃ fp, Odt w' (flt 1 strE n.ns) v fp ∧ fp.Nodup ∧ ∀ k ∈ fp, b ≤ k ∧ k < w'.heap.size ∧ v.ownBlock = some k from fun w' b v hh => flt_of_row' hh)
  have HD2 := Lib.hid (show ∀ w' b v, w'.ownsRow b 110 4 v (0 + m2) ([] ++ n.fs.flatMap fibE) → ∃ fp, Odt w' (flt 4 fibE n.fs) v fp ∧ fp.Nodup ∧ ∀ k ∈ fp, b ≤ k ∧ k < w'.heap.size ∧ v.ownBlock = some k from fun w' b v hh => flt_of_row' hh)
  have HE1 := Lib.hid (show ∀ u ∈ n.ns.flatMap strE, u.oneCell' = true from fun u hu => by
    obtain ⟨s, -, hs⟩ := List.mem_flatMap.1 hu
    simp only [strE, List.mem_singleton] at hs
    subst hs; rfl)
  have HE2 := Lib.hid (show ∀ u ∈ n.fs.flatMap fibE, u.oneCell' = true from fun u hu => fbs_one u hu)
  obtain ⟨NP, hNP⟩ : ∃ NP, NP = CpyP n w := ⟨_, rfl⟩
  rw [← hNP]
  have HNP := Lib.hid hNP
  have b1 := (Below.refl w.heap.size w).alloc (Nat.le_refl _) (.cells #[.slice a1 m1 c1, .slice a2 m2 c2] 38)
  have b2 := b1.alloc b1.size (.cells #[.slice none 0 0, .slice none 0 0] 38)
  have HB2 := Lib.hid b2
  have HX1 := Lib.hid (show ((w.alloc (.cells #[.slice a1 m1 c1, .slice a2 m2 c2] 38)).alloc (.cells #[.slice none 0 0, .slice none 0 0] 38)).heap[w.heap.size]? = some (.cells #[.slice a1 m1 c1, .slice a2 m2 c2] 38 (0, 0)) from (heap_alloc_old _ _ (by simp)).trans (heap_alloc_new w _))
  have HX2 := Lib.hid (show ((w.alloc (.cells #[.slice a1 m1 c1, .slice a2 m2 c2] 38)).alloc (.cells #[.slice none 0 0, .slice none 0 0] 38)).heap[w.heap.size + 1]? = some (.cells #[.slice none 0 0, .slice none 0 0] 38 (0, 0)) from by have := heap_alloc_new (w.alloc (.cells #[.slice a1 m1 c1, .slice a2 m2 c2] 38)) (.cells #[.slice none 0 0, .slice none 0 0] 38); simpa using this)
  have HZ2 := Lib.hid (show ((w.alloc (.cells #[.slice a1 m1 c1, .slice a2 m2 c2] 38)).alloc (.cells #[.slice none 0 0, .slice none 0 0] 38)).heap.size = w.heap.size + 2 by simp)
  generalize n.ns.flatMap strE = ys1 at *
  generalize n.fs.flatMap fibE = ys2 at *
  clear b1 b2 r1 r2 hsm h1 h2 hNP
  go_enter Tryz.func41, Tryz.ntmps41
  go_upto_region 1 with fail
  generalize ((w.alloc (.cells #[.slice a1 m1 c1, .slice a2 m2 c2] 38)).alloc (.cells #[.slice none 0 0, .slice none 0 0] 38)) = w2 at *
  have hlt1 : w.heap.size < w2.heap.size := by have := HZ2.out; omega
  have hlt2 : w.heap.size + 1 < w2.heap.size := by have := HZ2.out; omega
  have HS := Lib.hid (fun (w' : World) (hb : Below w2.heap.size w2 w') => show w'.cell? ⟨w.heap.size, 0, none⟩ = some (.slice a1 m1 c1) ∧ w'.cell? ⟨w.heap.size, 1, none⟩ = some (.slice a2 m2 c2) from
    ⟨(hb.cell (p := ⟨w.heap.size, 0, none⟩) hlt1).trans (blkc HX1.out rfl), (hb.cell (p := ⟨w.heap.size, 1, none⟩) hlt1).trans (blkc HX1.out rfl)⟩)
  have HC1 := Lib.hid (fun (w' : World) (hb : Below w2.heap.size w2 w') => HS1.out.2.2 w' (HB2.out.trans (hb.mono HB2.out.size)))
  have HC2 := Lib.hid (fun (w' : World) (hb : Below w2.heap.size w2 w') => HS2.out.2.2 w' (HB2.out.trans (hb.mono HB2.out.size)))
  have HN1' := Lib.hid HS1.out.1
  have HN2' := Lib.hid HS2.out.1
  have HL1 := Lib.hid HS1.out.2.1
  have HL2 := Lib.hid HS2.out.2.1
  have HST := Lib.hid (fun (w' : World) (hb : Below w2.heap.size w2 w') (a b : Value) => show ((w'.setCell ⟨w.heap.size + 1, 0, none⟩ a).setCell ⟨w.heap.size + 1, 1, none⟩ b).cell? ⟨w.heap.size, 0, none⟩ = some (.slice a1 m1 c1) ∧ ((w'.setCell ⟨w.heap.size + 1, 0, none⟩ a).setCell ⟨w.heap.size + 1, 1, none⟩ b).cell? ⟨w.heap.size, 1, none⟩ = some (.slice a2 m2 c2) from by
    obtain ⟨h1, h2⟩ := HS.out w' hb
    refine ⟨?_, ?_⟩
    · rw [World.cell?_setCell_other _ _ _ _ (by simp), World.cell?_setCell_other _ _ _ _ (by simp)]; exact h1
    · rw [World.cell?_setCell_other _ _ _ _ (by simp), World.cell?_setCell_other _ _ _ _ (by simp)]; exact h2)
  have hb0 := (Below.refl w2.heap.size w2).drew
  go_region_held3 (fun w' => w'.cell? ⟨w.heap.size, 0, none⟩ = some (.slice a1 m1 c1) ∧ w'.cell? ⟨w.heap.size, 1, none⟩ = some (.slice a2 m2 c2))
    (first | exact HS.out _ hb0 | exact HS.out _ bel1 | exact HS.out _ bel2 | exact HS.out _ B10 | exact HS.out _ B5 | exact HS.out _ (B5.alloc B5.size _) | exact HST.out _ B10 _ _)
    (first
      | ((refine step_of_list rfl ?_); (with_reducible show wpList _ _ _ (⟨some 6, _, _, _, _, _⟩ :: _) _ _); (go_loud (refine wpList_catG rfl (.tmp 3) (.tmp 5) 22 9 rfl Tryz.underlying22 (.string ⟨#[]⟩) 1 16 Tryz.infoStrD rfl (by decide) w2.heap.size (.slice (some ⟨_, 0, none⟩) 0 0) 0 [] (by rfl) (by first | exact row_made1 | exact row_made2 | exact row_made3) a1 m1 c1 ys1 (by rfl) HL1.out HN1'.out (HC1.out _ (by first | exact bel1 | exact bel2)) HE1.out (by unfold maxLen; omega) (by omega) (by first | exact bel1.size | exact bel2.size) ?_)); (intro v5 w5 o5 g5 l5); (obtain ⟨e5, f5, rfl⟩ := row_form0 o5); (have B5 : Below w2.heap.size w2 w5 := Below.grown (by first | exact bel1 | exact bel2) g5 (by first | exact bel1.size | exact bel2.size) (fun q hq => (by have hq2 := Option.some.inj hq; rw [← hq2]; first | exact Nat.le_refl _ | exact Nat.le_succ _))); (have NN5 := fun c h1 h2 => g5.block c h1 h2); (unfold wpList); (refine ⟨rfl, ?_⟩))
      | ((refine step_of_list rfl ?_); (with_reducible show wpList _ _ _ (⟨some 10, _, _, _, _, _⟩ :: _) _ _); (go_loud (refine wpList_catG rfl (.tmp 7) (.tmp 9) 36 110 rfl Tryz.underlying36 (.agg #[.int .i64 0, .int .i64 0, .int .i64 0, .int .i64 0]) 4 32 Tryz.infoFib rfl (by decide) w2.heap.size (.slice (some ⟨_, 0, none⟩) 0 0) 0 [] (by rfl) (by first | exact World.ownsRow_made (base := w2.heap.size) w5 #[] 0 B5.size (Nat.zero_le _) (by simp) | exact mk_kept3 g5 | exact mk_kept2 g5) a2 m2 c2 ys2 (by rfl) HL2.out HN2'.out (HC2.out _ (by first | exact B5 | exact B5.alloc B5.size _)) HE2.out (by unfold maxLen; omega) (by omega) (by first | exact B5.size | exact size_alloc B5.size) ?_)); (intro v10 w10 o10 g10 l10); (obtain ⟨e10, f10, rfl⟩ := row_form0 o10); (have B10 : Below w2.heap.size w2 w10 := Below.grown (by first | exact B5 | exact B5.alloc B5.size _) g10 (by first | exact B5.size | exact size_alloc B5.size) (fun q hq => (by have hq2 := Option.some.inj hq; rw [← hq2]; first | exact Nat.le_refl _ | exact Nat.le_succ _ | exact B5.size))); (have x10 := kept_o' HX2.out B10); (have z0 := blkc x10 (show _ = some (Value.slice none 0 0) from rfl) (j := 0)); (have z1 := blkc x10 (show _ = some (Value.slice none 0 0) from rfl) (j := 1)); (have f0 : w10.frozen? ⟨w.heap.size + 1, 0, none⟩ = false := (by simp only [World.frozen?, x10]; rfl)); (have f1 : w10.frozen? ⟨w.heap.size + 1, 1, none⟩ = false := (by simp only [World.frozen?, x10]; rfl)); (unfold wpList); (refine ⟨rfl, ?_⟩)))
  all_goals
    have H := two_rows o5 (by first | exact Below.refl _ _ | exact (Below.refl _ _).alloc (Nat.le_refl _) _) g10 l10 l5 (by first | exact .inr (Nat.le_refl _) | (left; constructor <;> simp <;> omega) | (left; constructor <;> simp))
    have HH := Lib.hid (CpyP.of (n := n) HB2.out HZ2.out B10 (HD1.out _ _ _ H.1) (HD2.out _ _ _ o10) H.2)
    clear H o5 o10 g5 g10 l5 l10 B5 B10 NN5
    go_wp2_with fail
    rw [HNP.out]
    exact bodyPost_ret (v := .agg #[.slice e5 (0 + m1) f5, .slice e10 (0 + m2) f10]) (by simp [results, Tryz.results41, go_sem, z0, z1]) rfl (by simpa using HH.out)
set_option maxHeartbeats 6400000 in
theorem l2Own_any (u1 u2 : Value) (n : Net) (w : World) (h : NetR w (.agg #[u1, u2]) n) (h1 : n.ns.length ≤ 1048576) (h2 : n.fs.length ≤ 1048576) :
    Calls Tryz.prog 95 #[.agg #[u1, u2]] w (CpyP n w) := by
  obtain ⟨x1, x2, e, r1, r2, hsm⟩ := h
  simp only [Value.agg.injEq, Array.mk.injEq, List.cons.injEq, and_true] at e
  obtain ⟨rfl, rfl⟩ := e
  obtain ⟨a1, m1, c1, rfl, HN1, -, hm1, -⟩ := flt_opn (m := 1) (enc := strE) (fun _ => rfl) (by omega) nilS r1
  obtain ⟨a2, m2, c2, rfl, HN2, -, hm2, -⟩ := flt_opn (m := 4) (enc := fibE) (fun _ => rfl) (by omega) nilB r2
  have HS1 := Lib.hid (src_flt (enc := strE) (m := 1) (fun _ => rfl) (by omega) r1 HN1.out)
  have HS2 := Lib.hid (src_flt (enc := fibE) (m := 4) (fun _ => rfl) (by omega) r2 HN2.out)
  have hl1 : m1 ≤ 1048576 := by have := HN1.out; omega
  have hl2 : m2 ≤ 1048576 := by have := HN2.out; omega
  have HD1 := Lib.hid (show ∀ w' b v, w'.ownsRow b 9 1 v (0 + m1) ([] ++ n.ns.flatMap strE) → ∃ fp, Odt w' (flt 1 strE n.ns) v fp ∧ fp.Nodup ∧ ∀ k ∈ fp, b ≤ k ∧ k < w'.heap.size ∧ v.ownBlock = some k from fun w' b v hh => flt_of_row' hh)
  have HD2 := Lib.hid (show ∀ w' b v, w'.ownsRow b 110 4 v (0 + m2) ([] ++ n.fs.flatMap fibE) → ∃ fp, Odt w' (flt 4 fibE n.fs) v fp ∧ fp.Nodup ∧ ∀ k ∈ fp, b ≤ k ∧ k < w'.heap.size ∧ v.ownBlock = some k from fun w' b v hh => flt_of_row' hh)
  have HE1 := Lib.hid (show ∀ u ∈ n.ns.flatMap strE, u.oneCell' = true from fun u hu => by
    obtain ⟨s, -, hs⟩ := List.mem_flatMap.1 hu
    simp only [strE, List.mem_singleton] at hs
    subst hs; rfl)
  have HE2 := Lib.hid (show ∀ u ∈ n.fs.flatMap fibE, u.oneCell' = true from fun u hu => fbs_one u hu)
  obtain ⟨NP, hNP⟩ : ∃ NP, NP = CpyP n w := ⟨_, rfl⟩
  rw [← hNP]
  have HNP := Lib.hid hNP
  have b1 := (Below.refl w.heap.size w).alloc (Nat.le_refl _) (.cells #[.slice a1 m1 c1, .slice a2 m2 c2] 38)
  have b2 := b1.alloc b1.size (.cells #[.slice none 0 0, .slice none 0 0] 38)
  have HB2 := Lib.hid b2
  have HX1 := Lib.hid (show ((w.alloc (.cells #[.slice a1 m1 c1, .slice a2 m2 c2] 38)).alloc (.cells #[.slice none 0 0, .slice none 0 0] 38)).heap[w.heap.size]? = some (.cells #[.slice a1 m1 c1, .slice a2 m2 c2] 38 (0, 0)) from (heap_alloc_old _ _ (by simp)).trans (heap_alloc_new w _))
  have HX2 := Lib.hid (show ((w.alloc (.cells #[.slice a1 m1 c1, .slice a2 m2 c2] 38)).alloc (.cells #[.slice none 0 0, .slice none 0 0] 38)).heap[w.heap.size + 1]? = some (.cells #[.slice none 0 0, .slice none 0 0] 38 (0, 0)) from by have := heap_alloc_new (w.alloc (.cells #[.slice a1 m1 c1, .slice a2 m2 c2] 38)) (.cells #[.slice none 0 0, .slice none 0 0] 38); simpa using this)
  have HZ2 := Lib.hid (show ((w.alloc (.cells #[.slice a1 m1 c1, .slice a2 m2 c2] 38)).alloc (.cells #[.slice none 0 0, .slice none 0 0] 38)).heap.size = w.heap.size + 2 by simp)
  generalize n.ns.flatMap strE = ys1 at *
  generalize n.fs.flatMap fibE = ys2 at *
  clear b1 b2 r1 r2 hsm h1 h2 hNP
  go_enter Tryz.func95, Tryz.ntmps95
  go_upto_region 1 with fail
  generalize ((w.alloc (.cells #[.slice a1 m1 c1, .slice a2 m2 c2] 38)).alloc (.cells #[.slice none 0 0, .slice none 0 0] 38)) = w2 at *
  have hlt1 : w.heap.size < w2.heap.size := by have := HZ2.out; omega
  have hlt2 : w.heap.size + 1 < w2.heap.size := by have := HZ2.out; omega
  have HS := Lib.hid (fun (w' : World) (hb : Below w2.heap.size w2 w') => show w'.cell? ⟨w.heap.size, 0, none⟩ = some (.slice a1 m1 c1) ∧ w'.cell? ⟨w.heap.size, 1, none⟩ = some (.slice a2 m2 c2) from
    ⟨(hb.cell (p := ⟨w.heap.size, 0, none⟩) hlt1).trans (blkc HX1.out rfl), (hb.cell (p := ⟨w.heap.size, 1, none⟩) hlt1).trans (blkc HX1.out rfl)⟩)
  have HC1 := Lib.hid (fun (w' : World) (hb : Below w2.heap.size w2 w') => HS1.out.2.2 w' (HB2.out.trans (hb.mono HB2.out.size)))
  have HC2 := Lib.hid (fun (w' : World) (hb : Below w2.heap.size w2 w') => HS2.out.2.2 w' (HB2.out.trans (hb.mono HB2.out.size)))
  have HN1' := Lib.hid HS1.out.1
  have HN2' := Lib.hid HS2.out.1
  have HL1 := Lib.hid HS1.out.2.1
  have HL2 := Lib.hid HS2.out.2.1
  have HST := Lib.hid (fun (w' : World) (hb : Below w2.heap.size w2 w') (a b : Value) => show ((w'.setCell ⟨w.heap.size + 1, 0, none⟩ a).setCell ⟨w.heap.size + 1, 1, none⟩ b).cell? ⟨w.heap.size, 0, none⟩ = some (.slice a1 m1 c1) ∧ ((w'.setCell ⟨w.heap.size + 1, 0, none⟩ a).setCell ⟨w.heap.size + 1, 1, none⟩ b).cell? ⟨w.heap.size, 1, none⟩ = some (.slice a2 m2 c2) from by
    obtain ⟨h1, h2⟩ := HS.out w' hb
    refine ⟨?_, ?_⟩
    · rw [World.cell?_setCell_other _ _ _ _ (by simp), World.cell?_setCell_other _ _ _ _ (by simp)]; exact h1
    · rw [World.cell?_setCell_other _ _ _ _ (by simp), World.cell?_setCell_other _ _ _ _ (by simp)]; exact h2)
  have hb0 := (Below.refl w2.heap.size w2).drew
  go_region_held3 (fun w' => w'.cell? ⟨w.heap.size, 0, none⟩ = some (.slice a1 m1 c1) ∧ w'.cell? ⟨w.heap.size, 1, none⟩ = some (.slice a2 m2 c2))
    (first | exact HS.out _ hb0 | exact HS.out _ bel1 | exact HS.out _ bel2 | exact HS.out _ B10 | exact HS.out _ B5 | exact HS.out _ (B5.alloc B5.size _) | exact HST.out _ B10 _ _)
    (first
      | ((refine step_of_list rfl ?_); (with_reducible show wpList _ _ _ (⟨some 6, _, _, _, _, _⟩ :: _) _ _); (go_loud (refine wpList_catG rfl (.tmp 3) (.tmp 5) 22 9 rfl Tryz.underlying22 (.string ⟨#[]⟩) 1 16 Tryz.infoStrD rfl (by decide) w2.heap.size (.slice (some ⟨_, 0, none⟩) 0 0) 0 [] (by rfl) (by first | exact row_made1 | exact row_made2 | exact row_made3) a1 m1 c1 ys1 (by rfl) HL1.out HN1'.out (HC1.out _ (by first | exact bel1 | exact bel2)) HE1.out (by unfold maxLen; omega) (by omega) (by first | exact bel1.size | exact bel2.size) ?_)); (intro v5 w5 o5 g5 l5); (obtain ⟨e5, f5, rfl⟩ := row_form0 o5); (have B5 : Below w2.heap.size w2 w5 := Below.grown (by first | exact bel1 | exact bel2) g5 (by first | exact bel1.size | exact bel2.size) (fun q hq => (by have hq2 := Option.some.inj hq; rw [← hq2]; first | exact Nat.le_refl _ | exact Nat.le_succ _))); (have NN5 := fun c h1 h2 => g5.block c h1 h2); (unfold wpList); (refine ⟨rfl, ?_⟩))
      | ((refine step_of_list rfl ?_); (with_reducible show wpList _ _ _ (⟨some 10, _, _, _, _, _⟩ :: _) _ _); (go_loud (refine wpList_catG rfl (.tmp 7) (.tmp 9) 36 110 rfl Tryz.underlying36 (.agg #[.int .i64 0, .int .i64 0, .int .i64 0, .int .i64 0]) 4 32 Tryz.infoFib rfl (by decide) w2.heap.size (.slice (some ⟨_, 0, none⟩) 0 0) 0 [] (by rfl) (by first | exact World.ownsRow_made (base := w2.heap.size) w5 #[] 0 B5.size (Nat.zero_le _) (by simp) | exact mk_kept3 g5 | exact mk_kept2 g5) a2 m2 c2 ys2 (by rfl) HL2.out HN2'.out (HC2.out _ (by first | exact B5 | exact B5.alloc B5.size _)) HE2.out (by unfold maxLen; omega) (by omega) (by first | exact B5.size | exact size_alloc B5.size) ?_)); (intro v10 w10 o10 g10 l10); (obtain ⟨e10, f10, rfl⟩ := row_form0 o10); (have B10 : Below w2.heap.size w2 w10 := Below.grown (by first | exact B5 | exact B5.alloc B5.size _) g10 (by first | exact B5.size | exact size_alloc B5.size) (fun q hq => (by have hq2 := Option.some.inj hq; rw [← hq2]; first | exact Nat.le_refl _ | exact Nat.le_succ _ | exact B5.size))); (have x10 := kept_o' HX2.out B10); (have z0 := blkc x10 (show _ = some (Value.slice none 0 0) from rfl) (j := 0)); (have z1 := blkc x10 (show _ = some (Value.slice none 0 0) from rfl) (j := 1)); (have f0 : w10.frozen? ⟨w.heap.size + 1, 0, none⟩ = false := (by simp only [World.frozen?, x10]; rfl)); (have f1 : w10.frozen? ⟨w.heap.size + 1, 1, none⟩ = false := (by simp only [World.frozen?, x10]; rfl)); (unfold wpList); (refine ⟨rfl, ?_⟩)))
  all_goals
    have H := two_rows o5 (by first | exact Below.refl _ _ | exact (Below.refl _ _).alloc (Nat.le_refl _) _) g10 l10 l5 (by first | exact .inr (Nat.le_refl _) | (left; constructor <;> simp <;> omega) | (left; constructor <;> simp))
    have HH := Lib.hid (CpyP.of (n := n) HB2.out HZ2.out B10 (HD1.out _ _ _ H.1) (HD2.out _ _ _ o10) H.2)
    clear H o5 o10 g5 g10 l5 l10 B5 B10 NN5
    go_wp2_with fail
    rw [HNP.out]
    exact bodyPost_ret (v := .agg #[.slice e5 (0 + m1) f5, .slice e10 (0 + m2) f10]) (by simp [results, Tryz.results95, go_sem, z0, z1]) rfl (by simpa using HH.out)
end Go.Proofs.YtonpcgdnfclidaaGreatDoor
namespace Go.Proofs.YtonpcgdnfclidaaGreatDoor
open Go.RowKit Go.Sort
set_option maxRecDepth 100000
open Cpy

def nilC : Con := ⟨⟨⟨[], []⟩, []⟩, [], ⟨#[]⟩, ⟨#[]⟩, 0⟩
/-- The console of a network and formats, without lights and with an empty log. -/
def newC (n : Net) (fs : List Fmt) : Con := ⟨⟨n, []⟩, fs, ⟨#[]⟩, ⟨#[]⟩, 0⟩
def ncOk (n : Net) (fs : List Fmt) : Bool := netOk n && fmOk fs
def ncR (n : Net) (fs : List Fmt) : Con := if ncOk n fs then newC n fs else nilC
theorem ncR_no {n : Net} {fs : List Fmt} (h : ncOk n fs = false) : ncR n fs = nilC := by unfold ncR; rw [h]; rfl
theorem ncR_yes {n : Net} {fs : List Fmt} (h : ncOk n fs = true) : ncR n fs = newC n fs := by unfold ncR; rw [h]; rfl
theorem newC_ok (n : Net) (fs : List Fmt) : conOk (newC n fs) = ncOk n fs := by
  have h1 : plnOk ⟨n, []⟩ = netOk n := by unfold plnOk; simp
  have h2 : vlB ⟨#[]⟩ ⟨#[]⟩ 0 = true := by rfl
  unfold conOk newC ncOk
  dsimp only
  rw [h1, h2, Bool.and_true]
theorem newC_fb (n : Net) (fs : List Fmt) : ∀ i : Nat, (lgA (newC n fs).p i).fb.length ≤ 1100000 := fun i => by
  have : lgA (newC n fs).p i = nilL := by unfold newC lgA; simp
  rw [this]; exact Nat.zero_le _
theorem newC_sz (n : Net) (fs : List Fmt) : (newC n fs).d.size + (newC n fs).e.size ≤ 1048576 := Nat.zero_le _
/-- What NewConsole hands back: a console in blocks of the call's own. -/
def NcoP (n : Net) (fs : List Fmt) (w : World) (e : Ending) (w' : World) : Prop := ∃ v fp, e = .returned (.tuple #[v, .bool (ncOk n fs)]) ∧ ConO w' (ncR n fs) v fp ∧ fp.Nodup ∧ (∀ k ∈ fp, w.heap.size ≤ k ∧ k < w'.heap.size) ∧ Below w.heap.size w w'
theorem fms_one {fs : List Fmt} : ∀ u ∈ fs.flatMap fmE, u.oneCell' = true := fun u hu => by
  obtain ⟨f, -, h⟩ := List.mem_flatMap.1 hu
  simp [fmE] at h
  rcases h with rfl | rfl <;> rfl
theorem Tryz.infoFmt : (Tryz.prog.info? 78).map (fun i => (i.zero, i.size, i.bytes)) = some (some (.agg #[.int .i64 0, .int .i64 0]), 2, 16) := by kernel_rfl
theorem nilC_own (w : World) : ConO w nilC (.agg #[.slice none 0 0, .slice none 0 0, .slice none 0 0, .slice none 0 0, .string ⟨#[]⟩, .string ⟨#[]⟩, .int .i64 0]) [] :=
  ⟨_, _, _, _, [], [], rfl, ⟨_, _, _, [], [], [], rfl, .nil _, .nil _, .nil _, rfl⟩, .nil _, rfl⟩
theorem newC_own {w : World} {n : Net} {fs : List Fmt} {x1 x2 x4 : Value} {f1 f2 : List Nat} (h : NetO w n (.agg #[x1, x2]) f1) (h2 : Odt w (flt 2 fmE fs) x4 f2) : ConO w (newC n fs) (.agg #[x1, x2, .slice none 0 0, x4, .string ⟨#[]⟩, .string ⟨#[]⟩, .int .i64 0]) (f1 ++ f2) := by
  obtain ⟨u1, u2, g1, g2, e, a1, a2, rfl⟩ := h
  simp only [Value.agg.injEq, Array.mk.injEq, List.cons.injEq, and_true] at e
  obtain ⟨rfl, rfl⟩ := e
  exact ⟨x1, x2, _, x4, g1 ++ g2, f2, rfl, ⟨x1, x2, _, g1, g2, [], rfl, a1, a2, .nil _, by simp⟩, h2, rfl⟩
theorem newC_rd {w : World} {n : Net} {fs : List Fmt} {x1 x2 x4 : Value} (h : NetR w (.agg #[x1, x2]) n) (h2 : Rdt w (flt 2 fmE fs) x4) : ConR w (.agg #[x1, x2, .slice none 0 0, x4, .string ⟨#[]⟩, .string ⟨#[]⟩, .int .i64 0]) (newC n fs) := by
  obtain ⟨u1, u2, e, a1, a2, hs⟩ := h
  simp only [Value.agg.injEq, Array.mk.injEq, List.cons.injEq, and_true] at e
  obtain ⟨rfl, rfl⟩ := e
  exact ⟨x1, x2, _, x4, rfl, ⟨x1, x2, _, rfl, a1, a2, .nil _, hs⟩, h2⟩
theorem Stx.con {w w' : World} {b : Nat} {new : Array Value} {T : TypeId} {c : Con} {v : Value} {fp : List Nat} (h : Stx w w' b new T) (ho : ConO w c v fp) (hb : b ∉ fp) : ConO w' c v fp := by
  obtain ⟨u1, u2, u3, u4, f1, f2, e, h1, h2, rfl⟩ := ho
  exact ⟨u1, u2, u3, u4, f1, f2, e, h.pln h1 (fun hk => hb (by simp [hk])), h.odt h2 (fun hk => hb (by simp [hk])), rfl⟩
theorem Stx.net {w w' : World} {b : Nat} {new : Array Value} {T : TypeId} {n : Net} {v : Value} {fp : List Nat} (h : Stx w w' b new T) (ho : NetO w n v fp) (hb : b ∉ fp) : NetO w' n v fp := by
  obtain ⟨u1, u2, f1, f2, e, h1, h2, rfl⟩ := ho
  exact ⟨u1, u2, f1, f2, e, h.odt h1 (fun hk => hb (by simp [hk])), h.odt h2 (fun hk => hb (by simp [hk])), rfl⟩
def StopC (p : Prop) : Prop := p
theorem NetO.kept' {w w' : World} {n : Net} {v : Value} {fp : List Nat} (h : NetO w n v fp) (hk : ∀ k ∈ fp, w'.heap[k]? = w.heap[k]?) : NetO w' n v fp := by
  obtain ⟨u1, u2, f1, f2, e, h1, h2, rfl⟩ := h
  exact ⟨u1, u2, f1, f2, e, h1.kept fun k hk2 => hk k (by simp [hk2]), h2.kept fun k hk2 => hk k (by simp [hk2]), rfl⟩
theorem StopC.go {p : Prop} (h : StopC p) : p := h
end Go.Proofs.YtonpcgdnfclidaaGreatDoor
namespace Go.Proofs.YtonpcgdnfclidaaGreatDoor
open Go.RowKit Go.Sort
set_option maxRecDepth 100000
open Cpy

def PlnP (n : Net) (w : World) (e : Ending) (w' : World) : Prop := ∃ x1 x2 fp, e = .returned (.agg #[x1, x2, .slice none 0 0]) ∧ NetO w' n (.agg #[x1, x2]) fp ∧ fp.Nodup ∧ (∀ k ∈ fp, w.heap.size ≤ k ∧ k < w'.heap.size) ∧ Below w.heap.size w w'
set_option maxHeartbeats 3200000 in
theorem l9Own0_any (u1 u2 : Value) (n : Net) (w : World) (h : NetR w (.agg #[u1, u2]) n) (h1 : n.ns.length ≤ 1048576) (h2 : n.fs.length ≤ 1048576) :
    Calls Tryz.prog 65 #[.agg #[u1, u2, .slice none 0 0]] w (PlnP n w) := by
  have HCP := Lib.hid (fun w' (hb : Below w.heap.size w w') => l2Own_any u1 u2 n w' (h.behind hb) h1 h2)
  obtain ⟨x1, x2, e, r1, r2, hsm⟩ := h
  simp only [Value.agg.injEq, Array.mk.injEq, List.cons.injEq, and_true] at e
  obtain ⟨rfl, rfl⟩ := e
  obtain ⟨a1, m1, c1, rfl⟩ := Rdt.slice (show Rdt w (.rows _ _) u1 from r1)
  obtain ⟨a2, m2, c2, rfl⟩ := Rdt.slice (show Rdt w (.rows _ _) u2 from r2)
  have b1 := (Below.refl w.heap.size w).alloc (Nat.le_refl _) (.cells #[.slice a1 m1 c1, .slice a2 m2 c2, .slice none 0 0] 41)
  have b2 := b1.alloc b1.size (.cells #[.slice none 0 0, .slice none 0 0, .slice none 0 0] 41)
  have k1 := (heap_alloc_old _ (.cells #[.slice none 0 0, .slice none 0 0, .slice none 0 0] 41) (by simp)).trans (heap_alloc_new w (.cells #[.slice a1 m1 c1, .slice a2 m2 c2, .slice none 0 0] 41))
  have k2 := heap_alloc_new (w.alloc (.cells #[.slice a1 m1 c1, .slice a2 m2 c2, .slice none 0 0] 41)) (.cells #[.slice none 0 0, .slice none 0 0, .slice none 0 0] 41)
  rw [show (w.alloc (.cells #[.slice a1 m1 c1, .slice a2 m2 c2, .slice none 0 0] 41)).heap.size = w.heap.size + 1 by simp] at k2
  have hz : ((w.alloc (.cells #[.slice a1 m1 c1, .slice a2 m2 c2, .slice none 0 0] 41)).alloc (.cells #[.slice none 0 0, .slice none 0 0, .slice none 0 0] 41)).heap.size = w.heap.size + 1 + 1 := by simp
  have HB2 := Lib.hid b2
  have K1 := Lib.hid k1
  have K2 := Lib.hid k2
  have HZ := Lib.hid hz
  obtain ⟨NP, hNP⟩ : ∃ NP, NP = PlnP n w := ⟨_, rfl⟩
  rw [← hNP]
  have HNP := Lib.hid hNP
  unfold CpyP at HCP
  clear b1 b2 k1 k2 hz r1 r2 hsm h1 h2 hNP
  go_enter Tryz.func65, Tryz.ntmps65
  go_wp2_with fail
  generalize (w.alloc (.cells #[.slice a1 m1 c1, .slice a2 m2 c2, .slice none 0 0] 41)).alloc (.cells #[.slice none 0 0, .slice none 0 0, .slice none 0 0] 41) = w2 at *
  refine (HCP.out w2 HB2.out).mono ?_
  rintro e w3 ⟨v3, fp, rfl, ho, hn, hlt, b3⟩
  obtain ⟨a5, n5, c5, a6, n6, c6, rfl⟩ := ho.form
  have k1 := kept_o' K1.out b3
  have hz3 : w.heap.size + 1 + 1 ≤ w3.heap.size := by have := b3.size; have := HZ.out; omega
  have b4 := (Below.refl w3.heap.size w3).alloc (Nat.le_refl _) (.cells #[.slice a5 n5 c5, .slice a6 n6 c6, .slice none 0 0] 41)
  have k4 := heap_alloc_new w3 (.cells #[.slice a5 n5 c5, .slice a6 n6 c6, .slice none 0 0] 41)
  have K4 := Lib.hid (kept_o' (kept_o' K2.out b3) b4)
  have q2 := blkc (kept_o' k1 b4) (j := 2) (u := .slice none 0 0) rfl
  have HB4 := Lib.hid ((HB2.out.trans (b3.mono HB2.out.size)).trans (b4.mono (HB2.out.trans (b3.mono HB2.out.size)).size))
  have HO4 := Lib.hid (ho.behind b4)
  have HN := Lib.hid hn
  have HL := Lib.hid (show ∀ k ∈ fp, w.heap.size + 1 + 1 ≤ k ∧ k < (w3.alloc (.cells #[.slice a5 n5 c5, .slice a6 n6 c6, .slice none 0 0] 41)).heap.size from fun k hk => by have := hlt k hk; have := HZ.out; have := b4.size; omega)
  have y0 := blkc k4 (j := 0) (u := .slice a5 n5 c5) rfl
  have y1 := blkc k4 (j := 1) (u := .slice a6 n6 c6) rfl
  have y2 := blkc k4 (j := 2) (u := .slice none 0 0) rfl
  clear b3 b4 ho hn hlt k1 k4
  go_wp2
  generalize w3.alloc (.cells #[.slice a5 n5 c5, .slice a6 n6 c6, .slice none 0 0] 41) = w4 at *
  go_loopw [4] (fun i wr => i = .int .i64 0 ∧ wr = w4) (fun _ _ => 0)
  case atStart => exact ⟨rfl, rfl⟩
  case round =>
    obtain ⟨rfl, rfl⟩ := hrel
    go_wp2_with ((show wpList _ _ _ (⟨none, .store 41 _ _, _, _, _, _⟩ :: _) _ _); refine wpList_stx rfl 41 _ _ rfl (w.heap.size + 1) 0 [.slice a5 n5 c5, .slice a6 n6 c6, .slice none 0 0] rfl rfl K4.out (by simp) (by kernel_rfl) (by simp [Value.oneCell']) ?_; intro w8 hs; have n2 := hs.blk; have HO8 := Lib.hid (hs.net HO4.out (fun hk => by have := HL.out _ hk; omega)); have HZ8 := Lib.hid hs.size; have HB8 := Lib.hid (hs.below w.heap.size w (by omega) HB4.out); clear hs; have t0 := blkp n2 (j := 0) (u := .slice a5 n5 c5) rfl (by decide); have t1 := blkp n2 (j := 1) (u := .slice a6 n6 c6) rfl (by decide); have t2 := blkp n2 (j := 2) (u := .slice none 0 0) rfl (by decide))
    rw [HNP.out]
    exact bodyPost_ret (v := .agg #[.slice a5 n5 c5, .slice a6 n6 c6, .slice none 0 0]) (by simp [results, Tryz.results65, go_sem, t0, t1, t2]) rfl ⟨_, _, fp, rfl, HO8.out, HN.out, (fun k hk => by have h1 := HL.out k hk; have := HZ8.out; omega), HB8.out⟩
end Go.Proofs.YtonpcgdnfclidaaGreatDoor
namespace Go.Proofs.YtonpcgdnfclidaaGreatDoor
open Go.RowKit

section
variable {P : Program} {ops : Array Oper} {Q : Exit → Act → World → Prop} {md : Region.Mode} {S : World → Prop} {U : List Nat}
/-- One of the operations U has not come up yet. -/
def lft (U : List Nat) (listed : Array Bool) : Bool := U.any fun k => !listed.getD k true
/-- One of the operations U that has not come up yet waits for number i. -/
def waits (md : Region.Mode) (ops : Array Oper) (U : List Nat) (listed : Array Bool) (i : Nat) : Bool := U.any fun m => !listed.getD m true && m != i && ((ops[m]?).map (·.after.any fun e => Region.binds md e && e.on == i)).getD false
theorem lft_of {listed : Array Bool} {m : Nat} (hm : m ∈ U) (hl : listed.getD m true = false) : lft U listed = true := by
  unfold lft
  exact List.any_eq_true.2 ⟨m, hm, by rw [hl]; rfl⟩
theorem waits_iff {listed : Array Bool} {i : Nat} : waits md ops U listed i = true ↔ ∃ m om, m ∈ U ∧ ops[m]? = some om ∧ m ≠ i ∧ listed.getD m true = false ∧ ∃ e ∈ om.after, Region.binds md e = true ∧ e.on = i := by
  unfold waits
  rw [List.any_eq_true]
  constructor
  · rintro ⟨m, h1, h2⟩
    simp only [Bool.and_eq_true, Bool.not_eq_true', bne_iff_ne, ne_eq] at h2
    obtain ⟨⟨h3, h4⟩, h5⟩ := h2
    cases ho : ops[m]? with
    | none => rw [ho] at h5; cases h5
    | some om =>
      rw [ho] at h5
      obtain ⟨e, he, hb⟩ := Array.any_eq_true'.1 (show om.after.any (fun e => Region.binds md e && e.on == i) = true from h5)
      simp only [Bool.and_eq_true, beq_iff_eq] at hb
      exact ⟨m, om, h1, ho, h4, h3, e, he, hb.1, hb.2⟩
  · rintro ⟨m, om, h1, ho, h4, h3, e, he, hb1, hb2⟩
    refine ⟨m, h1, ?_⟩
    simp only [Bool.and_eq_true, Bool.not_eq_true', bne_iff_ne, ne_eq]
    refine ⟨⟨h3, h4⟩, ?_⟩
    rw [ho]
    show om.after.any (fun e => Region.binds md e && e.on == i) = true
    exact Array.any_eq_true'.2 ⟨e, he, by simp [hb1, hb2]⟩
/-- Whatever order is picked, and S holds behind every operation behind which something is left to do. -/
def wpAnyL (P : Program) (md : Region.Mode) (ops : Array Oper) (U : List Nat) (Q : Exit → Act → World → Prop) (S : World → Prop) : Nat → Array Bool → Act → World → Prop
  | 0, listed, a, w => Region.ready md ops listed = [] ∧ Q .normal a w
  | fuel + 1, listed, a, w =>
    (Region.ready md ops listed = [] → Q .normal a w) ∧
    ∀ i ∈ Region.ready md ops listed, wpOp P ops Q i (fun a' w' => (lft U (listed.setIfInBounds i true) = true → S w') ∧ wpAnyL P md ops U Q S fuel (listed.setIfInBounds i true) a' w') a w
theorem wpAny_of_L : ∀ (fuel : Nat) (listed : Array Bool) (a : Act) (w : World), wpAnyL P md ops U Q S fuel listed a w → wpAny P md ops Q fuel listed a w
  | 0, _, _, _, h => h
  | fuel + 1, _, _, _, h => ⟨h.1, fun i hi => wpOp_mono (fun a' w' h' => wpAny_of_L fuel _ a' w' h'.2) (h.2 i hi)⟩
theorem wpAnyL_first {i : Nat} {oi : Oper} {v : Value} (hi : ops[i]? = some oi) (hsel : ∀ (j : Nat) (o : Oper) cs b, ops[j]? = some o → o.op ≠ .select cs b)
    (hQ : ∀ c a w, Q (.panic c) (a.put oi.dst v) w → Q (.panic c) a w) :
    ∀ (fuel : Nat) (listed : Array Bool) (a : Act) (w : World),
      (∀ j oj, ops[j]? = some oj → j ≠ i → listed.getD j true = false → (∀ e ∈ oj.after, Region.binds md e = true → e.on ≠ i) → oi.apart ops oj = true) →
      i ∈ Region.ready md ops listed → waits md ops U listed i = true → YieldsIf P ops S oi v a → S w →
      wpAnyL P md ops U Q S fuel (listed.setIfInBounds i true) (a.put oi.dst v) w → wpAnyL P md ops U Q S (fuel + 1) listed a w := by
  intro fuel
  induction fuel with
  | zero =>
    intro listed a w _ hr _ hy hS H
    refine ⟨fun h => (by rw [h] at hr; cases hr), fun j hj => ?_⟩
    by_cases hji : j = i
    · subst hji; exact hy.wpOp hi hS ⟨fun _ => hS, H⟩
    · have := ready_mono hj hji
      rw [H.1] at this
      cases this
  | succ fuel ih =>
    intro listed a w hfree hr hwt hy hS H
    refine ⟨fun h => (by rw [h] at hr; cases hr), fun j hj => ?_⟩
    by_cases hji : j = i
    · subst hji; exact hy.wpOp hi hS ⟨fun _ => hS, H⟩
    · have h1 := H.2 j (ready_mono hj hji)
      obtain ⟨hjun, oj, hoj, hall⟩ := mem_ready.1 hj
      have hnot : ∀ e ∈ oj.after, Region.binds md e = true → e.on ≠ i := fun e he hb heq => by
        have h1 := hall e he hb
        have h0 := (mem_ready.1 hr).1
        rw [heq] at h1
        rcases Nat.lt_or_ge i listed.size with h' | h'
        · simp [h'] at h0 h1; rw [h0] at h1; cases h1
        · simp [Array.getElem?_eq_none h'] at h1
      have h2 := wpOp_putIf hoj (hfree j oj hoj hji hjun hnot) (fun cs b => hsel i oi cs b hi) (fun cs b => hsel j oj cs b hoj) hQ hy h1
      have hfree' : ∀ k ok, ops[k]? = some ok → k ≠ i → (listed.setIfInBounds j true).getD k true = false →
          (∀ e ∈ ok.after, Region.binds md e = true → e.on ≠ i) → oi.apart ops ok = true := fun k ok hk hki hun hno => by
        refine hfree k ok hk hki ?_ hno
        by_cases hjk : j = k
        · subst hjk; exact hjun
        · rw [getD_set_ne true hjk] at hun; exact hun
      obtain ⟨m, om, hmU, hom, hmi, hml, e, he, hb1, hb2⟩ := waits_iff.1 hwt
      have hmj : j ≠ m := fun h => by
        subst h
        rw [hoj] at hom
        cases hom
        exact hnot e he hb1 hb2
      have hml2 : (listed.setIfInBounds j true).getD m true = false := by rw [getD_set_ne true hmj]; exact hml
      have hwt2 : waits md ops U (listed.setIfInBounds j true) i = true := waits_iff.2 ⟨m, om, hmU, hom, hmi, hml2, e, he, hb1, hb2⟩
      have hl2 : lft U ((listed.setIfInBounds i true).setIfInBounds j true) = true :=
        lft_of hmU (by rw [getD_set_ne true hmj, getD_set_ne true (Ne.symm hmi)]; exact hml)
      refine wpOp_mono (fun a' w' h3 => ⟨fun _ => h3.2.1 hl2, ih (listed.setIfInBounds j true) a' w' hfree' (ready_mono hr (Ne.symm hji)) hwt2 h3.1 (h3.2.1 hl2) ?_⟩) h2
      rw [Array.setIfInBounds_comm _ _ hji]
      exact h3.2.2
theorem get_of_drop {i : Nat} {o : Oper} {tl : List Oper} (h : ops.toList.drop i = o :: tl) : ops[i]? = some o := by
  have : (ops.toList.drop i)[0]? = some o := by rw [h]; rfl
  rw [List.getElem?_drop, Nat.add_zero] at this
  simpa using this
/-- An operation that yields the same in every world that meets S is taken first. -/
theorem hlTake (i : Nat) {oi : Oper} {v : Value} {fuel : Nat} {listed : Array Bool} {a : Act} {w : World} {tl : List Oper} (hi : ops.toList.drop i = oi :: tl)
    (hs : Region.noSelect ops = true) (hf : Region.free md ops listed i = true) (hr : (Region.ready md ops listed).contains i = true) (hwt : waits md ops U listed i = true)
    (hQ : ∀ c a w, Q (.panic c) (a.put oi.dst v) w → Q (.panic c) a w) (hw : Region.wanted oi (yielded ops a.tmps) = true) (hy : ∀ w, S w → (execOp a.eval oi).run P w = .ok (.value v) w) (hS : S w)
    (h : wpAnyL P md ops U Q S fuel (listed.setIfInBounds i true) (a.put oi.dst v) w) : wpAnyL P md ops U Q S (fuel + 1) listed a w :=
  wpAnyL_first (get_of_drop hi) (Region.noSelect_spec hs) hQ fuel listed a w (Region.free_spec (get_of_drop hi) hf) (by simpa using hr) hwt (.inl ⟨hw, hy⟩) hS h
def AllReadyL (P : Program) (md : Region.Mode) (ops : Array Oper) (U : List Nat) (Q : Exit → Act → World → Prop) (S : World → Prop) (fuel : Nat) (listed : Array Bool) (a : Act) (w : World) (rs : List Nat) : Prop :=
  ∀ i ∈ rs, wpOp P ops Q i (fun a' w' => (lft U (listed.setIfInBounds i true) = true → S w') ∧ wpAnyL P md ops U Q S fuel (listed.setIfInBounds i true) a' w') a w
theorem AllReadyL.nil {fuel : Nat} {listed : Array Bool} {a : Act} {w : World} : AllReadyL P md ops U Q S fuel listed a w [] := fun _ h => by cases h
theorem AllReadyL.cons {fuel : Nat} {listed : Array Bool} {a : Act} {w : World} {i : Nat} {o : Oper} {rs : List Nat} {tl : List Oper} (ho : ops.toList.drop i = o :: tl)
    (h : ∀ K' : Act → World → Prop, Shut (∀ a w, S w → (S w → wpAnyL P md ops U Q S fuel (listed.setIfInBounds i true) a w) → K' a w) → if Region.wanted o (yielded ops a.tmps) = true then Oper.wp P o a w K' Q else K' (a.put o.dst undef) w)
    (hs : AllReadyL P md ops U Q S fuel listed a w rs) : AllReadyL P md ops U Q S fuel listed a w (i :: rs) := fun j hj => by
  rcases List.mem_cons.1 hj with rfl | hj
  · exact wpOp_step (get_of_drop ho) (fun K' hK => h K' (fun a w hS hW => hK a w ⟨fun _ => hS, hW hS⟩))
  · exact hs j hj
theorem hlReady {rs : List Nat} {fuel : Nat} {listed : Array Bool} {a : Act} {w : World} (hr : Region.ready md ops listed = rs) (hne : rs ≠ [])
    (h : AllReadyL P md ops U Q S fuel listed a w rs) : wpAnyL P md ops U Q S (fuel + 1) listed a w :=
  ⟨fun h0 => absurd (hr ▸ h0) hne, hr ▸ h⟩
/-- An operation behind which S is not asked for. -/
theorem hlStep (i : Nat) {fuel : Nat} {listed : Array Bool} {a : Act} {w : World} {o : Oper} {tl : List Oper} (ho : ops.toList.drop i = o :: tl) (hr : Region.ready md ops listed = [i]) (hl : lft U (listed.setIfInBounds i true) = false)
    (h : ∀ K' : Act → World → Prop, Shut (∀ a w, wpAnyL P md ops U Q S fuel (listed.setIfInBounds i true) a w → K' a w) → if Region.wanted o (yielded ops a.tmps) = true then Oper.wp P o a w K' Q else K' (a.put o.dst undef) w) : wpAnyL P md ops U Q S (fuel + 1) listed a w :=
  hlReady hr (by simp) fun j hj => by
    obtain rfl : j = i := by simpa using hj
    exact wpOp_step (get_of_drop ho) (fun K' hK => h K' (fun a w hW => hK a w ⟨fun h => (by rw [hl] at h; cases h), hW⟩))
/-- All have come up. -/
theorem hlDone {listed : Array Bool} {a : Act} {w : World} (hr : Region.ready md ops listed = []) (h : Q .normal a w) : ∀ fuel, wpAnyL P md ops U Q S fuel listed a w
  | 0 => ⟨hr, h⟩
  | _ + 1 => ⟨fun _ => h, by rw [hr]; simp⟩
theorem wp_region_L (U : List Nat) {id : Nat} {a : Act} {w : World} (hm : P.follows .mixedOrders = true) (hS : S w.drew)
    (h : S w.drew → wpAnyL P .any ops U Q S ops.size (Array.replicate ops.size false) a w.drew) : (Code.region id ops true).wp P Q a w :=
  wp_region_any hm (wpAny_of_L _ _ _ _ (h hS))
end
end Go.Proofs.YtonpcgdnfclidaaGreatDoor
