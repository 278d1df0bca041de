/- Joined: XPlnP XExa XIss XHas XPsh XRou XVis. -/
import Derived.Test.YtonpcgdnfclidaaGreatDoorBh03
import Derived.Test.YtonpcgdnfclidaaGreatDoorBh04
import Derived.Test.YtonpcgdnfclidaaGreatDoorBh01
import Derived.Test.YtonpcgdnfclidaaGreatDoorBh02
import Derived.ArgAppend
import Derived.Lib.QuietBelow
import Derived.Deep.RegionLaw
import Derived.Deep.CutRange
namespace Go.Proofs.YtonpcgdnfclidaaGreatDoor
open Go.RowKit

/-! ### Routes -/
structure Rou where
  st : Int
  fb : List Int
/-- The node at the other end of a fiber, or -1. -/
def othE (f : Fib) (node : Int) : Int := if node = f.a then f.b else if node = f.b then f.a else -1
/-- The nodes of a route, on from those that have been visited, the last of which is 'at'. -/
def wlk (n : Net) : List Int → Int → List Int → Option (List Int)
  | out, _, [] => some out
  | out, t, i :: is => if inB i 0 ((n.fs.length : Int) - 1) then (if othE (fbA n i.toNat) t < 0 ∨ othE (fbA n i.toNat) t ∈ out then none else wlk n (out ++ [othE (fbA n i.toNat) t]) (othE (fbA n i.toNat) t) is) else none
def rouN (n : Net) (r : Rou) : Option (List Int) := if inB r.st 0 ((n.ns.length : Int) - 1) && !r.fb.isEmpty then wlk n [r.st] r.st r.fb else none
def rouOk (n : Net) (r : Rou) : Bool := (rouN n r).isSome
theorem wlk_step {n : Net} {out : List Int} {t : Int} {xs : List Int} {k : Nat} (hk : k < xs.length) : wlk n out t (xs.drop k) = (if inB (xs[k]?.getD 0) 0 ((n.fs.length : Int) - 1) then (if othE (fbA n (xs[k]?.getD 0).toNat) t < 0 ∨ othE (fbA n (xs[k]?.getD 0).toNat) t ∈ out then none else wlk n (out ++ [othE (fbA n (xs[k]?.getD 0).toNat) t]) (othE (fbA n (xs[k]?.getD 0).toNat) t) (xs.drop (k + 1))) else none) := by
  rw [List.drop_eq_getElem_cons hk, List.getElem?_eq_getElem hk]
  rfl

/-! ### Blocks -/
def blkOk (f c : Int) : Bool := decide (0 ≤ f) && (inB c 1 24 && decide (f ≤ 24 - c))
theorem blkOk_bd {f c : Int} (h : blkOk f c = true) : 0 ≤ f ∧ 1 ≤ c ∧ f + c ≤ 24 := by
  unfold blkOk at h
  simp only [Bool.and_eq_true, decide_eq_true_eq] at h
  have := inB_true h.2.1
  omega
/-- The mask of a block. -/
def mskN (f c : Nat) : Nat := (2 ^ c - 1) * 2 ^ f
/-! ### Lights -/
structure Lgt where
  id : Int
  st : Int
  fb : List Int
  fi : Int
  ct : Int
def nilL : Lgt := ⟨0, 0, [], 0, 0⟩
def lgtD (x : Lgt) : List Dt := [.leaf (.int .i64 x.id), .leaf (.int .i64 x.st), inD x.fb, .leaf (.int .i64 x.fi), .leaf (.int .i64 x.ct)]
def lgtOk (n : Net) (x : Lgt) : Bool := rouOk n ⟨x.st, x.fb⟩ && inB x.id 1 999 && blkOk x.fi x.ct
def meets (xs ys : List Int) : Bool := xs.any fun x => ys.contains x
/-- Do two blocks have a slot in common? -/
def hitB (x y : Lgt) : Bool := decide (x.fi < y.fi + y.ct ∧ y.fi < x.fi + x.ct)
def collB (x y : Lgt) : Bool := hitB x y && meets x.fb y.fb

/-! ### Plans -/
structure Pln where
  n : Net
  ls : List Lgt
abbrev lgA (p : Pln) (i : Nat) : Lgt := p.ls[i]?.getD nilL
def ltOk (p : Pln) (i : Nat) : Bool := lgtOk p.n (lgA p i) && (!(decide (0 < i) && decide ((lgA p i).id ≤ (lgA p (i - 1)).id)) && !((p.ls.take i).any fun y => collB y (lgA p i)))
def plnOk (p : Pln) : Bool := netOk p.n && (decide (p.ls.length ≤ 12) && (List.range p.ls.length).all (ltOk p))
/-- The value reads as the plan. -/
def PlnR (w : World) (v : Value) (p : Pln) : Prop := ∃ u1 u2 u3, v = .agg #[u1, u2, u3] ∧ Rdt w (flt 1 strE p.n.ns) u1 ∧ Rdt w (flt 4 fibE p.n.fs) u2 ∧ Rdt w (rws 5 lgtD p.ls) u3 ∧ ∀ i : Nat, (nmA p.n i).size ≤ 1048576
theorem PlnR.behind {w w' : World} {v : Value} {p : Pln} (h : PlnR w v p) (hb : Below w.heap.size w w') : PlnR w' v p := by
  obtain ⟨u1, u2, u3, e, h1, h2, h3, h4⟩ := h; exact ⟨u1, u2, u3, e, h1.behind hb, h2.behind hb, h3.behind hb, h4⟩
theorem PlnR.net {w : World} {u1 u2 u3 : Value} {p : Pln} (h : PlnR w (.agg #[u1, u2, u3]) p) : NetR w (.agg #[u1, u2]) p.n := by
  obtain ⟨x1, x2, x3, e, h1, h2, _, h4⟩ := h
  simp only [Value.agg.injEq, Array.mk.injEq, List.cons.injEq, and_true] at e
  obtain ⟨rfl, rfl, rfl⟩ := e
  exact ⟨_, _, rfl, h1, h2, h4⟩
end Go.Proofs.YtonpcgdnfclidaaGreatDoor
namespace Go.Proofs.YtonpcgdnfclidaaGreatDoor
open Go.RowKit Go.Sort
set_option maxRecDepth 100000

theorem Ofr.open {w : World} {base : Nat} {d : Dt} {v : Value} (h : Ofr w base d v) : ∃ fp, Odt w d v fp ∧ fp.Nodup ∧ ∀ k ∈ fp, base ≤ k ∧ k < w.heap.size := by
  obtain ⟨fp, h1, h2, h3⟩ := h; exact ⟨fp, h1, h2, fun k hk => ⟨h3 k hk, h1.lt k hk⟩⟩
theorem Own.odt {w : World} {base : Nat} {v : Value} {xs : List Int} (h : Own w base v xs) : Odt w (inD xs) v v.ownBlock.toList := by
  obtain ⟨fp, h1, h2, h3⟩ := h.tree
  have : fp = v.ownBlock.toList := by
    unfold inD at h1
    generalize hD : (xs.map fun x => Dt.leaf (.int .i64 x)) = ds at h1
    cases h1 with
    | nil size => rfl
    | @mk size n g off cap ds us fs cur T hl hu hf hn hc hg hcs ht hd =>
      have : fs.flatten = [] := by
        rw [List.flatten_eq_nil_iff]
        intro f hf'
        obtain ⟨j, hj, rfl⟩ := List.mem_iff_getElem.1 hf'
        have hjd : j < ds.length := by omega
        have h1 := hd j ds[j] us[j] fs[j] (List.getElem?_eq_getElem hjd) (List.getElem?_eq_getElem (by omega)) (List.getElem?_eq_getElem hj)
        have hx : j < xs.length := by rw [← hD] at hjd; simpa using hjd
        have e : ds[j] = .leaf (.int .i64 xs[j]) := by simp [← hD]
        rw [e] at h1
        exact h1.leaf_inv.2
      rw [this]; rfl
  rw [← this]; exact h1
theorem inD_fp {w : World} {v : Value} {xs : List Int} {f : List Nat} (h : Odt w (inD xs) v f) : f = v.ownBlock.toList := by
  unfold inD at h
  generalize hD : (xs.map fun x => Dt.leaf (.int .i64 x)) = ds at h
  cases h with
  | nil size => rfl
  | @mk size n g off cap ds us fs cur T hl hu hf hn hc hg hcs ht hd =>
    have : fs.flatten = [] := by
      rw [List.flatten_eq_nil_iff]
      intro f hf'
      obtain ⟨j, hj, rfl⟩ := List.mem_iff_getElem.1 hf'
      have hjd : j < ds.length := by omega
      have h1 := hd j ds[j] us[j] fs[j] (List.getElem?_eq_getElem hjd) (List.getElem?_eq_getElem (by omega)) (List.getElem?_eq_getElem hj)
      have hx : j < xs.length := by rw [← hD] at hjd; simpa using hjd
      have e : ds[j] = .leaf (.int .i64 xs[j]) := by simp [← hD]
      rw [e] at h1
      exact h1.leaf_inv.2
    rw [this]; rfl
theorem eqIntS_same (va vb : Value) (xs : List Int) (w : World) (ha : Rd w va xs) (hb : Rd w vb xs) :
    Calls Tryz.prog 153 #[va, vb] w fun e w' => e = .returned (.bool true) ∧ Below w.heap.size w w' := by
  refine (eqIntS_any va vb xs xs w ha hb).mono ?_
  rintro e w' ⟨rfl, n, rfl⟩
  rw [eqL_refl]
  exact ⟨rfl, ⟨rfl, rfl, rfl, Nat.le_refl _, fun _ _ => rfl⟩⟩
theorem markIntS_N (v : Value) (xs : List Int) (f : List Nat) (q : Nat) (w : World) (h : Odt w (inD xs) v f) (hq : 0 < q) (hq2 : q ≤ 1099511627776) (hl : xs.length ≤ 1073741824) :
    Calls Tryz.prog 97 #[v, .int .i64 (q : Int)] w fun e w' => e = .returned (.int .i64 ((q + xs.length : Nat) : Int)) ∧ Odt w' (inD (cnt (q : Int) xs.length)) v f ∧ Wr w w' f := by
  have ho := (h.toOwn (base := 0) (fun _ _ => Nat.zero_le _)).1
  have hf := inD_fp h
  refine (markIntS_any v xs q 0 w ho (by omega) (by omega)).mono ?_
  rintro e w' ⟨rfl, o, g⟩
  have hd := o.odt
  rw [← hf] at hd
  exact ⟨ret_int (by omega), hd, Wr.of_grown g (fun k hk => by rw [hf, hk]; simp)⟩
theorem heldIntS_N (v : Value) (q n : Nat) (w : World) (h : Rd w v (cnt (q : Int) n)) (hq : q ≤ 1099511627776) (hn : n ≤ 1073741824) :
    Calls Tryz.prog 100 #[v, .int .i64 (q : Int)] w fun e w' => e = .returned (.int .i64 ((q + n : Nat) : Int)) ∧ Below w.heap.size w w' := by
  refine (heldIntS_yes v q n w h (by omega) (by omega)).mono ?_
  rintro e w' ⟨rfl, hd⟩
  exact ⟨ret_int (by omega), hd.below (Below.refl _ _)⟩
end Go.Proofs.YtonpcgdnfclidaaGreatDoor
namespace Go.Proofs.YtonpcgdnfclidaaGreatDoor
open Go.RowKit Go.Sort
set_option maxRecDepth 100000

/-- Marking a list of integers in its own blocks. -/
theorem markIntS_odt (v : Value) (xs : List Int) (f : List Nat) (q : Int) (w : World) (h : Odt w (inD xs) v f) (hq : 0 ≤ q) (hq2 : q + xs.length ≤ 4611686018427387904) :
    Calls Tryz.prog 97 #[v, .int .i64 q] w fun e w' => e = .returned (.int .i64 (q + xs.length)) ∧ Odt w' (inD (cnt q xs.length)) v f ∧ Wr w w' f := by
  have ho := (h.toOwn (base := 0) (fun _ _ => Nat.zero_le _)).1
  have hf := inD_fp h
  refine (markIntS_any v xs q 0 w ho hq hq2).mono ?_
  rintro e w' ⟨rfl, o, g⟩
  have hd := o.odt
  rw [← hf] at hd
  exact ⟨rfl, hd, Wr.of_grown g (fun k hk => by rw [hf, hk]; simp)⟩
end Go.Proofs.YtonpcgdnfclidaaGreatDoor
namespace Go.Proofs.YtonpcgdnfclidaaGreatDoor
open Go.RowKit
set_option maxRecDepth 100000

/-- The first place of a number, or -1. -/
def plI (xs : List Int) (x : Int) : Int := match xs.findIdx? (fun s => s == x) with | some i => (i : Int) | none => -1
theorem plI_none {xs : List Int} {x : Int} (h : xs.any (fun s => s == x) = false) : plI xs x = -1 := by
  unfold plI
  rw [List.findIdx?_eq_none_iff.2 fun s hs => by
    have := (List.any_eq_false.1 h) s hs
    simpa using this]
theorem plI_some {xs : List Int} {x : Int} {k : Nat} (hk : k < xs.length) (h : (xs.take k).any (fun s => s == x) = false) (e : xs[k]?.getD 0 = x) : plI xs x = (k : Int) := by
  rw [List.getElem?_eq_getElem hk] at e
  unfold plI
  rw [List.findIdx?_eq_some_iff_getElem.2 ⟨hk, by simpa using e, fun j hj => by
    have := (List.any_eq_false.1 h) (xs[j]'(by omega)) (List.mem_take_iff_getElem.2 ⟨j, by omega, rfl⟩)
    simpa using this⟩]
theorem anyI_more {xs : List Int} {x : Int} {k : Nat} (hk : k < xs.length) (h : (xs.take k).any (fun s => s == x) = false) (e : xs[k]?.getD 0 ≠ x) : (xs.take (k + 1)).any (fun s => s == x) = false := by
  rw [List.getElem?_eq_getElem hk] at e
  rw [List.take_add_one, List.any_append, h, List.getElem?_eq_getElem hk]
  simpa using e
theorem plI_geq (xs : List Int) (x : Int) : decide (0 ≤ plI xs x) = xs.contains x := by
  cases h : xs.findIdx? (fun s => s == x) with
  | none =>
    have h0 := h
    rw [List.findIdx?_eq_none_iff] at h
    unfold plI
    rw [h0]
    have : xs.contains x = false := by
      rw [← Bool.not_eq_true, List.contains_iff_mem]
      intro hm
      have := h x hm
      simp at this
    rw [this]; rfl
  | some k =>
    have h0 := h
    rw [List.findIdx?_eq_some_iff_getElem] at h
    obtain ⟨hk, e, _⟩ := h
    unfold plI
    rw [h0]
    have : xs.contains x = true := by rw [List.contains_iff_mem]; have := List.getElem_mem hk; rw [eq_of_beq e] at this; exact this
    rw [this]; simp
theorem hasI_yes {xs : List Int} {x : Int} {k : Nat} (hk : k < xs.length) (e : xs[k]?.getD 0 = x) : xs.contains x = true := by
  rw [List.getElem?_eq_getElem hk] at e
  rw [List.contains_iff_mem, ← show xs[k] = x from e]; exact List.getElem_mem hk
theorem hasI_no {xs : List Int} {x : Int} (h : xs.any (fun s => s == x) = false) : xs.contains x = false := by
  rw [← Bool.not_eq_true, List.contains_iff_mem]
  intro hm
  have := (List.any_eq_false.1 h) x hm
  simp at this
set_option maxHeartbeats 1600000 in
theorem indexI_any (v : Value) (xs : List Int) (x : Int) (w : World) (h : Rd w v xs) :
    Calls Tryz.prog 145 #[v, .int .i64 x] w fun e w' => e = .returned (.int .i64 (plI xs x)) ∧ w = w' := by
  obtain ⟨a, cap, n, HN, rfl, _, hnl, ha⟩ := h.opn
  have HA := Lib.hid ha
  have HP := Lib.hid (fun k (hk : k < xs.length) => @plI_some xs x k hk)
  have HM := Lib.hid (fun k (hk : k < xs.length) => @anyI_more xs x k hk)
  have HO := Lib.hid (@plI_none xs x)
  clear ha h
  generalize plI xs x = r at *
  go_enter Tryz.func145, Tryz.ntmps145
  go_wp2
  go_loop [5, 8] (fun _ i => ∃ k : Nat, k ≤ n ∧ i = .int .i64 k ∧ Hid ((xs.take k).any (fun s => s == x) = false)) (fun _ i => n - (intOf i).toNat)
  case atStart => exact ⟨0, Nat.zero_le _, rfl, by simp [Hid]⟩
  case round =>
    obtain ⟨k, hk, rfl, HT⟩ := hrel
    by_cases hlt : k < n
    · have hltI : (k : Int) < (n : Int) := by omega
      have hkx : k < xs.length := by rw [HN.out]; exact hlt
      obtain ⟨b, off, rfl, hbs, hcs⟩ := HA.out (by omega)
      have hc0 := hcs k hlt
      have HP1 := Lib.hid (HP.out k hkx HT.out)
      have HM1 := Lib.hid (HM.out k hkx HT.out)
      clear hcs hkx
      generalize xs[k]?.getD 0 = y at *
      by_cases he : y = x
      · have HE := Lib.hid (HP1.out he)
        have hb1 : (x == y) = true := by simp [he]
        have hb2 : (y == x) = true := by simp [he]
        clear he
        go_wp2
        go_ret
        exact ⟨by rw [HE.out]; rfl, rfl⟩
      · have HE := Lib.hid (HM1.out he)
        have hb1 : (x == y) = false := by simp; exact fun e => he e.symm
        have hb2 : (y == x) = false := by simp [he]
        clear he
        go_wp2
        go_round
        case rel => exact ⟨k + 1, by omega, by go_num, HE.out⟩
        case measure => simp [intOf]; omega
    · obtain rfl : k = n := by omega
      have hall := HT.out
      rw [← HN.out, List.take_length] at hall
      have HE := Lib.hid (HO.out hall)
      clear hall
      go_wp2
      go_ret
      exact ⟨by rw [HE.out]; rfl, rfl⟩
theorem containsI_any (v : Value) (xs : List Int) (x : Int) (w : World) (h : Rd w v xs) :
    Calls Tryz.prog 123 #[v, .int .i64 x] w fun e w' => e = .returned (.bool (xs.contains x)) ∧ w = w' := by
  have HI := Lib.hid (indexI_any v xs x w h)
  have HG := Lib.hid (plI_geq xs x)
  generalize plI xs x = r at *
  generalize xs.contains x = q at *
  obtain ⟨a, cap, n, -, rfl, -, -, -⟩ := h.opn
  clear h
  go_enter Tryz.func123, Tryz.ntmps123
  go_wp2_with (go_at_call 145; refine (HI.out).mono ?_; rintro e w' ⟨rfl, rfl⟩)
  go_ret
  exact ⟨by rw [← HG.out]; rfl, rfl⟩
set_option maxHeartbeats 1600000 in
theorem l1Has_any (v : Value) (xs : List Int) (x : Int) (w : World) (h : Rd w v xs) :
    Calls Tryz.prog 140 #[v, .int .i64 x] w fun e w' => e = .returned (.bool (xs.contains x)) ∧ w = w' := by
  obtain ⟨a, cap, n, HN, rfl, _, hnl, ha⟩ := h.opn
  have HA := Lib.hid ha
  have HP := Lib.hid (fun k (hk : k < xs.length) => @hasI_yes xs x k hk)
  have HM := Lib.hid (fun k (hk : k < xs.length) => @anyI_more xs x k hk)
  have HO := Lib.hid (@hasI_no xs x)
  clear ha h
  generalize xs.contains x = r at *
  go_enter Tryz.func140, Tryz.ntmps140
  go_wp2
  go_loop [5] (fun i => ∃ k : Nat, k ≤ n ∧ i = .int .i64 k ∧ Hid ((xs.take k).any (fun s => s == x) = false)) (fun i => n - (intOf i).toNat)
  case atStart => exact ⟨0, Nat.zero_le _, rfl, by simp [Hid]⟩
  case round =>
    obtain ⟨k, hk, rfl, HT⟩ := hrel
    by_cases hlt : k < n
    · have hltI : (k : Int) < (n : Int) := by omega
      have hkx : k < xs.length := by rw [HN.out]; exact hlt
      obtain ⟨b, off, rfl, hbs, hcs⟩ := HA.out (by omega)
      have hc0 := hcs k hlt
      have HP1 := Lib.hid (HP.out k hkx)
      have HM1 := Lib.hid (HM.out k hkx HT.out)
      clear hcs hkx
      generalize xs[k]?.getD 0 = y at *
      by_cases he : y = x
      · have HE := Lib.hid (HP1.out he)
        have hb2 : (y == x) = true := by simp [he]
        clear he
        go_wp2
        go_ret
        exact ⟨by rw [HE.out]; rfl, rfl⟩
      · have HE := Lib.hid (HM1.out he)
        have hb2 : (y == x) = false := by simp [he]
        clear he
        go_wp2
        go_round
        case rel => exact ⟨k + 1, by omega, by go_num, HE.out⟩
        case measure => simp [intOf]; omega
    · obtain rfl : k = n := by omega
      have hall := HT.out
      rw [← HN.out, List.take_length] at hall
      have HE := Lib.hid (HO.out hall)
      clear hall
      go_wp2
      go_ret
      exact ⟨by rw [HE.out]; rfl, rfl⟩
end Go.Proofs.YtonpcgdnfclidaaGreatDoor
namespace Go.Proofs.YtonpcgdnfclidaaGreatDoor
open Go.RowKit

theorem Own.pushed' {w : World} {base : Nat} {v : Value} {xs : List Int} {g off n cap : Nat} (h : Own w base v xs) (hv : v = .slice (some ⟨g, off, none⟩) n cap) (hc : n + 1 ≤ cap) (u : Int) :
    Own (w.setCell ⟨g, off + n, none⟩ (.int .i64 u)) base (.slice (some ⟨g, off, none⟩) (n + 1) cap) (xs ++ [u]) ∧ w.grownBy (w.setCell ⟨g, off + n, none⟩ (.int .i64 u)) (some g) := by
  rcases h with ⟨rfl, rfl⟩ | ⟨g', off', cap', cur, hv', hb, ⟨T, hg⟩, h1, h2, h3, h4⟩
  · simp at hv
  · rw [hv'] at hv
    simp only [Value.slice.injEq, Option.some.injEq, Addr.mk.injEq, and_true] at hv
    obtain ⟨⟨rfl, rfl⟩, rfl, rfl⟩ := hv
    refine ⟨.inr ⟨g', off', cap', cur.setIfInBounds (off' + xs.length) (.int .i64 u), by simp, hb, ⟨T, heap_setCell_same w g' (off' + xs.length) cur _ _ hg⟩, by simpa using hc, h2, by simpa using h3, ?_⟩,
      ⟨rfl, rfl, rfl, by simp, fun k _ hk => heap_setCell_other w ⟨g', off' + xs.length, none⟩ k _ (fun e => hk (by simp [e]))⟩⟩
    have hlt : xs.length < (cur.toList.drop off').length := by simp; omega
    rw [Array.toList_setIfInBounds, List.length_append]
    show List.take (xs.length + 1) (List.drop off' (cur.toList.set (off' + xs.length) (.int .i64 u))) = (xs ++ [u]).map (Value.int .i64)
    rw [List.map_append]
    show _ = ints xs ++ [Value.int .i64 u]
    rw [← h4, List.drop_set, if_neg (by omega), Nat.add_sub_cancel_left, List.take_add_one, List.getElem?_set_self hlt, List.take_set, List.set_eq_of_length_le (by simp; omega)]
    rfl
/-- append of one integer to an own slice, nil too; the new element's block has just been laid. -/
theorem wpList_pushI {P : Program} {ops : Array Oper} {rest : List Oper} {o : Oper} {a : Act} {Q : Exit → Act → World → Prop} {wr : World} {y : Int} (hgd : o.guard = none) (s x : Operand) (T : TypeId)
    (ho : o.op = .call { callee := .builtin .append, args := #[s, x], argTypes := #[T, T] }) (ht : P.underlying T = some (.slice 3))
    (hinfo : (P.info? 3).map (fun i => (i.zero, i.size, i.bytes)) = some (some (.int .i64 0), 1, 8))
    (base : Nat) (v : Value) (xs : List Int) (hs : a.eval s = v) (hown : Own wr base v xs)
    (hx : a.eval x = .slice (some ⟨wr.heap.size, 0, none⟩) 1 1) (hn : xs.length ≤ 4000000) (hbase : base ≤ wr.heap.size)
    (h : ∀ v' w', Own w' base v' (xs ++ [y]) → wr.grownBy w' v.ownBlock → (∀ g, v'.ownBlock = some g → v.ownBlock = some g ∨ wr.heap.size ≤ g) → wpList P ops Q rest (a.put o.dst v') w') :
    wpList P ops Q (o :: rest) a (wr.alloc (.cells #[.int .i64 y] 3)) := by
  have h0 := hown
  rcases hown with ⟨rfl, rfl⟩ | ⟨g, f, cap, cur, rfl, hb, ⟨T', hg⟩, h1, h2, h3, h4⟩
  · obtain ⟨i0, hi, hz0, hz1, hz2⟩ := info_parts hinfo
    have hr : (wr.alloc (.cells #[.int .i64 y] 3)).ownsRow wr.heap.size 3 1 (.slice none 0 0) 0 (ints []) := ⟨by simp, .inl ⟨rfl, rfl⟩⟩
    refine wpList_append_own _ hgd s x T ho wr.heap.size 3 i0 (.int .i64 0) 1 8 ht hi hz0 hz1 hz2 rfl (by decide) (.slice none 0 0) 0 (ints []) hs hr ⟨wr.heap.size, 0, none⟩ 1 1 [.int .i64 y] hx rfl ?_ ?_ (by unfold maxLen; omega) (by omega) (by simp) ?_
    · intro j u hu
      rcases j with _ | j
      · simp at hu; subst hu
        simp [Addr.add, World.cell?_alloc_at]
      · simp at hu
    · intro u hu; simp at hu; subst hu; rfl
    · intro v' w' g1 g2 _
      have g3 : w'.ownsRow wr.heap.size 3 1 v' (0 + 1) (ints ([] ++ [y])) := by simpa [ints] using g1
      have o3 := own_of_row g3
      exact h v' w' (o3.mono hbase) ((World.grownBy_alloc _ _ _).trans' g2) (fun g hg => .inr (o3.lt g hg).1)
  · obtain ⟨i0, hi, hz0, hz1, hz2⟩ := info_parts hinfo
    have hba : Below wr.heap.size wr (wr.alloc (.cells #[.int .i64 y] 3)) := (Below.refl _ _).alloc (Nat.le_refl _) _
    have ho2 := h0.belowAll hba
    obtain ⟨hl, hc⟩ := ho2.cellAt rfl
    have hg0 : wr.grownBy (wr.alloc (.cells #[.int .i64 y] 3)) (some g) := ⟨hba.os, hba.tape, hba.output, hba.size, fun k hk _ => hba.block k hk⟩
    refine wpList_append_arg _ hgd s x T ho 3 i0 (.int .i64 0) 1 8 ht hi hz0 hz1 hz2 rfl (by decide) g f xs.length cap (ints xs) hs (by simp) ?_ ⟨wr.heap.size, 0, none⟩ 1 1 [.int .i64 y] hx rfl ?_ ?_ ?_ (by unfold maxLen; omega) (by omega) ?_ ?_
    · intro j u hu
      have hj : j < xs.length := by have := (List.getElem?_eq_some_iff.1 hu).1; simpa using this
      rw [hc j hj, ← hu]
      simp [hj]
    · intro j u hu
      rcases j with _ | j
      · simp at hu; subst hu
        simp [Addr.add, World.cell?_alloc_at]
      · simp at hu
    · intro u hu
      simp at hu; subst hu; rfl
    · intro hr j hj
      obtain rfl : j = 0 := by simpa using hj
      have hblt : g < wr.heap.size := (Array.getElem?_eq_some_iff.1 hg).1
      have hg' : (wr.alloc (.cells #[.int .i64 y] 3)).heap[g]? = some (.cells cur T' (0, 0)) := (hba.block g hblt).trans hg
      refine ⟨?_, frozen_of_row _ _ _ _ _ hg'⟩
      rw [cell_of_row _ _ _ _ _ _ hg']
      simp; omega
    · intro hr
      have hst := ho2.pushed' rfl (by omega) y
      rw [show f + xs.length * 1 = f + xs.length from by omega]
      exact h _ _ hst.1 (hg0.trans' hst.2) (fun g' hg' => .inl (by simpa [Value.ownBlock] using hg'))
    · intro hr v' w' h1 h2
      have h3 : w'.ownsRow (wr.alloc (.cells #[.int .i64 y] 3)).heap.size 3 1 v' (xs.length + 1) (ints (xs ++ [y])) := by simpa [ints] using h1
      have o3 := own_of_row h3
      exact h v' w' (o3.mono (by simp; omega)) (hg0.trans' ⟨h2.os, h2.tape, h2.output, h2.size, fun k hk _ => h2.block k hk (by simp)⟩) (fun g' hg' => .inr (by have := (o3.lt g' hg').1; simp at this; omega))

theorem flat_put2 {fs : List (List Nat)} {f : List Nat} {lo j : Nat} (hn : fs.flatten.Nodup) (hlt : ∀ k ∈ fs.flatten, k < lo) (hj : j < fs.length) (hf : f.Nodup) (hge : ∀ k ∈ f, k ∈ fs[j] ∨ lo ≤ k) :
    (fs.set j f).flatten.Nodup ∧ ∀ k ∈ (fs.set j f).flatten, k ∈ fs.flatten ∨ lo ≤ k := by
  have hmem : ∀ k ∈ (fs.set j f).flatten, k ∈ fs.flatten ∨ lo ≤ k := fun k hk => by
    obtain ⟨i, hi, h2⟩ := mem_flat_get hk
    rw [List.length_set] at hi
    by_cases e : j = i
    · subst e; rw [List.getElem_set_self] at h2
      rcases hge k h2 with h3 | h3
      · exact .inl (List.mem_flatten.2 ⟨_, List.getElem_mem hj, h3⟩)
      · exact .inr h3
    · rw [List.getElem_set_ne e] at h2; exact .inl (List.mem_flatten.2 ⟨_, List.getElem_mem hi, h2⟩)
  refine ⟨?_, hmem⟩
  obtain ⟨h1, h2⟩ := nodup_flatten.1 hn
  rw [List.pairwise_iff_getElem] at h2
  have hlt' : ∀ i (hi : i < fs.length), ∀ k ∈ fs[i], k < lo := fun i hi k hk => hlt k (List.mem_flatten.2 ⟨_, List.getElem_mem hi, hk⟩)
  refine nodup_flatten.2 ⟨fun g hg => ?_, ?_⟩
  · obtain ⟨i, hi, rfl⟩ := List.mem_iff_getElem.1 hg
    rw [List.length_set] at hi
    by_cases e : j = i
    · subst e; rw [List.getElem_set_self]; exact hf
    · rw [List.getElem_set_ne e]; exact h1 _ (List.getElem_mem hi)
  · rw [List.pairwise_iff_getElem]
    intro a b ha hb hab x hx y hy
    rw [List.length_set] at ha hb
    by_cases ea : j = a
    · subst ea
      rw [List.getElem_set_self] at hx
      rw [List.getElem_set_ne (by omega)] at hy
      rcases hge x hx with h3 | h3
      · exact h2 j b ha hb hab x h3 y hy
      · have := hlt' b hb y hy; omega
    · rw [List.getElem_set_ne ea] at hx
      by_cases eb : j = b
      · subst eb
        rw [List.getElem_set_self] at hy
        rcases hge y hy with h3 | h3
        · exact h2 a j ha hb hab x hx y h3
        · have := hlt' a ha x hx; omega
      · rw [List.getElem_set_ne eb] at hy
        exact h2 a b ha hb hab x hx y hy
/-- An element of a row under way is turned, in its own blocks or into new ones, and stored. -/
theorem Grw.deep {w : World} {base size n : Nat} {T : TypeId} {v : Value} {ds : List Dt} (h : Grw w base T size v n ds) {j : Nat} {d : Dt} (hj : ds[j]? = some d) :
    ∃ g cap u f, v = .slice (some ⟨g, 0, none⟩) n cap ∧ w.cell? ⟨g, j, none⟩ = some u ∧ base ≤ g ∧ g < w.heap.size ∧ Odt w d u f ∧ f.Nodup ∧ (∀ k ∈ f, base ≤ k ∧ k < w.heap.size) ∧ g ∉ f ∧
      ∀ (w' : World) (d' : Dt) (u' : Value) (f' : List Nat), Odt w' d' u' f' → f'.Nodup → (∀ k ∈ f', k ∈ f ∨ w.heap.size ≤ k) → base ≤ w.heap.size → Wr w w' f →
        (∃ u0, w'.cell? ⟨g, j, none⟩ = some u0) ∧ w'.frozen? ⟨g, j, none⟩ = false ∧ Grw (w'.setCell ⟨g, j, none⟩ u') base T size v n (ds.set j d') := by
  obtain ⟨us, fs, h1, h2, h3, h4, h5, h6, h7⟩ := h
  have hjl : j < ds.length := (List.getElem?_eq_some_iff.1 hj).1
  have hju : us[j]? = some (us[j]'(by omega)) := List.getElem?_eq_getElem (by omega)
  have hjf : fs[j]? = some (fs[j]'(by omega)) := List.getElem?_eq_getElem (by omega)
  have hsub : ∀ k ∈ fs[j]'(by omega), k ∈ fs.flatten := fun k hk => List.mem_flatten.2 ⟨_, List.getElem_mem _, hk⟩
  have hlt : ∀ k ∈ fs.flatten, k < w.heap.size := Grw.flt h2 h3 h4
  rcases h1.2 with ⟨rfl, h0⟩ | ⟨g, cap, cur, rfl, q1, q2, q3, q4, q5, q6⟩
  · have := h1.1; rw [h0] at this; omega
  have hgf : g ∉ fs.flatten := h7 g rfl
  have hgl : g < w.heap.size := (Array.getElem?_eq_some_iff.1 q2).1
  obtain ⟨hn1, hn2⟩ := nodup_flatten.1 h5
  rw [List.pairwise_iff_getElem] at hn2
  have htk : (cur.toList.drop 0).take (n * size) = us := by rw [List.drop_zero]; exact q6
  refine ⟨g, cap, _, _, rfl, ?_, q1, hgl, h4 j d _ _ hj hju hjf, hn1 _ (List.getElem_mem _), fun k hk => ⟨h6 k (hsub k hk), hlt k (hsub k hk)⟩, fun e => hgf (hsub g e), fun w' d' u' f' hd hnd hnew hbase hw => ?_⟩
  · have := row_cell q2 htk hju h1.1
    rw [Nat.zero_add] at this; exact this
  have hg' : w'.heap[g]? = some (.cells cur T (0, 0)) := by rw [hw.block g hgl (fun e => hgf (hsub g e))]; exact q2
  have hcell : w'.cell? ⟨g, j, none⟩ = some (us[j]'(by omega)) := by
    have := row_cell hg' htk hju h1.1
    rw [Nat.zero_add] at this; exact this
  obtain ⟨p1, p2⟩ := flat_put2 h5 hlt (show j < fs.length by omega) hnd hnew
  have hset : ∀ k, k ≠ g → (w'.setCell ⟨g, j, none⟩ u').heap[k]? = w'.heap[k]? := fun k hk => heap_setCell_other w' ⟨g, j, none⟩ k u' hk
  have hgs : g ∉ (fs.set j f').flatten := fun e => by
    rcases p2 g e with e | e
    · exact hgf e
    · omega
  refine ⟨⟨_, hcell⟩, frozen_of_row _ _ _ _ _ hg', us.set j u', fs.set j f', ⟨by rw [List.length_set]; exact h1.1, .inr ⟨g, cap, cur.setIfInBounds j u', rfl, q1, heap_setCell_same w' g j cur T u' hg', q3, q4, by simpa using q5, ?_⟩⟩, by rw [List.length_set, List.length_set]; exact h2, by rw [List.length_set, List.length_set]; exact h3, fun i d2 u2 f2 e1 e2 e3 => ?_, p1, fun k hk => ?_, fun k hk => ?_⟩
  · rw [Array.toList_setIfInBounds, List.take_set, q6]
  · by_cases e : j = i
    · subst e
      rw [List.getElem?_set_self hjl] at e1
      rw [List.getElem?_set_self (by omega)] at e2
      rw [List.getElem?_set_self (by omega)] at e3
      cases e1; cases e2; cases e3
      exact hd.kept fun k hk => hset k (fun e => hgs (List.mem_flatten.2 ⟨f', List.mem_iff_getElem.2 ⟨j, by rw [List.length_set]; omega, List.getElem_set_self _⟩, by rw [← e]; exact hk⟩))
    · rw [List.getElem?_set_ne e] at e1 e2 e3
      have hil : i < fs.length := (List.getElem?_eq_some_iff.1 e3).1
      have e4 : fs[i] = f2 := (List.getElem?_eq_some_iff.1 e3).2
      have hd2 := h4 i d2 u2 f2 e1 e2 e3
      refine hd2.kept fun k hk => ?_
      have hkf : k ∈ fs.flatten := List.mem_flatten.2 ⟨f2, List.mem_of_getElem? e3, hk⟩
      rw [hset k (fun e => hgf (by rw [← e]; exact hkf)), hw.block k (hlt k hkf) (fun hk2 => ?_)]
      rw [← e4] at hk
      rcases Nat.lt_or_gt_of_ne e with hlt2 | hgt
      · exact hn2 j i (by omega) hil hlt2 k hk2 k hk rfl
      · exact hn2 i j hil (by omega) hgt k hk k hk2 rfl
  · rcases p2 k hk with e | e
    · exact h6 k e
    · omega
  · have : g = k := by simpa [Value.ownBlock] using hk
    rw [← this]; exact hgs
end Go.Proofs.YtonpcgdnfclidaaGreatDoor
namespace Go.Proofs.YtonpcgdnfclidaaGreatDoor
open Go.RowKit Go.Sort
set_option maxRecDepth 100000

theorem othE_a {f : Fib} {t : Int} (h : t = f.a) : othE f t = f.b := by unfold othE; rw [if_pos h]
theorem othE_b {f : Fib} {t : Int} (h : ¬ t = f.a) (h2 : t = f.b) : othE f t = f.a := by unfold othE; rw [if_neg h, if_pos h2]
theorem othE_no {f : Fib} {t : Int} (h : ¬ t = f.a) (h2 : ¬ t = f.b) : othE f t = -1 := by unfold othE; rw [if_neg h, if_neg h2]
theorem otherEnd_any (f : Fib) (t : Int) (w : World) :
    Calls Tryz.prog 122 #[fibV f, .int .i64 t] w fun e w' => e = .returned (.int .i64 (othE f t)) ∧ Below w.heap.size w w' := by
  unfold fibV
  have HA := Lib.hid (@othE_a f t)
  have HB := Lib.hid (@othE_b f t)
  have HN := Lib.hid (@othE_no f t)
  obtain ⟨bx, bc, -, -⟩ := box_facts w #[.int .i64 f.a, .int .i64 f.b, .int .i64 f.l, .int .i64 f.r] 110
  have q0 := bc 0 _ rfl
  have q1 := bc 1 _ rfl
  have HBX := Lib.hid bx
  clear bc bx
  generalize othE f t = o at *
  by_cases h1 : t = f.a
  · have HE := Lib.hid (HA.out h1)
    have b1 : (t == f.a) = true := by simp [h1]
    have b2 : decide (t = f.a) = true := by simp [h1]
    clear h1
    go_enter Tryz.func122, Tryz.ntmps122
    go_wp2
    go_ret
    exact ⟨by rw [HE.out]; rfl, HBX.out⟩
  have b1 : (t == f.a) = false := by simp [h1]
  have b2 : decide (t = f.a) = false := by simp [h1]
  by_cases h2 : t = f.b
  · have HE := Lib.hid (HB.out h1 h2)
    have b3 : (t == f.b) = true := by simp [h2]
    have b4 : decide (t = f.b) = true := by simp [h2]
    clear h1 h2
    go_enter Tryz.func122, Tryz.ntmps122
    go_wp2
    go_ret
    exact ⟨by rw [HE.out]; rfl, HBX.out⟩
  have b3 : (t == f.b) = false := by simp [h2]
  have b4 : decide (t = f.b) = false := by simp [h2]
  have HE := Lib.hid (HN.out h1 h2)
  clear h1 h2
  go_enter Tryz.func122, Tryz.ntmps122
  go_wp2
  go_ret
  exact ⟨by rw [HE.out]; rfl, HBX.out⟩
theorem l2Other_any (u1 u2 : Value) (n : Net) (k : Nat) (t : Int) (w : World) (h : Rdt w (flt 4 fibE n.fs) u2) (h1 : ∃ a m c, u1 = .slice a m c) (hk : k < n.fs.length) :
    Calls Tryz.prog 161 #[.agg #[u1, u2], .int .i64 k, .int .i64 t] w fun e w' => e = .returned (.int .i64 (othE (fbA n k) t)) ∧ Below w.heap.size w w' := by
  obtain ⟨a1, m1, c1, rfl⟩ := h1
  obtain ⟨a2, m2, c2, rfl, HN2, hc2, hm2, ha2⟩ := flt_opn (m := 4) (enc := fibE) (fun _ => rfl) (by omega) nilB h
  have hk2 : k < m2 := by have := HN2.out; omega
  obtain ⟨b, off, rfl, hbs, hcs⟩ := ha2 (by omega)
  obtain ⟨bx, bc, -, -⟩ := box_facts w #[.slice a1 m1 c1, .slice (some ⟨b, off, none⟩) m2 c2] 38
  have q0 := bc 0 _ rfl
  have q1 := bc 1 _ rfl
  have HBX := Lib.hid bx
  have e0 := (bx.cell (p := ⟨b, off + k * 4 + 0, none⟩) hbs).trans (hcs k hk2 0 _ rfl)
  have e1 := (bx.cell (p := ⟨b, off + k * 4 + 1, none⟩) hbs).trans (hcs k hk2 1 _ rfl)
  have e2 := (bx.cell (p := ⟨b, off + k * 4 + 2, none⟩) hbs).trans (hcs k hk2 2 _ rfl)
  have e3 := (bx.cell (p := ⟨b, off + k * 4 + 3, none⟩) hbs).trans (hcs k hk2 3 _ rfl)
  simp only [Nat.add_zero] at e0
  have hkI : (k : Int) < (m2 : Int) := by omega
  unfold fbA
  clear hcs bc bx ha2 h hk
  generalize n.fs[k]?.getD nilB = f at *
  have HA := Lib.hid (@othE_a f t)
  have HB := Lib.hid (@othE_b f t)
  have HN := Lib.hid (@othE_no f t)
  have HBY := Lib.hid (fun (w1 : World) => (box_facts w1 #[.int .i64 f.a, .int .i64 f.b, .int .i64 f.l, .int .i64 f.r] 110).1)
  generalize othE f t = o at *
  go_enter Tryz.func161, Tryz.ntmps161
  by_cases h1 : t = f.a
  · have HE := Lib.hid (HA.out h1)
    have b1 : (t == f.a) = true := by simp [h1]
    have b2 : decide (t = f.a) = true := by simp [h1]
    clear h1
    go_wp2
    go_ret
    exact ⟨by rw [HE.out]; rfl, HBX.out.trans ((HBY.out _).mono HBX.out.size)⟩
  have b1 : (t == f.a) = false := by simp [h1]
  have b2 : decide (t = f.a) = false := by simp [h1]
  by_cases h2 : t = f.b
  · have HE := Lib.hid (HB.out h1 h2)
    have b3 : (t == f.b) = true := by simp [h2]
    have b4 : decide (t = f.b) = true := by simp [h2]
    clear h1 h2
    go_wp2
    go_ret
    exact ⟨by rw [HE.out]; rfl, HBX.out.trans ((HBY.out _).mono HBX.out.size)⟩
  have b3 : (t == f.b) = false := by simp [h2]
  have b4 : decide (t = f.b) = false := by simp [h2]
  have HE := Lib.hid (HN.out h1 h2)
  clear h1 h2
  go_wp2
  go_ret
  exact ⟨by rw [HE.out]; rfl, HBX.out.trans ((HBY.out _).mono HBX.out.size)⟩
end Go.Proofs.YtonpcgdnfclidaaGreatDoor
namespace Go.Proofs.YtonpcgdnfclidaaGreatDoor
open Go.RowKit Go.Sort
set_option maxRecDepth 100000
theorem Tryz.infoI : (Tryz.prog.info? 3).map (fun i => (i.zero, i.size, i.bytes)) = some (some (.int .i64 0), 1, 8) := by kernel_rfl
/-- What the walk of a route answers. -/
def VisP (o : Option (List Int)) (w : World) (e : Ending) (w' : World) : Prop := ∃ v, e = .returned (.tuple #[v, .bool o.isSome]) ∧ (o.isSome = true → Own w' w.heap.size v (o.getD [])) ∧ (∃ a m c, v = .slice a m c) ∧ Below w.heap.size w w'
theorem VisP.no {o : Option (List Int)} {w w' : World} {a : Option Addr} {m c : Nat} (h : o = none) (hb : Below w.heap.size w w') : VisP o w (.returned (.tuple #[.slice a m c, .bool false])) w' := by
  subst h
  exact ⟨.slice a m c, rfl, (fun e => (by cases e)), ⟨_, _, _, rfl⟩, hb⟩
theorem VisP.yes {o : Option (List Int)} {w w' : World} {a : Option Addr} {m c : Nat} {xs : List Int} (h : o = some xs) (ho : Own w' w.heap.size (.slice a m c) xs) (hb : Below w.heap.size w w') : VisP o w (.returned (.tuple #[.slice a m c, .bool true])) w' := by
  subst h
  exact ⟨.slice a m c, rfl, fun _ => ho, ⟨_, _, _, rfl⟩, hb⟩
theorem rouN_no1 {n : Net} {r : Rou} (h : inB r.st 0 ((n.ns.length : Int) - 1) = false) : rouN n r = none := by unfold rouN; rw [h]; rfl
theorem rouN_no2 {n : Net} {r : Rou} (h : r.fb.length = 0) : rouN n r = none := by
  have : r.fb = [] := List.eq_nil_of_length_eq_zero h
  unfold rouN; rw [this]; simp
theorem rouN_go {n : Net} {r : Rou} (h : inB r.st 0 ((n.ns.length : Int) - 1) = true) (h2 : r.fb.length ≠ 0) : rouN n r = wlk n [r.st] r.st r.fb := by
  have : r.fb.isEmpty = false := by cases hh : r.fb <;> simp_all
  unfold rouN; rw [h, this]; rfl
theorem own_one (w : World) (x : Int) (T : TypeId) : Own (w.alloc (.cells #[.int .i64 x] T)) w.heap.size (.slice (some ⟨w.heap.size, 0, none⟩) 1 1) [x] :=
  .inr ⟨w.heap.size, 0, 1, #[.int .i64 x], rfl, Nat.le_refl _, ⟨T, heap_alloc_new w _⟩, by simp, by unfold maxLen; omega, by simp, by simp [ints]⟩
set_option maxHeartbeats 3200000 in
theorem visited_any (u1 u2 v3 : Value) (n : Net) (r : Rou) (w : World) (h : NetR w (.agg #[u1, u2]) n) (hr : Rd w v3 r.fb) (hl : r.fb.length ≤ 1100000) :
    Calls Tryz.prog 88 #[.agg #[u1, u2], .agg #[.int .i64 r.st, v3]] w (VisP (rouN n r) w) := by
  obtain ⟨x1, x2, e, r1, r2, hsm⟩ := h
  simp only [Value.agg.injEq, Array.mk.injEq, List.cons.injEq, and_true] at e
  obtain ⟨rfl, rfl⟩ := e
  obtain ⟨a1, m1, c1, rfl, HN1, hc1, hm1, -⟩ := flt_opn (m := 1) (enc := strE) (fun _ => rfl) (by omega) nilS r1
  obtain ⟨a2, m2, c2, rfl, HN2, hc2, hm2, ha2⟩ := flt_opn (m := 4) (enc := fibE) (fun _ => rfl) (by omega) nilB r2
  obtain ⟨a3, c3, m3, HN3, rfl, hc3, hm3, ha3⟩ := hr.opn
  have HO1 := Lib.hid (@rouN_no1 n r)
  have HO2 := Lib.hid (@rouN_no2 n r)
  have HO3 := Lib.hid (@rouN_go n r)
  rw [HN1.out] at HO1 HO3
  rw [HN3.out] at HO2 HO3
  have HX := Lib.hid (fun w' a m c (hb : Below w.heap.size w w') (e : rouN n r = none) => @VisP.no (rouN n r) w w' a m c e hb)
  have HY := Lib.hid (fun w' a m c xs (hb : Below w.heap.size w w') (ho : Own w' w.heap.size (.slice a m c) xs) (e : rouN n r = some xs) => @VisP.yes (rouN n r) w w' a m c xs e ho hb)
  have h10 : m3 ≤ 1100000 := by have := HN3.out; omega
  have HA2 := Lib.hid ha2
  have HA3 := Lib.hid ha3
  obtain ⟨bx, bc, blt, -⟩ := box_facts w #[.slice a1 m1 c1, .slice a2 m2 c2] 38
  obtain ⟨by', bd, bmt, -⟩ := box_facts (w.alloc (.cells #[.slice a1 m1 c1, .slice a2 m2 c2] 38)) #[.int .i64 r.st, .slice a3 m3 c3] 94
  have q0 := (by'.cell (p := ⟨w.heap.size, 0, none⟩) blt).trans (bc 0 _ rfl)
  have q1 := (by'.cell (p := ⟨w.heap.size, 1, none⟩) blt).trans (bc 1 _ rfl)
  have q2 := bd 0 _ rfl
  have q3 := bd 1 _ rfl
  have hs1 : (w.alloc (.cells #[.slice a1 m1 c1, .slice a2 m2 c2] 38)).heap.size = w.heap.size + 1 := by simp
  rw [hs1] at q2 q3 bmt
  have HBX := Lib.hid (bx.trans (by'.mono bx.size))
  have blt2 := Nat.lt_of_lt_of_le blt by'.size
  clear bc bd bx by' hs1 ha2 ha3 r1 r2 blt hr
  go_enter Tryz.func88, Tryz.ntmps88
  cases hin : inB r.st 0 ((m1 : Int) - 1)
  · have HE := Lib.hid (HO1.out hin)
    go_wp2_with (go_at_call 62; refine (within_any _ _ _ _).mono ?_; rintro e w' ⟨rfl, rfl⟩; rw [hin])
    go_ret2
    exact HX.out _ _ _ _ HBX.out HE.out
  by_cases h0 : m3 = 0
  · have HE := Lib.hid (HO2.out h0)
    have b1 : ((m3 : Int) == 0) = true := by rw [beq_iff_eq]; omega
    have b2 : decide ((m3 : Int) = 0) = true := decide_eq_true (by omega)
    clear h0
    go_wp2_with (go_at_call 62; refine (within_any _ _ _ _).mono ?_; rintro e w' ⟨rfl, rfl⟩; rw [hin])
    go_ret2
    exact HX.out _ _ _ _ HBX.out HE.out
  have HE := Lib.hid (HO3.out hin h0)
  have b1 : ((m3 : Int) == 0) = false := by rw [beq_eq_false_iff_ne]; omega
  have b2 : decide ((m3 : Int) = 0) = false := decide_eq_false (by omega)
  clear h0
  go_wp2_with (go_at_call 62; refine (within_any _ _ _ _).mono ?_; rintro e w' ⟨rfl, rfl⟩; rw [hin])
  generalize (w.alloc (.cells #[.slice a1 m1 c1, .slice a2 m2 c2] 38)).alloc (.cells #[.int .i64 r.st, .slice a3 m3 c3] 94) = w2 at *
  have hx1 : ¬ w.heap.size = w2.heap.size := by omega
  have hx2 : ¬ w.heap.size + 1 = w2.heap.size := by omega
  have HO0 := Lib.hid (show Own (w2.drew.alloc (.cells #[.int .i64 r.st] 3)) w2.heap.size (.slice (some ⟨w2.heap.size, 0, none⟩) 1 1) [r.st] from own_one w2.drew r.st 3)
  have HB0 := Lib.hid (((Below.refl w2.heap.size w2).drew).alloc (Nat.le_refl _) (.cells #[.int .i64 r.st] 3))
  go_cut [6, 7] from 24 to 28 (fun s6 s7 wx => s6 = .slice (some ⟨w2.heap.size, 0, none⟩) 1 1 ∧ s7 = .int .i64 r.st ∧ Hid (wx = w2.drew.alloc (.cells #[.int .i64 r.st] 3)))
  case first =>
    go_region_law (fail)
    all_goals
      go_wp2
      go_meet
      exact ⟨rfl, rfl, rfl⟩
  case rest =>
  obtain ⟨rfl, rfl, hw⟩ := hcut
  have hw := hw.out
  subst hw
  generalize w2.drew.alloc (.cells #[.int .i64 r.st] 3) = w3 at *
  have g3 := (HB0.out.cell bmt).trans q3
  clear hx1 hx2 b1 b2 hin
  go_wp2
  clear g3
  go_loopw [6, 7, 9, 32] (fun s6 s7 _ i wr => ∃ (k : Nat) (out : List Int) (t : Int), k ≤ m3 ∧ i = .int .i64 k ∧ s7 = .int .i64 t ∧ Hid (Own wr w2.heap.size s6 out) ∧ Hid (out.length = k + 1) ∧ Hid (wlk n [r.st] r.st r.fb = wlk n out t (r.fb.drop k)) ∧ Hid (Below w2.heap.size w2 wr)) (fun _ _ _ i _ => m3 - (intOf i).toNat)
  case atStart => exact ⟨0, [r.st], r.st, Nat.zero_le _, rfl, rfl, HO0.out, rfl, rfl, HB0.out⟩
  case round =>
    obtain ⟨k, out, t, hk, rfl, rfl, HOW, HLN, HW, HB⟩ := hrel
    obtain ⟨aR, cR, nR, HNR, rfl, hcR, hnR, -⟩ := HOW.out.rd.opn
    by_cases hlt : k < m3
    · have hltI : (k : Int) < (m3 : Int) := by omega
      have HST := Lib.hid (wlk_step (n := n) (out := out) (t := t) (xs := r.fb) (k := k) (by rw [HN3.out]; exact hlt))
      rw [HN2.out] at HST
      obtain ⟨b, off, rfl, hbs, hcs⟩ := HA3.out (by omega)
      have p1 := (HB.out.cell (p := ⟨w.heap.size, 1, none⟩) blt2).trans q1
      have c0 := (HB.out.cell (p := ⟨b, off + k, none⟩) (Nat.lt_of_lt_of_le hbs HBX.out.size)).trans ((HBX.out.cell (p := ⟨b, off + k, none⟩) hbs).trans (hcs k hlt))
      clear hcs
      generalize r.fb[k]?.getD 0 = x at *
      cases hix : inB x 0 ((m2 : Int) - 1)
      · rw [hix] at HST
        have HF := Lib.hid (HE.out.trans (HW.out.trans HST.out))
        go_wp2_with (go_at_call 62; refine (within_any _ _ _ _).mono ?_; rintro e w' ⟨rfl, rfl⟩; rw [hix])
        go_ret2
        exact HX.out _ _ _ _ (HBX.out.trans (HB.out.mono HBX.out.size)) HF.out
      rw [hix] at HST
      obtain ⟨hx0, hx9⟩ := inB_true hix
      obtain ⟨j, rfl⟩ : ∃ j : Nat, x = (j : Int) := ⟨x.toNat, by omega⟩
      have hj : j < m2 := by omega
      have hjI : (j : Int) < (m2 : Int) := by omega
      obtain ⟨b', off', rfl, hbs', hcs'⟩ := HA2.out (by omega)
      have hcw := fun (r : Nat) (u : Value) (hu : (fibE (n.fs[j]?.getD nilB))[r]? = some u) => (HB.out.cell (p := ⟨b', off' + j * 4 + r, none⟩) (Nat.lt_of_lt_of_le hbs' HBX.out.size)).trans ((HBX.out.cell hbs').trans (hcs' j hj r u hu))
      have d0 := hcw 0 _ rfl
      have d1 := hcw 1 _ rfl
      have d2 := hcw 2 _ rfl
      have d3 := hcw 3 _ rfl
      simp only [Nat.add_zero] at d0
      have HOE := Lib.hid (fun w => otherEnd_any (n.fs[j]?.getD nilB) t w)
      have HST2 := Lib.hid (show wlk n out t (r.fb.drop k) = (if othE (n.fs[j]?.getD nilB) t < 0 ∨ othE (n.fs[j]?.getD nilB) t ∈ out then none else wlk n (out ++ [othE (n.fs[j]?.getD nilB) t]) (othE (n.fs[j]?.getD nilB) t) (r.fb.drop (k + 1))) from HST.out)
      unfold fibV at HOE
      clear hcw hcs' HST hx0 hx9
      generalize n.fs[j]?.getD nilB = f at *
      generalize othE f t = o at *
      go_wp2_with (go_at_call 62; refine (within_any _ _ _ _).mono ?_; rintro e w' ⟨rfl, rfl⟩; rw [hix])
      refine (HOE.out _).mono ?_
      rintro e w4 ⟨rfl, b4⟩
      have HB4 := Lib.hid (HB.out.trans (b4.mono HB.out.size))
      have HOW4 := Lib.hid (HOW.out.belowAll b4)
      have HC4 := Lib.hid (containsI_any _ out o w4 HOW4.out.rd)
      clear b4 p1 c0 d0 d1 d2 d3 HOE hix
      by_cases ho : o < 0
      · have HF := Lib.hid (HE.out.trans (HW.out.trans (HST2.out.trans (if_pos (.inl ho)))))
        have hd : decide (o < 0) = true := decide_eq_true ho
        clear ho
        go_wp2
        go_ret2
        exact HX.out _ _ _ _ (HBX.out.trans (HB4.out.mono HBX.out.size)) HF.out
      have hd : decide (o < 0) = false := decide_eq_false ho
      cases hcn : out.contains o
      case true =>
        have HF := Lib.hid (HE.out.trans (HW.out.trans (HST2.out.trans (if_pos (.inr (List.contains_iff_mem.1 hcn))))))
        rw [hcn] at HC4
        clear ho
        go_wp2_with (go_at_call 123; refine (HC4.out).mono ?_; rintro e w' ⟨rfl, rfl⟩)
        go_ret2
        exact HX.out _ _ _ _ (HBX.out.trans (HB4.out.mono HBX.out.size)) HF.out
      have HF := Lib.hid (HW.out.trans (HST2.out.trans (if_neg (fun h => h.elim ho (fun h => by rw [List.contains_iff_mem.2 h] at hcn; cases hcn)))))
      rw [hcn] at HC4
      clear ho hcn
      have HLO := Lib.hid (show out.length ≤ 4000000 by have := HLN.out; omega)
      go_wp2_with (first
        | (go_at_call 123; refine (HC4.out).mono ?_; rintro e w' ⟨rfl, rfl⟩)
        | (at_builtin; go_loud (refine wpList_pushI rfl (.tmp 57) (.tmp 59) 92 rfl Tryz.underlying92 Tryz.infoI w2.heap.size (.slice aR nR cR) out rfl HOW4.out rfl HLO.out HB4.out.size ?_); intro v5 w5 o5 g5 l5; have HO5 := Lib.hid o5; have HB5 := Lib.hid (HB4.out.grown g5 HB4.out.size (fun q hq => (HOW4.out.lt q hq).1)); clear o5 g5 l5))
      go_roundw
      case rel => exact ⟨k + 1, out ++ [o], o, hlt, by go_num, rfl, HO5.out, by show (out ++ [o]).length = k + 1 + 1; rw [List.length_append, HLN.out]; rfl, HF.out, HB5.out⟩
      case measure => simp [intOf]; omega
    · obtain rfl : m3 = k := by omega
      have HF := Lib.hid (show rouN n r = some out by rw [HE.out, HW.out, List.drop_of_length_le (Nat.le_of_eq HN3.out)]; rfl)
      go_wp2
      go_ret2
      exact HY.out _ _ _ _ _ (HBX.out.trans (HB.out.mono HBX.out.size)) (HOW.out.mono HBX.out.size) HF.out
end Go.Proofs.YtonpcgdnfclidaaGreatDoor
