/- Joined: XDrh XDri XDre XDrj XDrk. -/
import Derived.Test.YtmkkdenhjfjmgaaGreatBf15
import Derived.Test.YtmkkdenhjfjmgaaGreatBf09
import Derived.Test.YtmkkdenhjfjmgaaGreatBf11
namespace Go.Proofs.YtmkkdenhjfjmgaaGreat
open Go.RowKit Go.Sort
set_option maxRecDepth 100000

theorem Tryz.infoStrD : (Tryz.prog.info? 9).map (fun i => (i.zero, i.size, i.bytes)) = some (some (.string ⟨#[]⟩), 1, 16) := by kernel_rfl
/-- An own row as what is appended. -/
theorem row_src {w : World} {base m c size : Nat} {e : TypeId} {ao : Option Addr} {xs : List Value} (h : w.ownsRow base e size (.slice ao m c) m xs) :
    (ao = none → m = 0 ∧ c = 0) ∧ xs.length = m * size ∧ ∀ w', Below w.heap.size w w' → ∀ ad, ao = some ad → ∀ j u, xs[j]? = some u → w'.cell? (ad.add j) = some u := by
  refine ⟨fun e => ?_, h.1, fun w' hb ad e j u hu => ?_⟩
  · rcases h.2 with ⟨h1, h2⟩ | ⟨g, cap, cur, h1, _⟩
    · cases h1; exact ⟨rfl, rfl⟩
    · rw [e] at h1; cases h1
  · subst e
    rcases h.2 with ⟨h1, h2⟩ | ⟨g, cap, cur, h1, h2, h3, _⟩
    · cases h1
    · cases h1
      have hc := World.ownsRow.cells h (g := g) rfl j u hu
      exact (hb.cell (World.block_lt_of_cell? w _ hc)).trans hc
theorem str_one {ss : List ByteArray} : ∀ u ∈ ss.map Value.string, u.oneCell' = true := fun u hu => by
  obtain ⟨s, -, rfl⟩ := List.mem_map.1 hu; rfl
section
variable {W w5 : World} {X : Obj} {T : TypeId} {m : Nat}
theorem mk_kept3 (g : ((W.drew.alloc X).alloc (.cells #[] T)).grownBy w5 (some W.heap.size)) : w5.ownsRow W.heap.size T m (.slice (some ⟨W.heap.size + 1, 0, none⟩) 0 0) 0 [] :=
  row_kept0 row_made3 fun q hq => g.block q (World.ownsRow.lt (row_made3 (X := X) (T := T) (m := m)) q hq).2 fun e => by
    have h1 : W.heap.size + 1 = q := Option.some.inj hq
    have h2 := Option.some.inj e
    omega
theorem mk_kept2 (g : ((W.drew.alloc (.cells #[] T)).alloc X).grownBy w5 (some (W.heap.size + 1))) : w5.ownsRow W.heap.size T m (.slice (some ⟨W.heap.size, 0, none⟩) 0 0) 0 [] :=
  row_kept0 row_made2 fun q hq => g.block q (World.ownsRow.lt (row_made2 (X := X) (T := T) (m := m)) q hq).2 fun e => by
    have h1 : W.heap.size = q := Option.some.inj hq
    have h2 := Option.some.inj e
    omega
end
theorem two_rows {w5 wA w10 : World} {base s3 b3 b7 m1 n1 : Nat} {T1 : TypeId} {us1 : List Value} {v5 v10 : Value} (o5 : w5.ownsRow base T1 m1 v5 n1 us1) (hA : Below w5.heap.size w5 wA) (g10 : wA.grownBy w10 (some b7)) (l10 : v10.ownBlock = some b7 ∨ v10.ownBlock = some wA.heap.size) (l5 : v5.ownBlock = some b3 ∨ v5.ownBlock = some s3) (hd : (b3 ≠ b7 ∧ s3 ≠ b7) ∨ w5.heap.size ≤ b7) : w10.ownsRow base T1 m1 v5 n1 us1 ∧ Apt v5 v10 := by
  have hlt := fun q hq => (World.ownsRow.lt o5 q hq).2
  have hne : ∀ q, v5.ownBlock = some q → q ≠ b7 := fun q hq => by
    have h1 := hlt q hq
    rcases hd with ⟨h2, h3⟩ | h2
    · rcases l5 with l | l
      · rw [l] at hq; have := Option.some.inj hq; omega
      · rw [l] at hq; have := Option.some.inj hq; omega
    · omega
  refine ⟨row_kept0 o5 fun q hq => (g10.block q (Nat.lt_of_lt_of_le (hlt q hq) hA.size) fun e => hne q hq (Option.some.inj e)).trans (hA.block q (hlt q hq)), fun q hq e => ?_⟩
  rcases l10 with l | l
  · rw [l] at e; exact hne q hq (Option.some.inj e).symm
  · rw [l] at e
    have h1 := Option.some.inj e
    have h2 := hlt q hq
    have h3 := hA.size
    omega
theorem OwnNtP.of {w w2 w10 : World} {n : Net} {v5 v10 : Value} (hd : NtD w10 w2.heap.size v5 v10 n) (hb : Below w2.heap.size w2 w10) (hb0 : Below w.heap.size w w2) (hz : w2.heap.size = w.heap.size + 2) : ∃ v1 v2, Ending.returned (.agg #[v5, v10]) = .returned (.agg #[v1, v2]) ∧ NtD ((w10.setCell ⟨w.heap.size + 1, 0, none⟩ v5).setCell ⟨w.heap.size + 1, 1, none⟩ v10) w.heap.size v1 v2 n ∧ Below w.heap.size w ((w10.setCell ⟨w.heap.size + 1, 0, none⟩ v5).setCell ⟨w.heap.size + 1, 1, none⟩ v10) := by
  refine ⟨v5, v10, rfl, (hd.base (by omega)).kept fun g _ hg => ?_, ((hb0.trans (hb.mono hb0.size)).setCell (p := ⟨w.heap.size + 1, 0, none⟩) (Nat.le_succ _) v5).setCell (p := ⟨w.heap.size + 1, 1, none⟩) (Nat.le_succ _) v10⟩
  have := (hd.lt g hg).1
  rw [heap_setCell_other _ _ _ _ (show g ≠ w.heap.size + 1 by omega), heap_setCell_other _ _ _ _ (show g ≠ w.heap.size + 1 by omega)]
def OwnNtP (n : Net) (w : World) (e : Ending) (w' : World) : Prop := ∃ v1 v2, e = .returned (.agg #[v1, v2]) ∧ NtD w' w.heap.size v1 v2 n ∧ Below w.heap.size w w'
set_option maxHeartbeats 6400000 in
theorem l2OwnD_any (b0 : Nat) (u1 u2 : Value) (n : Net) (w : World) (hd : NtD w b0 u1 u2 n) :
    Calls Tryz.prog 210 #[.agg #[u1, u2]] w (OwnNtP n w) := by
  obtain ⟨⟨a1, c1, rfl⟩, a2, c2, rfl⟩ := hd.slices
  obtain ⟨NP, hNP⟩ : ∃ NP, NP = OwnNtP n w := ⟨_, rfl⟩
  rw [← hNP]
  have HS1 := Lib.hid (row_src hd.ns)
  have HS2 := Lib.hid (row_src hd.fs)
  have HD := Lib.hid hd
  have b1 := (Below.refl w.heap.size w).alloc (Nat.le_refl _) (.cells #[.slice a1 n.ns.length c1, .slice a2 n.fs.length c2] 35)
  have b2 := b1.alloc b1.size (.cells #[.slice none 0 0, .slice none 0 0] 35)
  have HB2 := Lib.hid b2
  have HX1 := Lib.hid (show ((w.alloc (.cells #[.slice a1 n.ns.length c1, .slice a2 n.fs.length c2] 35)).alloc (.cells #[.slice none 0 0, .slice none 0 0] 35)).heap[w.heap.size]? = some (.cells #[.slice a1 n.ns.length c1, .slice a2 n.fs.length c2] 35 (0, 0)) from (heap_alloc_old _ _ (by simp)).trans (heap_alloc_new w _))
  have HX2 := Lib.hid (show ((w.alloc (.cells #[.slice a1 n.ns.length c1, .slice a2 n.fs.length c2] 35)).alloc (.cells #[.slice none 0 0, .slice none 0 0] 35)).heap[w.heap.size + 1]? = some (.cells #[.slice none 0 0, .slice none 0 0] 35 (0, 0)) from by have := heap_alloc_new (w.alloc (.cells #[.slice a1 n.ns.length c1, .slice a2 n.fs.length c2] 35)) (.cells #[.slice none 0 0, .slice none 0 0] 35); simpa using this)
  have HZ2 := Lib.hid (show ((w.alloc (.cells #[.slice a1 n.ns.length c1, .slice a2 n.fs.length c2] 35)).alloc (.cells #[.slice none 0 0, .slice none 0 0] 35)).heap.size = w.heap.size + 2 by simp)
  clear b1 b2 hd
  go_enter Tryz.func210, Tryz.ntmps210
  go_upto_region 1 with fail
  generalize (w.alloc (.cells #[.slice a1 n.ns.length c1, .slice a2 n.fs.length c2] 35)).alloc (.cells #[.slice none 0 0, .slice none 0 0] 35) = w2 at *
  have hlt1 : w.heap.size < w2.heap.size := by have := HZ2.out; omega
  have hlt2 : w.heap.size + 1 < w2.heap.size := by have := HZ2.out; omega
  have hsm1 : n.ns.length ≤ 16 := HD.out.nl.2
  have hsm2 : n.fs.length ≤ 40 := HD.out.fl
  have HS := Lib.hid (fun (w' : World) (hb : Below w2.heap.size w2 w') => show w'.cell? ⟨w.heap.size, 0, none⟩ = some (.slice a1 n.ns.length c1) ∧ w'.cell? ⟨w.heap.size, 1, none⟩ = some (.slice a2 n.fs.length c2) from
    ⟨(hb.cell (p := ⟨w.heap.size, 0, none⟩) hlt1).trans (blkc HX1.out rfl), (hb.cell (p := ⟨w.heap.size, 1, none⟩) hlt1).trans (blkc HX1.out rfl)⟩)
  have HC1 := Lib.hid (fun (w' : World) (hb : Below w2.heap.size w2 w') => HS1.out.2.2 w' (HB2.out.trans (hb.mono HB2.out.size)))
  have HC2 := Lib.hid (fun (w' : World) (hb : Below w2.heap.size w2 w') => HS2.out.2.2 w' (HB2.out.trans (hb.mono HB2.out.size)))
  have HN1 := Lib.hid HS1.out.1
  have HN2 := Lib.hid HS2.out.1
  have HL1 := Lib.hid HS1.out.2.1
  have HL2 := Lib.hid HS2.out.2.1
  have HST := Lib.hid (fun (w' : World) (hb : Below w2.heap.size w2 w') (a b : Value) => show ((w'.setCell ⟨w.heap.size + 1, 0, none⟩ a).setCell ⟨w.heap.size + 1, 1, none⟩ b).cell? ⟨w.heap.size, 0, none⟩ = some (.slice a1 n.ns.length c1) ∧ ((w'.setCell ⟨w.heap.size + 1, 0, none⟩ a).setCell ⟨w.heap.size + 1, 1, none⟩ b).cell? ⟨w.heap.size, 1, none⟩ = some (.slice a2 n.fs.length c2) from by
    obtain ⟨h1, h2⟩ := HS.out w' hb
    refine ⟨?_, ?_⟩
    · rw [World.cell?_setCell_other _ _ _ _ (by simp), World.cell?_setCell_other _ _ _ _ (by simp)]; exact h1
    · rw [World.cell?_setCell_other _ _ _ _ (by simp), World.cell?_setCell_other _ _ _ _ (by simp)]; exact h2)
  have hb0 := (Below.refl w2.heap.size w2).drew
  go_region_held3 (fun w' => w'.cell? ⟨w.heap.size, 0, none⟩ = some (.slice a1 n.ns.length c1) ∧ w'.cell? ⟨w.heap.size, 1, none⟩ = some (.slice a2 n.fs.length c2))
    (first | exact HS.out _ hb0 | exact HS.out _ bel1 | exact HS.out _ bel2 | exact HS.out _ B10 | exact HS.out _ B5 | exact HS.out _ (B5.alloc B5.size _) | exact HST.out _ B10 _ _)
    (first
      | ((refine step_of_list rfl ?_); (with_reducible show wpList _ _ _ (⟨some 6, _, _, _, _, _⟩ :: _) _ _); (go_loud (refine wpList_catG rfl (.tmp 3) (.tmp 5) 22 9 rfl Tryz.underlying22 (.string ⟨#[]⟩) 1 16 Tryz.infoStrD rfl (by decide) w2.heap.size (.slice (some ⟨_, 0, none⟩) 0 0) 0 [] (by rfl) (by first | exact row_made1 | exact row_made2 | exact row_made3) a1 n.ns.length c1 _ (by rfl) HL1.out HN1.out (HC1.out _ (by first | exact bel1 | exact bel2)) str_one (by unfold maxLen; omega) (by omega) (by first | exact bel1.size | exact bel2.size) ?_)); (intro v5 w5 o5 g5 l5); (obtain ⟨e5, f5, rfl⟩ := row_form0 o5); (have B5 : Below w2.heap.size w2 w5 := Below.grown (by first | exact bel1 | exact bel2) g5 (by first | exact bel1.size | exact bel2.size) (fun q hq => (by have hq2 := Option.some.inj hq; rw [← hq2]; first | exact Nat.le_refl _ | exact Nat.le_succ _))); (have NN5 := fun c h1 h2 => g5.block c h1 h2); (unfold wpList); (refine ⟨rfl, ?_⟩))
      | ((refine step_of_list rfl ?_); (with_reducible show wpList _ _ _ (⟨some 10, _, _, _, _, _⟩ :: _) _ _); (go_loud (refine wpList_catG rfl (.tmp 7) (.tmp 9) 33 148 rfl Tryz.underlying33 (.agg #[.int .i64 0, .int .i64 0, .int .i64 0, .int .i64 0]) 4 32 Tryz.infoFib rfl (by decide) w2.heap.size (.slice (some ⟨_, 0, none⟩) 0 0) 0 [] (by rfl) (by first | exact World.ownsRow_made (base := w2.heap.size) w5 #[] 0 B5.size (Nat.zero_le _) (by simp) | exact mk_kept3 g5 | exact mk_kept2 g5) a2 n.fs.length c2 _ (by rfl) HL2.out HN2.out (HC2.out _ (by first | exact B5 | exact B5.alloc B5.size _)) fbs_one (by unfold maxLen; omega) (by omega) (by first | exact B5.size | exact size_alloc B5.size) ?_)); (intro v10 w10 o10 g10 l10); (obtain ⟨e10, f10, rfl⟩ := row_form0 o10); (have B10 : Below w2.heap.size w2 w10 := Below.grown (by first | exact B5 | exact B5.alloc B5.size _) g10 (by first | exact B5.size | exact size_alloc B5.size) (fun q hq => (by have hq2 := Option.some.inj hq; rw [← hq2]; first | exact Nat.le_refl _ | exact Nat.le_succ _ | exact B5.size))); (have x10 := kept_o' HX2.out B10); (have z0 := blkc x10 (show _ = some (Value.slice none 0 0) from rfl) (j := 0)); (have z1 := blkc x10 (show _ = some (Value.slice none 0 0) from rfl) (j := 1)); (have f0 : w10.frozen? ⟨w.heap.size + 1, 0, none⟩ = false := (by simp only [World.frozen?, x10]; rfl)); (have f1 : w10.frozen? ⟨w.heap.size + 1, 1, none⟩ = false := (by simp only [World.frozen?, x10]; rfl)); (unfold wpList); (refine ⟨rfl, ?_⟩)))
  all_goals
    have H := two_rows o5 (by first | exact Below.refl _ _ | exact (Below.refl _ _).alloc (Nat.le_refl _) _) g10 l10 l5 (by first | exact .inr (Nat.le_refl _) | (left; constructor <;> simp <;> omega) | (left; constructor <;> simp))
    have HN := Lib.hid (show NtD w10 w2.heap.size (.slice e5 n.ns.length f5) (.slice e10 n.fs.length f10) n from ⟨⟨by rw [List.length_map, Nat.mul_one], by have := H.1.2; simpa using this⟩, ⟨by rw [fbs_len], by have := o10.2; simpa using this⟩, by have := H.2; simpa only [Nat.zero_add] using this, HD.out.sm, HD.out.nz, HD.out.nl, HD.out.fl⟩)
    have HB10 := Lib.hid B10
    clear H o5 o10 g5 g10 l5 l10 B5 B10 NN5
    go_wp2_with fail
    subst hNP
    exact bodyPost_ret (v := .agg #[.slice e5 n.ns.length f5, .slice e10 n.fs.length f10]) (by simp [results, Tryz.results210, go_sem, z0, z1]) rfl (OwnNtP.of HN.out HB10.out HB2.out HZ2.out)
end Go.Proofs.YtmkkdenhjfjmgaaGreat
namespace Go.Proofs.YtmkkdenhjfjmgaaGreat
open Go.RowKit Go.Sort
set_option maxRecDepth 100000

def OwnRtP (st : Int) (xs : List Int) (w : World) (e : Ending) (w' : World) : Prop := ∃ v', e = .returned (.agg #[.int .i64 st, v']) ∧ OwR w' w.heap.size v' xs ∧ Below w.heap.size w w'
set_option maxHeartbeats 6400000 in
theorem l4Own_any (st : Int) (v : Value) (xs : List Int) (w : World) (h : Rd w v xs) (hl : xs.length ≤ 900000) :
    Calls Tryz.prog 211 #[.agg #[.int .i64 st, v]] w (OwnRtP st xs w) := by
  obtain ⟨NP, hNP⟩ : ∃ NP, NP = OwnRtP st xs w := ⟨_, rfl⟩
  rw [← hNP]
  have HOW := Lib.hid (fun w' (hb : Below w.heap.size w w') => l1OwnE_any v xs w' (h.belowAll hb) hl)
  obtain ⟨ax, cx, nx, HNX, rfl, -, -, -⟩ := h.opn
  have b1 := (Below.refl w.heap.size w).alloc (Nat.le_refl _) (.cells #[.int .i64 st, .slice ax nx cx] 90)
  have b2 := b1.alloc b1.size (.cells #[.int .i64 0, .slice none 0 0] 90)
  have HB2 := Lib.hid b2
  have HX1 := Lib.hid (show ((w.alloc (.cells #[.int .i64 st, .slice ax nx cx] 90)).alloc (.cells #[.int .i64 0, .slice none 0 0] 90)).heap[w.heap.size]? = some (.cells #[.int .i64 st, .slice ax nx cx] 90 (0, 0)) from (heap_alloc_old _ _ (by simp)).trans (heap_alloc_new w _))
  have HX2 := Lib.hid (show ((w.alloc (.cells #[.int .i64 st, .slice ax nx cx] 90)).alloc (.cells #[.int .i64 0, .slice none 0 0] 90)).heap[w.heap.size + 1]? = some (.cells #[.int .i64 0, .slice none 0 0] 90 (0, 0)) from by have := heap_alloc_new (w.alloc (.cells #[.int .i64 st, .slice ax nx cx] 90)) (.cells #[.int .i64 0, .slice none 0 0] 90); simpa using this)
  have HZ2 := Lib.hid (show ((w.alloc (.cells #[.int .i64 st, .slice ax nx cx] 90)).alloc (.cells #[.int .i64 0, .slice none 0 0] 90)).heap.size = w.heap.size + 2 by simp)
  clear b1 b2 h
  go_enter Tryz.func211, Tryz.ntmps211
  go_upto_region 1 with fail
  generalize (w.alloc (.cells #[.int .i64 st, .slice ax nx cx] 90)).alloc (.cells #[.int .i64 0, .slice none 0 0] 90) = w2 at *
  have hlt1 : w.heap.size < w2.heap.size := by have := HZ2.out; omega
  have HS := Lib.hid (fun (w' : World) (hb : Below w2.heap.size w2 w') => show w'.cell? ⟨w.heap.size, 0, none⟩ = some (.int .i64 st) ∧ w'.cell? ⟨w.heap.size, 1, none⟩ = some (.slice ax nx cx) from
    ⟨(hb.cell (p := ⟨w.heap.size, 0, none⟩) hlt1).trans (blkc HX1.out rfl), (hb.cell (p := ⟨w.heap.size, 1, none⟩) hlt1).trans (blkc HX1.out rfl)⟩)
  have HST := Lib.hid (fun (w' : World) (hb : Below w2.heap.size w2 w') (a b : Value) => show ((w'.setCell ⟨w.heap.size + 1, 0, none⟩ a).setCell ⟨w.heap.size + 1, 1, none⟩ b).cell? ⟨w.heap.size, 0, none⟩ = some (.int .i64 st) ∧ ((w'.setCell ⟨w.heap.size + 1, 0, none⟩ a).setCell ⟨w.heap.size + 1, 1, none⟩ b).cell? ⟨w.heap.size, 1, none⟩ = some (.slice ax nx cx) from by
    obtain ⟨h1, h2⟩ := HS.out w' hb
    refine ⟨?_, ?_⟩
    · rw [World.cell?_setCell_other _ _ _ _ (by simp), World.cell?_setCell_other _ _ _ _ (by simp)]; exact h1
    · rw [World.cell?_setCell_other _ _ _ _ (by simp), World.cell?_setCell_other _ _ _ _ (by simp)]; exact h2)
  have hb0 := (Below.refl w2.heap.size w2).drew
  have HO2 := Lib.hid (HOW.out w2.drew (HB2.out.trans (hb0.mono HB2.out.size)))
  go_region_held3 (fun w' => w'.cell? ⟨w.heap.size, 0, none⟩ = some (.int .i64 st) ∧ w'.cell? ⟨w.heap.size, 1, none⟩ = some (.slice ax nx cx))
    (first | exact HS.out _ hb0 | exact HS.out _ B5 | exact HST.out _ B5 _ _)
    (first
      | (go_at_call 163; (with_reducible refine HO2.out.mono ?_); rintro e w5 ⟨v5, rfl, o5, b5⟩; (obtain ⟨e5, f5, rfl⟩ := row_form0 o5); (have B5 : Below w2.heap.size w2 w5 := hb0.trans (b5.mono hb0.size)); (have x10 := kept_o' HX2.out B5); (have z0 := blkc x10 (show _ = some (Value.int .i64 0) from rfl) (j := 0)); (have z1 := blkc x10 (show _ = some (Value.slice none 0 0) from rfl) (j := 1)); (have f0 : w5.frozen? ⟨w.heap.size + 1, 0, none⟩ = false := (by simp only [World.frozen?, x10]; rfl)); (have f1 : w5.frozen? ⟨w.heap.size + 1, 1, none⟩ = false := (by simp only [World.frozen?, x10]; rfl))))
  all_goals
    have HB5 := Lib.hid B5
    have HO5 := Lib.hid (show OwR w5 w2.heap.size _ xs from o5)
    clear b5 o5 B5
    go_wp2_with fail
    subst hNP
    have hz := HZ2.out
    have hn : ∀ k, (Value.slice e5 xs.length f5).ownBlock = some k → k ≠ w.heap.size + 1 := fun k hk => by have := (HO5.out.lt k hk).1; omega
    exact bodyPost_ret (v := .agg #[.int .i64 st, .slice e5 xs.length f5]) (by simp [results, Tryz.results211, go_sem, z0, z1]) rfl ⟨_, rfl, (((HO5.out.oth hn).oth hn).base (by omega)), ((HB2.out.trans (HB5.out.mono HB2.out.size)).setCell (p := ⟨w.heap.size + 1, 0, none⟩) (Nat.le_succ _) _).setCell (p := ⟨w.heap.size + 1, 1, none⟩) (Nat.le_succ _) _⟩
def CpP (x : Lgt) (w : World) (e : Ending) (w' : World) : Prop := ∃ v', e = .returned (.agg #[.int .i64 x.id, .int .i64 x.st, v', .int .i64 x.fi, .int .i64 x.ct]) ∧ OwR w' w.heap.size v' x.fb ∧ Below w.heap.size w w'
set_option maxHeartbeats 6400000 in
theorem l9Copy_any (x : Lgt) (v : Value) (w : World) (h : Rd w v x.fb) (hl : x.fb.length ≤ 900000) :
    Calls Tryz.prog 193 #[.agg #[.int .i64 x.id, .int .i64 x.st, v, .int .i64 x.fi, .int .i64 x.ct]] w (CpP x w) := by
  obtain ⟨NP, hNP⟩ : ∃ NP, NP = CpP x w := ⟨_, rfl⟩
  rw [← hNP]
  have HOW := Lib.hid (fun w' (hb : Below w.heap.size w w') => l4Own_any x.st v x.fb w' (h.belowAll hb) hl)
  obtain ⟨ax, cx, nx, HNX, rfl, -, -, -⟩ := h.opn
  have b1 := (Below.refl w.heap.size w).alloc (Nat.le_refl _) (.cells #[.int .i64 x.id, .int .i64 x.st, .slice ax nx cx, .int .i64 x.fi, .int .i64 x.ct] 94)
  have b2 := b1.alloc b1.size (.cells #[.int .i64 0, .int .i64 0, .slice none 0 0, .int .i64 0, .int .i64 0] 94)
  have HB2 := Lib.hid b2
  have HX1 := Lib.hid (show ((w.alloc (.cells #[.int .i64 x.id, .int .i64 x.st, .slice ax nx cx, .int .i64 x.fi, .int .i64 x.ct] 94)).alloc (.cells #[.int .i64 0, .int .i64 0, .slice none 0 0, .int .i64 0, .int .i64 0] 94)).heap[w.heap.size]? = some (.cells #[.int .i64 x.id, .int .i64 x.st, .slice ax nx cx, .int .i64 x.fi, .int .i64 x.ct] 94 (0, 0)) from (heap_alloc_old _ _ (by simp)).trans (heap_alloc_new w _))
  have HX2 := Lib.hid (show ((w.alloc (.cells #[.int .i64 x.id, .int .i64 x.st, .slice ax nx cx, .int .i64 x.fi, .int .i64 x.ct] 94)).alloc (.cells #[.int .i64 0, .int .i64 0, .slice none 0 0, .int .i64 0, .int .i64 0] 94)).heap[w.heap.size + 1]? = some (.cells #[.int .i64 0, .int .i64 0, .slice none 0 0, .int .i64 0, .int .i64 0] 94 (0, 0)) from by have := heap_alloc_new (w.alloc (.cells #[.int .i64 x.id, .int .i64 x.st, .slice ax nx cx, .int .i64 x.fi, .int .i64 x.ct] 94)) (.cells #[.int .i64 0, .int .i64 0, .slice none 0 0, .int .i64 0, .int .i64 0] 94); simpa using this)
  have HZ2 := Lib.hid (show ((w.alloc (.cells #[.int .i64 x.id, .int .i64 x.st, .slice ax nx cx, .int .i64 x.fi, .int .i64 x.ct] 94)).alloc (.cells #[.int .i64 0, .int .i64 0, .slice none 0 0, .int .i64 0, .int .i64 0] 94)).heap.size = w.heap.size + 2 by simp)
  clear b1 b2 h
  go_enter Tryz.func193, Tryz.ntmps193
  go_upto_region 1 with fail
  generalize ((w.alloc (.cells #[.int .i64 x.id, .int .i64 x.st, .slice ax nx cx, .int .i64 x.fi, .int .i64 x.ct] 94)).alloc (.cells #[.int .i64 0, .int .i64 0, .slice none 0 0, .int .i64 0, .int .i64 0] 94)) = w2 at *
  have hlt1 : w.heap.size < w2.heap.size := by have := HZ2.out; omega
  have HS := Lib.hid (fun (w' : World) (hb : Below w2.heap.size w2 w') => show w'.cell? ⟨w.heap.size, 0, none⟩ = some (.int .i64 x.id) ∧ w'.cell? ⟨w.heap.size, 1, none⟩ = some (.int .i64 x.st) ∧ w'.cell? ⟨w.heap.size, 2, none⟩ = some (.slice ax nx cx) ∧ w'.cell? ⟨w.heap.size, 3, none⟩ = some (.int .i64 x.fi) ∧ w'.cell? ⟨w.heap.size, 4, none⟩ = some (.int .i64 x.ct) from
    ⟨(hb.cell (p := ⟨w.heap.size, 0, none⟩) hlt1).trans (blkc HX1.out rfl), (hb.cell (p := ⟨w.heap.size, 1, none⟩) hlt1).trans (blkc HX1.out rfl), (hb.cell (p := ⟨w.heap.size, 2, none⟩) hlt1).trans (blkc HX1.out rfl), (hb.cell (p := ⟨w.heap.size, 3, none⟩) hlt1).trans (blkc HX1.out rfl), (hb.cell (p := ⟨w.heap.size, 4, none⟩) hlt1).trans (blkc HX1.out rfl)⟩)
  have HST := Lib.hid (fun (w' : World) (hb : Below w2.heap.size w2 w') (a0 a1 a2 a3 a4 : Value) => show (((((w'.setCell ⟨w.heap.size + 1, 0, none⟩ a0).setCell ⟨w.heap.size + 1, 1, none⟩ a1).setCell ⟨w.heap.size + 1, 2, none⟩ a2).setCell ⟨w.heap.size + 1, 3, none⟩ a3).setCell ⟨w.heap.size + 1, 4, none⟩ a4).cell? ⟨w.heap.size, 0, none⟩ = some (.int .i64 x.id) ∧ (((((w'.setCell ⟨w.heap.size + 1, 0, none⟩ a0).setCell ⟨w.heap.size + 1, 1, none⟩ a1).setCell ⟨w.heap.size + 1, 2, none⟩ a2).setCell ⟨w.heap.size + 1, 3, none⟩ a3).setCell ⟨w.heap.size + 1, 4, none⟩ a4).cell? ⟨w.heap.size, 1, none⟩ = some (.int .i64 x.st) ∧ (((((w'.setCell ⟨w.heap.size + 1, 0, none⟩ a0).setCell ⟨w.heap.size + 1, 1, none⟩ a1).setCell ⟨w.heap.size + 1, 2, none⟩ a2).setCell ⟨w.heap.size + 1, 3, none⟩ a3).setCell ⟨w.heap.size + 1, 4, none⟩ a4).cell? ⟨w.heap.size, 2, none⟩ = some (.slice ax nx cx) ∧ (((((w'.setCell ⟨w.heap.size + 1, 0, none⟩ a0).setCell ⟨w.heap.size + 1, 1, none⟩ a1).setCell ⟨w.heap.size + 1, 2, none⟩ a2).setCell ⟨w.heap.size + 1, 3, none⟩ a3).setCell ⟨w.heap.size + 1, 4, none⟩ a4).cell? ⟨w.heap.size, 3, none⟩ = some (.int .i64 x.fi) ∧ (((((w'.setCell ⟨w.heap.size + 1, 0, none⟩ a0).setCell ⟨w.heap.size + 1, 1, none⟩ a1).setCell ⟨w.heap.size + 1, 2, none⟩ a2).setCell ⟨w.heap.size + 1, 3, none⟩ a3).setCell ⟨w.heap.size + 1, 4, none⟩ a4).cell? ⟨w.heap.size, 4, none⟩ = some (.int .i64 x.ct) from by
    obtain ⟨h1, h2, h3, h4, h5⟩ := HS.out w' hb
    refine ⟨?_, ?_, ?_, ?_, ?_⟩
    · rw [World.cell?_setCell_other _ _ _ _ (by simp), World.cell?_setCell_other _ _ _ _ (by simp), World.cell?_setCell_other _ _ _ _ (by simp), World.cell?_setCell_other _ _ _ _ (by simp), World.cell?_setCell_other _ _ _ _ (by simp)]; exact h1
    · rw [World.cell?_setCell_other _ _ _ _ (by simp), World.cell?_setCell_other _ _ _ _ (by simp), World.cell?_setCell_other _ _ _ _ (by simp), World.cell?_setCell_other _ _ _ _ (by simp), World.cell?_setCell_other _ _ _ _ (by simp)]; exact h2
    · rw [World.cell?_setCell_other _ _ _ _ (by simp), World.cell?_setCell_other _ _ _ _ (by simp), World.cell?_setCell_other _ _ _ _ (by simp), World.cell?_setCell_other _ _ _ _ (by simp), World.cell?_setCell_other _ _ _ _ (by simp)]; exact h3
    · rw [World.cell?_setCell_other _ _ _ _ (by simp), World.cell?_setCell_other _ _ _ _ (by simp), World.cell?_setCell_other _ _ _ _ (by simp), World.cell?_setCell_other _ _ _ _ (by simp), World.cell?_setCell_other _ _ _ _ (by simp)]; exact h4
    · rw [World.cell?_setCell_other _ _ _ _ (by simp), World.cell?_setCell_other _ _ _ _ (by simp), World.cell?_setCell_other _ _ _ _ (by simp), World.cell?_setCell_other _ _ _ _ (by simp), World.cell?_setCell_other _ _ _ _ (by simp)]; exact h5)
  have hb0 := (Below.refl w2.heap.size w2).drew
  have HO2 := Lib.hid (HOW.out w2.drew (HB2.out.trans (hb0.mono HB2.out.size)))
  go_region_held3 (fun w' => w'.cell? ⟨w.heap.size, 0, none⟩ = some (.int .i64 x.id) ∧ w'.cell? ⟨w.heap.size, 1, none⟩ = some (.int .i64 x.st) ∧ w'.cell? ⟨w.heap.size, 2, none⟩ = some (.slice ax nx cx) ∧ w'.cell? ⟨w.heap.size, 3, none⟩ = some (.int .i64 x.fi) ∧ w'.cell? ⟨w.heap.size, 4, none⟩ = some (.int .i64 x.ct))
    (first | exact HS.out _ hb0 | exact HS.out _ B5 | exact HST.out _ B5 _ _ _ _ _)
    (first
      | (go_at_call 211; (with_reducible refine HO2.out.mono ?_); rintro e w5 ⟨v5, rfl, o5, b5⟩; (obtain ⟨e5, f5, rfl⟩ := row_form0 o5); (have B5 : Below w2.heap.size w2 w5 := hb0.trans (b5.mono hb0.size)); (have x10 := kept_o' HX2.out B5); (have z0 := blkc x10 (show _ = some (Value.int .i64 0) from rfl) (j := 0)); (have f0 : w5.frozen? ⟨w.heap.size + 1, 0, none⟩ = false := (by simp only [World.frozen?, x10]; rfl)); (have z1 := blkc x10 (show _ = some (Value.int .i64 0) from rfl) (j := 1)); (have f1 : w5.frozen? ⟨w.heap.size + 1, 1, none⟩ = false := (by simp only [World.frozen?, x10]; rfl)); (have z2 := blkc x10 (show _ = some (Value.slice none 0 0) from rfl) (j := 2)); (have f2 : w5.frozen? ⟨w.heap.size + 1, 2, none⟩ = false := (by simp only [World.frozen?, x10]; rfl)); (have z3 := blkc x10 (show _ = some (Value.int .i64 0) from rfl) (j := 3)); (have f3 : w5.frozen? ⟨w.heap.size + 1, 3, none⟩ = false := (by simp only [World.frozen?, x10]; rfl)); (have z4 := blkc x10 (show _ = some (Value.int .i64 0) from rfl) (j := 4)); (have f4 : w5.frozen? ⟨w.heap.size + 1, 4, none⟩ = false := (by simp only [World.frozen?, x10]; rfl))))
  all_goals
    have HB5 := Lib.hid B5
    have HO5 := Lib.hid (show OwR w5 w2.heap.size _ x.fb from o5)
    clear b5 o5 B5
    go_wp2_with fail
    subst hNP
    have hz := HZ2.out
    have hn : ∀ k, (Value.slice e5 x.fb.length f5).ownBlock = some k → k ≠ w.heap.size + 1 := fun k hk => by have := (HO5.out.lt k hk).1; omega
    exact bodyPost_ret (v := .agg #[.int .i64 x.id, .int .i64 x.st, .slice e5 x.fb.length f5, .int .i64 x.fi, .int .i64 x.ct]) (by simp [results, Tryz.results193, go_sem, z0, z1, z2, z3, z4]) rfl ⟨_, rfl, ((((((HO5.out.oth hn).oth hn).oth hn).oth hn).oth hn).base (by omega)), ((((((HB2.out.trans (HB5.out.mono HB2.out.size)).setCell (p := ⟨w.heap.size + 1, 0, none⟩) (Nat.le_succ _) _).setCell (p := ⟨w.heap.size + 1, 1, none⟩) (Nat.le_succ _) _).setCell (p := ⟨w.heap.size + 1, 2, none⟩) (Nat.le_succ _) _).setCell (p := ⟨w.heap.size + 1, 3, none⟩) (Nat.le_succ _) _).setCell (p := ⟨w.heap.size + 1, 4, none⟩) (Nat.le_succ _) _)⟩
end Go.Proofs.YtmkkdenhjfjmgaaGreat
namespace Go.Proofs.YtmkkdenhjfjmgaaGreat
open Go.RowKit Go.Sort
set_option maxRecDepth 100000

set_option maxHeartbeats 3200000 in
theorem l9UsedA_any (v : Value) (p : Pln) (f : Int) (w : World) (h : PlnR w v p) :
    Calls Tryz.prog 191 #[v, .int .i64 f] w fun e w' => ∃ m : Int, e = .returned (.int .i64 m) ∧ Below w.heap.size w w' := by
  obtain ⟨u1, u2, u3, rfl, r1, r2, r3, hsm⟩ := h
  have hnet : NetR w (.agg #[u1, u2]) p.n := ⟨u1, u2, rfl, r1, r2, hsm⟩
  obtain ⟨⟨a1, m1, c1, rfl⟩, a2, m2, c2, rfl⟩ := slice_of_net hnet
  obtain ⟨a3, m3, c3, rfl, HN3, hc3, hm3, ha3⟩ := lgt_opn r3
  have HA := Lib.hid ha3
  clear ha3 r1 r2 r3 hsm hnet
  obtain ⟨bx, bc, blt, -⟩ := box_facts w #[.slice a1 m1 c1, .slice a2 m2 c2, .slice a3 m3 c3] 38
  have q2 := bc 2 _ rfl
  have HBX := Lib.hid bx
  clear bx bc
  go_enter Tryz.func191, Tryz.ntmps191
  go_wp2_with fail
  generalize w.alloc (.cells #[.slice a1 m1 c1, .slice a2 m2 c2, .slice a3 m3 c3] 38) = w1 at *
  go_loopw [5, 6] (fun s5 i wr => ∃ (k : Nat) (m : Int), k ≤ m3 ∧ i = .int .i64 k ∧ s5 = .int .i64 m ∧ Hid (Below w1.heap.size w1 wr)) (fun _ i _ => m3 - (intOf i).toNat)
  case atStart => exact ⟨0, 0, Nat.zero_le _, rfl, rfl, Below.refl _ _⟩
  case round =>
    obtain ⟨k, m, hk, rfl, rfl, HB⟩ := hrel
    have t2 := (HB.out.cell (p := ⟨w.heap.size, 2, none⟩) blt).trans q2
    have HBW := Lib.hid (HBX.out.trans (HB.out.mono HBX.out.size))
    by_cases hlt : k < m3
    · have hltI : (k : Int) < (m3 : Int) := by omega
      have hwk : IntKind.i64.wrap ((k : Int) + 1) = (k : Int) + 1 := IntWalk.i64_in _ (by omega)
      obtain ⟨b, off, rfl, hbs, hcs⟩ := HA.out (by omega)
      obtain ⟨u, x0, x1, x2, x3, x4, hxu⟩ := hcs k hlt
      have y2 := (HBW.out.cell (p := ⟨b, off + k * 5 + 2, none⟩) hbs).trans x2
      have y3 := (HBW.out.cell (p := ⟨b, off + k * 5 + 3, none⟩) hbs).trans x3
      have y4 := (HBW.out.cell (p := ⟨b, off + k * 5 + 4, none⟩) hbs).trans x4
      have HS := Lib.hid (l1Has_any u (p.ls[k]?.getD nilL).fb f wr (hxu.belowAll HBW.out))
      generalize p.ls[k]?.getD nilL = x at *
      cases hc : x.fb.contains f
      · rw [hc] at HS
        clear hc
        go_wp2_with (first | (go_at_call 97; refine HS.out.mono ?_; rintro e w5 ⟨rfl, rfl⟩))
        go_roundw
        case rel => exact ⟨k + 1, m, by omega, by go_num, rfl, HB.out⟩
        case measure => simp [intOf]; omega
      · rw [hc] at HS
        clear hc
        go_wp2_with (first | (go_at_call 97; refine HS.out.mono ?_; rintro e w5 ⟨rfl, rfl⟩) | (go_at_call 189; refine (l8BitsA_any _ _ _).mono ?_; rintro e w6 ⟨m6, rfl, b6⟩))
        have HB6 := Lib.hid (HB.out.trans (b6.mono HB.out.size))
        go_roundw
        case rel => exact ⟨k + 1, _, by omega, by go_num, rfl, HB6.out⟩
        case measure => simp [intOf]; omega
    · have hltI : ¬ (k : Int) < (m3 : Int) := by omega
      go_wp2_with fail
      go_ret
      exact ⟨⟨_, rfl⟩, HBW.out⟩
set_option maxHeartbeats 3200000 in
theorem l9AlongA_any (v vf : Value) (p : Pln) (st : Int) (fb : List Int) (w : World) (h : PlnR w v p) (hf : Rd w vf fb) :
    Calls Tryz.prog 158 #[v, .agg #[.int .i64 st, vf]] w fun e w' => ∃ m : Int, e = .returned (.int .i64 m) ∧ Below w.heap.size w w' := by
  have HU := Lib.hid (fun f w' (hb : Below w.heap.size w w') => l9UsedA_any v p f w' (h.behind hb))
  obtain ⟨u1, u2, u3, rfl, r1, r2, r3, hsm⟩ := h
  have hnet : NetR w (.agg #[u1, u2]) p.n := ⟨u1, u2, rfl, r1, r2, hsm⟩
  obtain ⟨⟨a1, m1, c1, rfl⟩, a2, m2, c2, rfl⟩ := slice_of_net hnet
  obtain ⟨a3, m3, c3, rfl, HN3, hc3, hm3, -⟩ := lgt_opn r3
  obtain ⟨af, cf, nf, HNF, rfl, hcf, hnf, haf⟩ := hf.opn
  have HA := Lib.hid haf
  clear haf r1 r2 r3 hsm hnet hf
  obtain ⟨bx, bc, blt, -⟩ := box_facts w #[.slice a1 m1 c1, .slice a2 m2 c2, .slice a3 m3 c3] 38
  have q0 := bc 0 _ rfl
  have q1 := bc 1 _ rfl
  have q2 := bc 2 _ rfl
  have HBX := Lib.hid bx
  clear bx bc
  generalize hw1 : w.alloc (.cells #[.slice a1 m1 c1, .slice a2 m2 c2, .slice a3 m3 c3] 38) = w1 at *
  have hz1 : w1.heap.size = w.heap.size + 1 := by rw [← hw1]; simp
  obtain ⟨bx, bc, blt3, -⟩ := box_facts w1 #[.int .i64 st, .slice af nf cf] 90
  have p1 := bc 1 _ rfl
  have q0 := (bx.cell (p := ⟨w.heap.size, 0, none⟩) blt).trans q0
  have q1 := (bx.cell (p := ⟨w.heap.size, 1, none⟩) blt).trans q1
  have q2 := (bx.cell (p := ⟨w.heap.size, 2, none⟩) blt).trans q2
  have HBY := Lib.hid (HBX.out.trans (bx.mono HBX.out.size))
  have hbl : w.heap.size < (w1.alloc (.cells #[.int .i64 st, .slice af nf cf] 90)).heap.size := by simp; omega
  clear bx bc
  go_enter Tryz.func158, Tryz.ntmps158
  go_wp2_with fail
  generalize w1.alloc (.cells #[.int .i64 st, .slice af nf cf] 90) = w2 at *
  rw [hz1] at blt3 p1
  clear hw1
  go_loopw [5, 6] (fun s5 i wr => ∃ (k : Nat) (m : Int), k ≤ nf ∧ i = .int .i64 k ∧ s5 = .int .i64 m ∧ Hid (Below w2.heap.size w2 wr)) (fun _ i _ => nf - (intOf i).toNat)
  case atStart => exact ⟨0, 0, Nat.zero_le _, rfl, rfl, Below.refl _ _⟩
  case round =>
    obtain ⟨k, m, hk, rfl, rfl, HB⟩ := hrel
    have t0 := (HB.out.cell (p := ⟨w.heap.size, 0, none⟩) hbl).trans q0
    have t1 := (HB.out.cell (p := ⟨w.heap.size, 1, none⟩) hbl).trans q1
    have t2 := (HB.out.cell (p := ⟨w.heap.size, 2, none⟩) hbl).trans q2
    have s1 := (HB.out.cell (p := ⟨w.heap.size + 1, 1, none⟩) blt3).trans p1
    have HBW := Lib.hid (HBY.out.trans (HB.out.mono HBY.out.size))
    by_cases hlt : k < nf
    · have hltI : (k : Int) < (nf : Int) := by omega
      have hwk : IntKind.i64.wrap ((k : Int) + 1) = (k : Int) + 1 := IntWalk.i64_in _ (by omega)
      obtain ⟨b, off, rfl, hcs⟩ := HA.out (by omega)
      obtain ⟨hbs, hcs⟩ := hcs
      have hb2 := (HBW.out.size)
      have hkl : w.heap.size < wr.heap.size := Nat.lt_of_lt_of_le hbl HB.out.size
      have x1 := (HBW.out.cell (p := ⟨b, off + k, none⟩) hbs).trans (hcs k hlt)
      generalize fb[k]?.getD 0 = f at *
      have HS := Lib.hid (fun (w' : World) (hb : Below wr.heap.size wr w') => show Below wr.heap.size wr w' ∧ w'.cell? ⟨w.heap.size, 0, none⟩ = some (.slice a1 m1 c1) ∧ w'.cell? ⟨w.heap.size, 1, none⟩ = some (.slice a2 m2 c2) ∧ w'.cell? ⟨w.heap.size, 2, none⟩ = some (.slice a3 m3 c3) ∧ w'.cell? ⟨w.heap.size + 1, 1, none⟩ = some (.slice (some ⟨b, off, none⟩) nf cf) ∧ w'.cell? ⟨b, off + k, none⟩ = some (.int .i64 f) from
        ⟨hb, (hb.cell (p := ⟨w.heap.size, 0, none⟩) hkl).trans t0, (hb.cell (p := ⟨w.heap.size, 1, none⟩) hkl).trans t1, (hb.cell (p := ⟨w.heap.size, 2, none⟩) hkl).trans t2, (hb.cell (p := ⟨w.heap.size + 1, 1, none⟩) (Nat.lt_of_lt_of_le blt3 HB.out.size)).trans s1, (hb.cell (p := ⟨b, off + k, none⟩) (Nat.lt_of_lt_of_le hbs HBW.out.size)).trans x1⟩)
      have HUR := Lib.hid (fun w' (hb : Below wr.heap.size wr w') => HU.out f w' (HBW.out.trans (hb.mono HBW.out.size)))
      have hb0 := (Below.refl wr.heap.size wr).drew
      go_wp2_with fail
      clear t0 t1 t2 s1 x1 hcs
      go_region_held3 (fun w' => Below wr.heap.size wr w' ∧ w'.cell? ⟨w.heap.size, 0, none⟩ = some (.slice a1 m1 c1) ∧ w'.cell? ⟨w.heap.size, 1, none⟩ = some (.slice a2 m2 c2) ∧ w'.cell? ⟨w.heap.size, 2, none⟩ = some (.slice a3 m3 c3) ∧ w'.cell? ⟨w.heap.size + 1, 1, none⟩ = some (.slice (some ⟨b, off, none⟩) nf cf) ∧ w'.cell? ⟨b, off + k, none⟩ = some (.int .i64 f))
        (first | exact HS.out _ (by assumption))
        (first | (go_at_call 191; (with_reducible refine (HUR.out _ hb0).mono ?_); rintro e w7 ⟨m7, rfl, b7⟩; have B7 := hb0.trans (b7.mono hb0.size)))
      all_goals
        have HB7 := Lib.hid (HB.out.trans (B7.mono HB.out.size))
        clear b7 B7
        go_wp2_with fail
        go_roundw
        case rel => exact ⟨k + 1, _, by omega, by go_num, rfl, HB7.out⟩
        case measure => simp [intOf]; omega
    · have hltI : ¬ (k : Int) < (nf : Int) := by omega
      go_wp2_with fail
      go_ret
      exact ⟨⟨_, rfl⟩, HBW.out⟩
end Go.Proofs.YtmkkdenhjfjmgaaGreat
namespace Go.Proofs.YtmkkdenhjfjmgaaGreat
open Go.RowKit Go.Sort
set_option maxRecDepth 100000

/-- The cells of lights, each with the value of its fibers. -/
def ltc (ps : List (Lgt × Value)) : List Value := ps.flatMap fun p => [.int .i64 p.1.id, .int .i64 p.1.st, p.2, .int .i64 p.1.fi, .int .i64 p.1.ct]
theorem ltc_len (ps : List (Lgt × Value)) : (ltc ps).length = ps.length * 5 := by
  unfold ltc
  induction ps with
  | nil => rfl
  | cons p ps ih => rw [List.flatMap_cons, List.length_append, ih, List.length_cons]; simp; omega
theorem ltc_app (a b : List (Lgt × Value)) : ltc (a ++ b) = ltc a ++ ltc b := by unfold ltc; rw [List.flatMap_append]
/-- A row of lights of the call's own; the rows of fibers read, and lie elsewhere. -/
structure LtRow (w : World) (base : Nat) (v : Value) (ps : List (Lgt × Value)) : Prop where
  row : w.ownsRow base 94 5 v ps.length (ltc ps)
  els : ∀ p ∈ ps, OwR w base p.2 p.1.fb ∧ p.1.fb.length ≤ 1000 ∧ Apt p.2 v
theorem LtRow.kept {w w' : World} {base : Nat} {v : Value} {ps : List (Lgt × Value)} (h : LtRow w base v ps) (hk : ∀ g, base ≤ g → g < w.heap.size → w'.heap[g]? = w.heap[g]?) : LtRow w' base v ps :=
  ⟨row_kept0 h.row fun g hg => hk g (h.row.lt g hg).1 (h.row.lt g hg).2, fun p hp => ⟨(h.els p hp).1.kept fun g hg => hk g ((h.els p hp).1.lt g hg).1 ((h.els p hp).1.lt g hg).2, (h.els p hp).2⟩⟩
theorem LtRow.below {w w' : World} {base : Nat} {v : Value} {ps : List (Lgt × Value)} (h : LtRow w base v ps) (hb : Below w.heap.size w w') : LtRow w' base v ps := h.kept fun g _ hg => hb.block g hg
theorem LtRow.cs {w1 w2 : World} {base B K : Nat} {c v : Value} {ps : List (Lgt × Value)} (h : LtRow w1 base v ps) (hB : B < base) (hc : CS w1 B c K w2) : LtRow w2 base v ps :=
  h.kept fun g h1 h2 => hc.2.2.block g h2 fun e => by have := Option.some.inj e; omega
theorem LtRow.base {w : World} {b b' : Nat} {v : Value} {ps : List (Lgt × Value)} (h : LtRow w b v ps) (hb : b' ≤ b) : LtRow w b' v ps :=
  ⟨⟨h.row.1, h.row.2.imp id fun ⟨g, cap, cur, k1, k2, k3⟩ => ⟨g, cap, cur, k1, Nat.le_trans hb k2, k3⟩⟩, fun p hp => ⟨(h.els p hp).1.base hb, (h.els p hp).2⟩⟩
theorem ltc_at (ps : List (Lgt × Value)) (i r : Nat) (hr : r < 5) : (ltc ps)[i * 5 + r]? = (ps[i]?).bind fun p => [Value.int .i64 p.1.id, .int .i64 p.1.st, p.2, .int .i64 p.1.fi, .int .i64 p.1.ct][r]? := by
  unfold ltc
  induction ps generalizing i with
  | nil => simp
  | cons p ps ih =>
    rw [List.flatMap_cons]
    cases i with
    | zero => rw [Nat.zero_mul, Nat.zero_add, List.getElem?_append_left (by simp; omega)]; rfl
    | succ i =>
      rw [List.getElem?_append_right (by simp; omega)]
      have : (i + 1) * 5 + r - [Value.int .i64 p.1.id, .int .i64 p.1.st, p.2, .int .i64 p.1.fi, .int .i64 p.1.ct].length = i * 5 + r := by simp; omega
      rw [this, ih]; rfl
theorem LtRow.rd {w : World} {base : Nat} {v : Value} {ps : List (Lgt × Value)} (h : LtRow w base v ps) : Rdt w (rws 5 lgtD (ps.map Prod.fst)) v := by
  have hl := h.row.1
  rcases h.row.2 with ⟨rfl, h0⟩ | ⟨g, cap, cur, rfl, q1, q2, q3, q4, q5, q6⟩
  · have : ps = [] := List.eq_nil_of_length_eq_zero h0
    subst this
    exact .nil 5
  · have hcells := World.ownsRow.cells h.row (g := g) rfl
    have hlen : ((ps.map Prod.fst).flatMap lgtD).length = ps.length * 5 := by rw [rws_len (m := 5) (fun _ => rfl)]; simp
    refine .mk (us := ltc ps) hlen (by rw [ltc_len]; exact hlen.symm) q3 q4 (Array.getElem?_eq_some_iff.1 q2).1 (fun j u hj => ?_) (fun j d u h1 h2 => ?_)
    · have := hcells j u hj
      rwa [addr_add] at this
    · have hj : j < ps.length * 5 := by rw [← ltc_len]; exact (List.getElem?_eq_some_iff.1 h2).1
      obtain ⟨i, r, hr, rfl⟩ : ∃ i r, r < 5 ∧ j = i * 5 + r := ⟨j / 5, j % 5, by omega, by omega⟩
      have hi : i < ps.length := by omega
      rw [ltc_at ps i r hr, List.getElem?_eq_getElem hi] at h2
      rw [flat_at (show ∀ z, (lgtD z).length = 5 from fun _ => rfl) _ i r hr, List.getElem?_map, List.getElem?_eq_getElem hi] at h1
      have he := h.els _ (List.getElem_mem hi)
      generalize ps[i] = p at *
      match r, hr with
      | 0, _ => simp [lgtD] at h1 h2; subst h1; subst h2; exact .leaf _
      | 1, _ => simp [lgtD] at h1 h2; subst h1; subst h2; exact .leaf _
      | 2, _ => simp [lgtD] at h1 h2; subst h1; subst h2; exact (Own.odt he.1.own).rd
      | 3, _ => simp [lgtD] at h1 h2; subst h1; subst h2; exact .leaf _
      | 4, _ => simp [lgtD] at h1 h2; subst h1; subst h2; exact .leaf _
end Go.Proofs.YtmkkdenhjfjmgaaGreat
namespace Go.Proofs.YtmkkdenhjfjmgaaGreat
open Go.RowKit Go.Sort
set_option maxRecDepth 100000

theorem Tryz.infoLgtD : (Tryz.prog.info? 94).map (fun i => (i.zero, i.size, i.bytes)) = some (some (.agg #[.int .i64 0, .int .i64 0, .slice none 0 0, .int .i64 0, .int .i64 0]), 5, 56) := by kernel_rfl
abbrev nilLV : Lgt × Value := (nilL, .slice none 0 0)
/-- The cells of one light. -/
theorem LtRow.at {w : World} {base m c : Nat} {a : Option Addr} {ps : List (Lgt × Value)} (h : LtRow w base (.slice a m c) ps) (i : Nat) (hi : i < ps.length) :
    ∃ g, a = some ⟨g, 0, none⟩ ∧ g < w.heap.size ∧ w.cell? ⟨g, i * 5, none⟩ = some (.int .i64 (ps[i]?.getD nilLV).1.id) ∧ w.cell? ⟨g, i * 5 + 1, none⟩ = some (.int .i64 (ps[i]?.getD nilLV).1.st) ∧ w.cell? ⟨g, i * 5 + 2, none⟩ = some (ps[i]?.getD nilLV).2 ∧ w.cell? ⟨g, i * 5 + 3, none⟩ = some (.int .i64 (ps[i]?.getD nilLV).1.fi) ∧ w.cell? ⟨g, i * 5 + 4, none⟩ = some (.int .i64 (ps[i]?.getD nilLV).1.ct) := by
  rcases h.row.2 with ⟨h1, h2⟩ | ⟨g, cap, cur, h1, h2, h3, _⟩
  · omega
  · cases h1
    have hc := World.ownsRow.cells h.row (g := g) rfl
    have hat : ∀ r, r < 5 → ∀ u, [Value.int .i64 (ps[i]?.getD nilLV).1.id, .int .i64 (ps[i]?.getD nilLV).1.st, (ps[i]?.getD nilLV).2, .int .i64 (ps[i]?.getD nilLV).1.fi, .int .i64 (ps[i]?.getD nilLV).1.ct][r]? = some u → w.cell? ⟨g, i * 5 + r, none⟩ = some u := fun r hr u hu => by
      have := hc (i * 5 + r) u (by rw [ltc_at ps i r hr, List.getElem?_eq_getElem hi]; rw [List.getElem?_eq_getElem hi] at hu; exact hu)
      rw [addr_add, Nat.zero_add] at this
      exact this
    exact ⟨g, rfl, (Array.getElem?_eq_some_iff.1 h3).1, hat 0 (by omega) _ rfl, hat 1 (by omega) _ rfl, hat 2 (by omega) _ rfl, hat 3 (by omega) _ rfl, hat 4 (by omega) _ rfl⟩
/-- A plan in rows of the call's own. -/
structure PlD (w : World) (base : Nat) (u1 u2 u3 : Value) (n : Net) (ps : List (Lgt × Value)) : Prop where
  n : NtD w base u1 u2 n
  l : LtRow w base u3 ps
  ap : Apt u1 u3 ∧ Apt u2 u3
  len : ps.length ≤ 30
theorem PlD.kept {w w' : World} {base : Nat} {u1 u2 u3 : Value} {n : Net} {ps : List (Lgt × Value)} (h : PlD w base u1 u2 u3 n ps) (hk : ∀ g, base ≤ g → g < w.heap.size → w'.heap[g]? = w.heap[g]?) : PlD w' base u1 u2 u3 n ps :=
  ⟨h.n.kept fun g h1 h2 => hk g h1 (h.n.lt g h2).2, h.l.kept hk, h.ap, h.len⟩
theorem PlD.below {w w' : World} {base : Nat} {u1 u2 u3 : Value} {n : Net} {ps : List (Lgt × Value)} (h : PlD w base u1 u2 u3 n ps) (hb : Below w.heap.size w w') : PlD w' base u1 u2 u3 n ps := h.kept fun g _ hg => hb.block g hg
theorem PlD.cs {w1 w2 : World} {base B K : Nat} {c u1 u2 u3 : Value} {n : Net} {ps : List (Lgt × Value)} (h : PlD w1 base u1 u2 u3 n ps) (hB : B < base) (hc : CS w1 B c K w2) : PlD w2 base u1 u2 u3 n ps :=
  h.kept fun g h1 h2 => hc.2.2.block g h2 fun e => by have := Option.some.inj e; omega
theorem PlD.base {w : World} {b b' : Nat} {u1 u2 u3 : Value} {n : Net} {ps : List (Lgt × Value)} (h : PlD w b u1 u2 u3 n ps) (hb : b' ≤ b) : PlD w b' u1 u2 u3 n ps := ⟨h.n.base hb, h.l.base hb, h.ap, h.len⟩
theorem PlD.rd {w : World} {base : Nat} {u1 u2 u3 : Value} {n : Net} {ps : List (Lgt × Value)} (h : PlD w base u1 u2 u3 n ps) : PlnR w (.agg #[u1, u2, u3]) ⟨n, ps.map Prod.fst⟩ := by
  obtain ⟨x1, x2, e, r1, r2, r3⟩ := h.n.rd
  simp only [Value.agg.injEq, Array.mk.injEq, List.cons.injEq, and_true] at e
  obtain ⟨rfl, rfl⟩ := e
  exact ⟨u1, u2, u3, rfl, r1, r2, h.l.rd, r3⟩
/-- What l9Own keeps. -/
structure OwL (w2 wr : World) (b3 : Nat) (v1 v2 v3 : Value) (n : Net) (qs : List (Lgt × Value)) : Prop where
  bel : Below w2.heap.size w2 wr
  hb : w2.heap.size ≤ b3
  box : wr.heap[b3]? = some (.cells #[v1, v2, v3] 38 (0, 0))
  nt : NtD wr w2.heap.size v1 v2 n
  lo : ∀ g, (v1.ownBlock = some g ∨ v2.ownBlock = some g) → g < b3
  lt : LtRow wr (b3 + 1) v3 qs
theorem OwL.below {w2 wr w' : World} {b3 : Nat} {v1 v2 v3 : Value} {n : Net} {qs : List (Lgt × Value)} (h : OwL w2 wr b3 v1 v2 v3 n qs) (hb : Below wr.heap.size wr w') : OwL w2 w' b3 v1 v2 v3 n qs :=
  ⟨h.bel.trans (hb.mono h.bel.size), h.hb, kept_o' h.box hb, h.nt.below hb, h.lo, h.lt.below hb⟩
theorem OwL.app {w2 wr w' : World} {b3 : Nat} {v1 v2 v3 v' s : Value} {n : Net} {x : Lgt} {qs : List (Lgt × Value)} (h : OwL w2 wr b3 v1 v2 v3 n qs) (hr : w'.ownsRow (b3 + 1) 94 5 v' (qs ++ [(x, s)]).length (ltc (qs ++ [(x, s)]))) (hg : wr.grownBy w' v3.ownBlock) (hl : v'.ownBlock = v3.ownBlock ∨ v'.ownBlock = some wr.heap.size) (hs : OwR wr (b3 + 1) s x.fb) (hs3 : Apt s v3) (hx : x.fb.length ≤ 1000) :
    OwL w2 (w'.setCell ⟨b3, 2, none⟩ v') b3 v1 v2 v' n (qs ++ [(x, s)]) := by
  have hb := h.hb
  have l3 := (Array.getElem?_eq_some_iff.1 h.box).1
  have h3 : ∀ q, v3.ownBlock = some q → b3 + 1 ≤ q := fun q hq => (h.lt.row.lt q hq).1
  have hk : ∀ g, g < wr.heap.size → v3.ownBlock ≠ some g → (w'.setCell ⟨b3, 2, none⟩ v').heap[g]? = (if g = b3 then (w'.setCell ⟨b3, 2, none⟩ v').heap[g]? else wr.heap[g]?) := fun g h1 h2 => by
    split
    · rfl
    · rename_i hne
      rw [heap_setCell_other w' ⟨b3, 2, none⟩ g v' hne]
      exact hg.block g h1 fun e => h2 e.symm
  have hk2 : ∀ g, g < wr.heap.size → v3.ownBlock ≠ some g → g ≠ b3 → (w'.setCell ⟨b3, 2, none⟩ v').heap[g]? = wr.heap[g]? := fun g h1 h2 h4 => by rw [hk g h1 h2, if_neg h4]
  have hap : ∀ u, Apt u v3 → (∀ q, u.ownBlock = some q → q < wr.heap.size) → Apt u v' := fun u hu hq q e1 e2 => by
    rcases hl with hl | hl
    · exact hu q e1 (hl.symm.trans e2)
    · have h1 := hq q e1
      rw [hl] at e2
      have := Option.some.inj e2
      omega
  have hbx : w'.heap[b3]? = some (.cells #[v1, v2, v3] 38 (0, 0)) := (hg.block b3 l3 fun e => by have := h3 b3 e.symm; omega).trans h.box
  refine ⟨(h.bel.grown hg h.bel.size fun q hq => by have := h3 q hq; omega).setCell (p := ⟨b3, 2, none⟩) hb v', hb, heap_setCell_same w' b3 2 _ _ v' hbx, h.nt.kept fun g _ hg' => ?_, h.lo, ⟨?_, fun p hp => ?_⟩⟩
  · have h1 := h.lo g hg'
    exact hk2 g (by omega) (fun e => by have := h3 g e; omega) (by omega)
  · refine row_kept0 hr fun g hg' => heap_setCell_other w' ⟨b3, 2, none⟩ g v' ?_
    have := (World.ownsRow.lt hr g hg').1
    show g ≠ b3
    omega
  · rcases List.mem_append.1 hp with hp | hp
    · obtain ⟨e1, e2, e3⟩ := h.lt.els p hp
      exact ⟨e1.kept fun g hg' => hk2 g (e1.lt g hg').2 (fun e => e3 g hg' e) (by have := (e1.lt g hg').1; omega), e2, hap _ e3 fun q hq => (e1.lt q hq).2⟩
    · rw [List.mem_singleton.1 hp]
      exact ⟨hs.kept fun g hg' => hk2 g (hs.lt g hg').2 (fun e => hs3 g hg' e) (by have := (hs.lt g hg').1; omega), hx, hap _ hs3 fun q hq => (hs.lt q hq).2⟩
def OwnPlP (n : Net) (xs : List Lgt) (w : World) (e : Ending) (w' : World) : Prop := ∃ v1 v2 v3 qs, e = .returned (.agg #[v1, v2, v3]) ∧ PlD w' w.heap.size v1 v2 v3 n qs ∧ qs.map Prod.fst = xs ∧ Below w.heap.size w w'
theorem OwL.done {w w2 wr : World} {b3 : Nat} {v1 v2 v3 : Value} {n : Net} {qs : List (Lgt × Value)} {xs : List Lgt} (h : OwL w2 wr b3 v1 v2 v3 n qs) (h2 : Below w.heap.size w w2) (hz : w2.heap.size = w.heap.size + 2) (hx : qs.map Prod.fst = xs) (hl : qs.length ≤ 30) :
    OwnPlP n xs w (.returned (.agg #[v1, v2, v3])) (((wr.setCell ⟨w.heap.size + 1, 0, none⟩ v1).setCell ⟨w.heap.size + 1, 1, none⟩ v2).setCell ⟨w.heap.size + 1, 2, none⟩ v3) := by
  have hb := h.hb
  have hd : PlD wr w2.heap.size v1 v2 v3 n qs := ⟨h.nt, h.lt.base (by omega), ⟨fun q e1 e2 => by have := h.lo q (.inl e1); have := (h.lt.row.lt q e2).1; omega, fun q e1 e2 => by have := h.lo q (.inr e1); have := (h.lt.row.lt q e2).1; omega⟩, hl⟩
  refine ⟨v1, v2, v3, qs, rfl, (hd.kept fun g h1 _ => ?_).base (by omega), hx, (((h2.trans (h.bel.mono h2.size)).setCell (p := ⟨w.heap.size + 1, 0, none⟩) (Nat.le_succ _) v1).setCell (p := ⟨w.heap.size + 1, 1, none⟩) (Nat.le_succ _) v2).setCell (p := ⟨w.heap.size + 1, 2, none⟩) (Nat.le_succ _) v3⟩
  rw [heap_setCell_other _ _ _ _ (show g ≠ w.heap.size + 1 by omega), heap_setCell_other _ _ _ _ (show g ≠ w.heap.size + 1 by omega), heap_setCell_other _ _ _ _ (show g ≠ w.heap.size + 1 by omega)]
set_option maxHeartbeats 12800000 in
theorem l9Own_any (b0 : Nat) (u1 u2 u3 : Value) (n : Net) (ps : List (Lgt × Value)) (w : World) (hp : PlD w b0 u1 u2 u3 n ps) :
    Calls Tryz.prog 192 #[.agg #[u1, u2, u3]] w (OwnPlP n (ps.map Prod.fst) w) := by
  obtain ⟨⟨a1, c1, rfl⟩, a2, c2, rfl⟩ := hp.n.slices
  obtain ⟨a3, c3, rfl⟩ := row_form0 hp.l.row
  obtain ⟨NP, hNP⟩ : ∃ NP, NP = OwnPlP n (ps.map Prod.fst) w := ⟨_, rfl⟩
  rw [← hNP]
  have b1 := (Below.refl w.heap.size w).alloc (Nat.le_refl _) (.cells #[.slice a1 n.ns.length c1, .slice a2 n.fs.length c2, .slice a3 ps.length c3] 38)
  have b2 := b1.alloc b1.size (.cells #[.slice none 0 0, .slice none 0 0, .slice none 0 0] 38)
  have HB2 := Lib.hid b2
  have HP2 := Lib.hid (hp.below b2)
  have hl30 := hp.len
  have HX1 := Lib.hid (show ((w.alloc (.cells #[.slice a1 n.ns.length c1, .slice a2 n.fs.length c2, .slice a3 ps.length c3] 38)).alloc (.cells #[.slice none 0 0, .slice none 0 0, .slice none 0 0] 38)).heap[w.heap.size]? = some (.cells #[.slice a1 n.ns.length c1, .slice a2 n.fs.length c2, .slice a3 ps.length c3] 38 (0, 0)) from (heap_alloc_old _ _ (by simp)).trans (heap_alloc_new w _))
  have HX2 := Lib.hid (show ((w.alloc (.cells #[.slice a1 n.ns.length c1, .slice a2 n.fs.length c2, .slice a3 ps.length c3] 38)).alloc (.cells #[.slice none 0 0, .slice none 0 0, .slice none 0 0] 38)).heap[w.heap.size + 1]? = some (.cells #[.slice none 0 0, .slice none 0 0, .slice none 0 0] 38 (0, 0)) from by have := heap_alloc_new (w.alloc (.cells #[.slice a1 n.ns.length c1, .slice a2 n.fs.length c2, .slice a3 ps.length c3] 38)) (.cells #[.slice none 0 0, .slice none 0 0, .slice none 0 0] 38); simpa using this)
  have HZ2 := Lib.hid (show ((w.alloc (.cells #[.slice a1 n.ns.length c1, .slice a2 n.fs.length c2, .slice a3 ps.length c3] 38)).alloc (.cells #[.slice none 0 0, .slice none 0 0, .slice none 0 0] 38)).heap.size = w.heap.size + 2 by simp)
  have q0 : ((w.alloc (.cells #[.slice a1 n.ns.length c1, .slice a2 n.fs.length c2, .slice a3 ps.length c3] 38)).alloc (.cells #[.slice none 0 0, .slice none 0 0, .slice none 0 0] 38)).cell? ⟨w.heap.size, 0, none⟩ = some (.slice a1 n.ns.length c1) := blkc HX1.out rfl
  have q1 : ((w.alloc (.cells #[.slice a1 n.ns.length c1, .slice a2 n.fs.length c2, .slice a3 ps.length c3] 38)).alloc (.cells #[.slice none 0 0, .slice none 0 0, .slice none 0 0] 38)).cell? ⟨w.heap.size, 1, none⟩ = some (.slice a2 n.fs.length c2) := blkc HX1.out rfl
  clear b1 b2 hp
  go_enter Tryz.func192, Tryz.ntmps192
  go_wp2_with fail
  generalize ((w.alloc (.cells #[.slice a1 n.ns.length c1, .slice a2 n.fs.length c2, .slice a3 ps.length c3] 38)).alloc (.cells #[.slice none 0 0, .slice none 0 0, .slice none 0 0] 38)) = w2 at *
  refine (l2OwnD_any b0 _ _ n w2 HP2.out.n).mono ?_
  rintro e w3 ⟨v1, v2, rfl, hd3, hb3⟩
  obtain ⟨⟨d1, e1, rfl⟩, d2, e2, rfl⟩ := hd3.slices
  have hz3 := hb3.size
  have CC := Lib.hid (show OwL w2 (w3.alloc (.cells #[.slice d1 n.ns.length e1, .slice d2 n.fs.length e2, .slice none 0 0] 38)) w3.heap.size (.slice d1 n.ns.length e1) (.slice d2 n.fs.length e2) (.slice none 0 0) n [] from
    ⟨hb3.alloc hz3 _, hz3, heap_alloc_new _ _, hd3.below ((Below.refl _ _).alloc (Nat.le_refl _) _), fun g hg => (hd3.lt g hg).2, ⟨⟨rfl, .inl ⟨rfl, rfl⟩⟩, fun p hp => by cases hp⟩⟩)
  clear hd3 hb3 q0 q1
  go_wp2_with fail
  generalize w3.heap.size = b3 at *
  generalize hm : ps.length = m at *
  have HM := Lib.hid hm
  clear hm
  have hzz := HZ2.out
  have hb3l := CC.out.hb
  go_loopw [4] (fun i wr => ∃ (k : Nat) (v3 : Value) (qs : List (Lgt × Value)), k ≤ m ∧ i = .int .i64 k ∧ qs.length = k ∧ Hid (qs.map Prod.fst = (ps.map Prod.fst).take k) ∧ Hid (OwL w2 wr b3 (.slice d1 n.ns.length e1) (.slice d2 n.fs.length e2) v3 n qs)) (fun i _ => m - (intOf i).toNat)
  case atStart => exact ⟨0, _, [], Nat.zero_le _, rfl, rfl, rfl, CC.out⟩
  case round =>
    clear CC
    obtain ⟨k, v3, qs, hk, rfl, hqk, HQM, CC⟩ := hrel
    obtain ⟨a9, c9, rfl⟩ := row_form0 CC.out.lt.row
    rw [hqk] at CC
    have HQK := Lib.hid hqk
    have t2 : wr.cell? ⟨w.heap.size, 2, none⟩ = some (.slice a3 m c3) := (CC.out.bel.cell (p := ⟨w.heap.size, 2, none⟩) (show w.heap.size < _ by omega)).trans (blkc HX1.out rfl)
    have y2 : wr.cell? ⟨b3, 2, none⟩ = some (.slice a9 k c9) := blkc CC.out.box rfl
    have HPW := Lib.hid (HP2.out.below CC.out.bel)
    by_cases hlt : k < m
    · have hltI : (k : Int) < (m : Int) := by omega
      have hwk : IntKind.i64.wrap ((k : Int) + 1) = (k : Int) + 1 := IntWalk.i64_in _ (by omega)
      have hlp : k < ps.length := by rw [HM.out]; exact hlt
      obtain ⟨g, rfl, hg, x0, x1, x2, x3, x4⟩ := HPW.out.l.at k hlp
      have hel := HPW.out.l.els (ps[k]?.getD nilLV) (by rw [List.getElem?_eq_getElem hlp]; exact List.getElem_mem hlp)
      have HTK := Lib.hid (show (ps.map Prod.fst).take (k + 1) = (ps.map Prod.fst).take k ++ [(ps[k]?.getD nilLV).1] by
        rw [List.take_add_one, List.getElem?_map, List.getElem?_eq_getElem hlp]; rfl)
      generalize ps[k]?.getD nilLV = y at *
      obtain ⟨x, vx⟩ := y
      simp only at x0 x1 x2 x3 x4 hel HTK
      obtain ⟨ax, cx, rfl⟩ := row_form0 hel.1
      have HLX := Lib.hid hel.2.1
      have hb0 := (Below.refl wr.heap.size wr).drew
      have HCP := Lib.hid (l9Copy_any x (.slice ax x.fb.length cx) wr.drew ((hel.1.below hb0).own.rd) (by have := hel.2.1; omega))
      have y2d : wr.drew.cell? ⟨b3, 2, none⟩ = some (.slice a9 k c9) := y2
      have hbw := (Array.getElem?_eq_some_iff.1 CC.out.box).1
      clear hel
      go_wp2_with fail
      go_region_law (first
        | ((refine step_of_list rfl ?_); (with_reducible show wpList _ _ _ (⟨some 25, _, _, _, _, _⟩ :: _) _ _); (go_loud (refine wpList_catG rfl (.tmp 17) (.tmp 24) 36 94 rfl Tryz.underlying36 (.agg #[.int .i64 0, .int .i64 0, .slice none 0 0, .int .i64 0, .int .i64 0]) 5 56 Tryz.infoLgtD rfl (by decide) (b3 + 1) (.slice a9 k c9) k (ltc qs) (by rfl) HR6.out (some ⟨_, 0, none⟩) 1 _ (ltc [(x, .slice g5 x.fb.length h5)]) (by rfl) rfl (fun e => by cases e) (fun ad e j u hu => by cases e; exact World.news_of_block (heap_alloc_new w5 (.cells #[.int .i64 x.id, .int .i64 x.st, .slice g5 x.fb.length h5, .int .i64 x.fi, .int .i64 x.ct] 94)) j u hu) HOC.out (by unfold maxLen; omega) (by omega) hs6 ?_)); (intro v8 w8 o8 g8 l8); (obtain ⟨a8, c8, rfl⟩ := row_form0 o8); (have HP8 := Lib.hid (CC6.out.app (qs := qs) (v' := .slice a8 (k + 1) c8) (by rw [List.length_append, HQK.out, ltc_app]; exact o8) g8 l8 HX6.out HA6.out HLX.out)); (have x8 := (g8.block b3 hb6 fun e => hn6 e).trans CC6.out.box); (have y8 := blkc x8 (show _ = some _ from rfl) (j := 2)); (have f8 : w8.frozen? ⟨b3, 2, none⟩ = false := (by simp only [World.frozen?, x8]; rfl)); (clear o8 g8 l8 x8); (unfold wpList); (refine ⟨rfl, ?_⟩))
        | (go_simp; go_at_call 193; (with_reducible refine HCP.out.mono ?_); rintro e w5 ⟨v5, rfl, o5, b5⟩; (obtain ⟨g5, h5, rfl⟩ := row_form0 o5); have CC5 := Lib.hid (CC.out.below (hb0.trans (b5.mono hb0.size))); have y5 := blkc CC5.out.box (show _ = some _ from rfl) (j := 2); have CC6 := Lib.hid (CC5.out.below ((Below.refl w5.heap.size w5).alloc (Nat.le_refl _) (.cells #[.int .i64 x.id, .int .i64 x.st, .slice g5 x.fb.length h5, .int .i64 x.fi, .int .i64 x.ct] 94))); have y6 := blkc CC6.out.box (show _ = some _ from rfl) (j := 2); have HR6 := Lib.hid (show (w5.alloc (.cells #[.int .i64 x.id, .int .i64 x.st, .slice g5 x.fb.length h5, .int .i64 x.fi, .int .i64 x.ct] 94)).ownsRow (b3 + 1) 94 5 (.slice a9 k c9) k (ltc qs) from by have := CC6.out.lt.row; rw [HQK.out] at this; exact this); have hs6 : b3 + 1 ≤ (w5.alloc (.cells #[.int .i64 x.id, .int .i64 x.st, .slice g5 x.fb.length h5, .int .i64 x.fi, .int .i64 x.ct] 94)).heap.size := (Array.getElem?_eq_some_iff.1 CC6.out.box).1; have hb6 := (Array.getElem?_eq_some_iff.1 CC6.out.box).1; have hn6 : ¬ some b3 = (Value.slice a9 k c9).ownBlock := (fun e => absurd (CC6.out.lt.row.lt b3 e.symm).1 (by omega)); have HX6 := Lib.hid (show OwR (w5.alloc (.cells #[.int .i64 x.id, .int .i64 x.st, .slice g5 x.fb.length h5, .int .i64 x.fi, .int .i64 x.ct] 94)) (b3 + 1) (.slice g5 x.fb.length h5) x.fb from (OwR.below o5 ((Below.refl w5.heap.size w5).alloc (Nat.le_refl _) (.cells #[.int .i64 x.id, .int .i64 x.st, .slice g5 x.fb.length h5, .int .i64 x.fi, .int .i64 x.ct] 94))).base hbw); have HA6 := Lib.hid (show Apt (.slice g5 x.fb.length h5) (.slice a9 k c9) from fun q h1 h2 => absurd (CC.out.lt.row.lt q h2).2 (Nat.not_lt.2 (OwR.lt o5 q h1).1)); have HOC := Lib.hid (show ∀ u ∈ ltc [(x, Value.slice g5 x.fb.length h5)], u.oneCell' = true from fun u hu => by simp [ltc] at hu; rcases hu with rfl | rfl | rfl | rfl | rfl <;> rfl)))
      all_goals
        have hq1 : (qs ++ [(x, Value.slice g5 x.fb.length h5)]).length = k + 1 := by rw [List.length_append, HQK.out]; rfl
        have HQ1 := Lib.hid (show (qs ++ [(x, Value.slice g5 x.fb.length h5)]).map Prod.fst = (ps.map Prod.fst).take (k + 1) by rw [List.map_append, HQM.out, HTK.out]; rfl)
        clear o5 b5 CC5 CC6 HR6 HX6 HA6 y5 y6 y8 f8 x0 x1 x2 x3 x4 t2 y2 y2d
        go_wp2_with fail
        go_roundw
        case rel => exact ⟨k + 1, _, _, by omega, by go_num, hq1, HQ1.out, HP8.out⟩
        case measure => simp [intOf]; omega
    · have hltI : ¬ (k : Int) < (m : Int) := by omega
      obtain rfl : k = m := by omega
      have hx2 := kept_o' HX2.out CC.out.bel
      have z0 := blkc hx2 (show _ = some (Value.slice none 0 0) from rfl) (j := 0)
      have z1 := blkc hx2 (show _ = some (Value.slice none 0 0) from rfl) (j := 1)
      have z2 := blkc hx2 (show _ = some (Value.slice none 0 0) from rfl) (j := 2)
      have f0 : wr.frozen? ⟨w.heap.size + 1, 0, none⟩ = false := by simp only [World.frozen?, hx2]; rfl
      have f1 : wr.frozen? ⟨w.heap.size + 1, 1, none⟩ = false := by simp only [World.frozen?, hx2]; rfl
      have f2 : wr.frozen? ⟨w.heap.size + 1, 2, none⟩ = false := by simp only [World.frozen?, hx2]; rfl
      have y0 := blkc CC.out.box (show _ = some (Value.slice d1 n.ns.length e1) from rfl) (j := 0)
      have y1 := blkc CC.out.box (show _ = some (Value.slice d2 n.fs.length e2) from rfl) (j := 1)
      clear hx2
      go_wp2_with fail
      subst hNP
      exact bodyPost_ret (v := .agg #[.slice d1 n.ns.length e1, .slice d2 n.fs.length e2, .slice a9 k c9]) (by simp [results, Tryz.results192, go_sem, z0, z1, z2]) rfl (CC.out.done HB2.out HZ2.out (by rw [HQM.out, ← HM.out, ← List.length_map (f := Prod.fst), List.take_length]) (by omega))
end Go.Proofs.YtmkkdenhjfjmgaaGreat
