/- Joined: XCpf XGrx XSrtP XNetP XNetW. -/
import Derived.Test.YtmkkdenhjfjmgaaGreatBf02
import Derived.Maps.AppendAt
import Derived.Test.YtmkkdenhjfjmgaaGreatBf01
import Derived.Lib.SlicesCompact
import Derived.Sort.OwnSortedInts
import Derived.Lib.QuietBelow
namespace Go.Proofs.YtmkkdenhjfjmgaaGreat
open Go.RowKit
set_option maxRecDepth 100000

theorem orI_fib (f g : Fib) : decide (0 < orI [cmpI f.a g.a, cmpI f.b g.b, cmpI f.l g.l, cmpI f.r g.r]) = fibGt f g := by
  have hc : ∀ a b : Int, (a = b ∧ cmpI a b = 0) ∨ (a ≠ b ∧ cmpI a b ≠ 0 ∧ decide (0 < cmpI a b) = decide (b < a)) := by
    intro a b
    unfold cmpI
    by_cases h1 : a < b
    · rw [if_pos h1]; right; refine ⟨by omega, by omega, ?_⟩
      rw [decide_eq_false (show ¬ (0:Int) < -1 by omega), decide_eq_false (show ¬ b < a by omega)]
    · rw [if_neg h1]
      by_cases h2 : b < a
      · rw [if_pos h2]; right; refine ⟨by omega, by omega, ?_⟩
        rw [decide_eq_true h2]; rfl
      · rw [if_neg h2]; left; exact ⟨by omega, rfl⟩
  unfold fibGt
  rcases hc f.a g.a with ⟨e1, z1⟩ | ⟨e1, z1, d1⟩
  · rw [if_neg (by simpa using e1), orI, if_pos z1]
    rcases hc f.b g.b with ⟨e2, z2⟩ | ⟨e2, z2, d2⟩
    · rw [if_neg (by simpa using e2), orI, if_pos z2]
      rcases hc f.l g.l with ⟨e3, z3⟩ | ⟨e3, z3, d3⟩
      · rw [if_neg (by simpa using e3), orI, if_pos z3]
        rcases hc f.r g.r with ⟨e4, z4⟩ | ⟨e4, z4, d4⟩
        · rw [orI, if_pos z4, orI, e4, decide_eq_false (by omega), decide_eq_false (by omega)]
        · rw [orI, if_neg z4, d4]
      · rw [if_pos e3, orI, if_neg z3, d3]
    · rw [if_pos e2, orI, if_neg z2, d2]
  · rw [if_pos e1, orI, if_neg z1, d1]
/-- The order of fibers, as the program has it. -/
def cmpF (f g : Fib) : Int := orI [cmpI f.a g.a, cmpI f.b g.b, cmpI f.l g.l, cmpI f.r g.r]
theorem cmpF_gt (f g : Fib) : decide (0 < cmpF f g) = fibGt f g := orI_fib f g
theorem rd_alloc (w : World) (T : TypeId) (xs : List Int) (h : xs.length ≤ maxLen) : Rd (w.alloc (.cells (ints xs).toArray T)) (.slice (some ⟨w.heap.size, 0, none⟩) xs.length xs.length) xs := by
  refine .inr ⟨w.heap.size, 0, xs.length, rfl, Nat.le_refl _, h, by simp, fun j hj => ?_⟩
  have hn := heap_alloc_new w (.cells (ints xs).toArray T)
  rw [cell_of_row _ _ _ _ _ _ hn]
  simp [hj]
theorem blkc {w : World} {b j : Nat} {us : Array Value} {T : TypeId} {u : Value} (h : w.heap[b]? = some (.cells us T (0, 0))) (hj : us[j]? = some u) : w.cell? ⟨b, j, none⟩ = some u := by
  rw [cell_of_row _ _ _ _ _ _ h, hj]
set_option maxHeartbeats 1600000 in
theorem compareFibers_any (f g : Fib) (w : World) :
    Calls Tryz.prog 177 #[fibV f, fibV g] w fun e w' => e = .returned (.int .i64 (cmpF f g)) ∧ Below w.heap.size w w' := by
  have HO := Lib.hid (show cmpF f g = orI [cmpI f.a g.a, cmpI f.b g.b, cmpI f.l g.l, cmpI f.r g.r] from rfl)
  generalize cmpF f g = q at *
  obtain ⟨a, b, l, r⟩ := f
  obtain ⟨a', b', l', r'⟩ := g
  unfold fibV
  go_enter Tryz.func177, Tryz.ntmps177
  go_wp2
  have hA := heap_alloc_new w (.cells #[.int .i64 a, .int .i64 b, .int .i64 l, .int .i64 r] 148)
  have hA2 := (heap_alloc_old _ (.cells #[.int .i64 a', .int .i64 b', .int .i64 l', .int .i64 r'] 148) (Array.getElem?_eq_some_iff.1 hA).1).trans hA
  have hB2 := heap_alloc_new (w.alloc (.cells #[.int .i64 a, .int .i64 b, .int .i64 l, .int .i64 r] 148)) (.cells #[.int .i64 a', .int .i64 b', .int .i64 l', .int .i64 r'] 148)
  rw [show (w.alloc (.cells #[.int .i64 a, .int .i64 b, .int .i64 l, .int .i64 r] 148)).heap.size = w.heap.size + 1 by simp] at hB2
  have hal := (Below.refl w.heap.size w).alloc (Nat.le_refl _) (.cells #[.int .i64 a, .int .i64 b, .int .i64 l, .int .i64 r] 148)
  have HB := Lib.hid (hal.alloc hal.size (.cells #[.int .i64 a', .int .i64 b', .int .i64 l', .int .i64 r'] 148))
  clear hA hal
  generalize (w.alloc (.cells #[.int .i64 a, .int .i64 b, .int .i64 l, .int .i64 r] 148)).alloc (.cells #[.int .i64 a', .int .i64 b', .int .i64 l', .int .i64 r'] 148) = W at *
  have c0 := blkc hA2 (j := 0) rfl
  have c1 := blkc hA2 (j := 1) rfl
  have c2 := blkc hA2 (j := 2) rfl
  have c3 := blkc hA2 (j := 3) rfl
  have c4 := blkc hB2 (j := 0) rfl
  have c5 := blkc hB2 (j := 1) rfl
  have c6 := blkc hB2 (j := 2) rfl
  have c7 := blkc hB2 (j := 3) rfl
  clear hA2 hB2
  go_still_tail 20, (by kernel_rfl)
  still_call ((compare_any _ _ _).mono fun _ _ h => ⟨h.1, h.2.symm⟩)
  repeat still_step
  still_call ((compare_any _ _ _).mono fun _ _ h => ⟨h.1, h.2.symm⟩)
  repeat still_step
  still_call ((compare_any _ _ _).mono fun _ _ h => ⟨h.1, h.2.symm⟩)
  repeat still_step
  still_call ((compare_any _ _ _).mono fun _ _ h => ⟨h.1, h.2.symm⟩)
  repeat still_step
  refine wpStill_nil ?_
  go_wp2_with fail
  refine (or_any _ [cmpI a a', cmpI b b', cmpI l l', cmpI r r'] _ (show Rd (W.alloc (.cells #[.int .i64 (cmpI a a'), .int .i64 (cmpI b b'), .int .i64 (cmpI l l'), .int .i64 (cmpI r r')] 3)).drew (.slice (some ⟨W.heap.size, 0, none⟩) 4 4) [cmpI a a', cmpI b b', cmpI l l', cmpI r r'] from (rd_alloc W 3 [cmpI a a', cmpI b b', cmpI l l', cmpI r r'] (by show 4 ≤ maxLen; decide)).drew)).mono ?_
  rintro e w' ⟨rfl, rfl⟩
  go_wp2
  go_ret
  exact ⟨by rw [HO.out]; rfl, (HB.out.alloc HB.out.size _).drew⟩
end Go.Proofs.YtmkkdenhjfjmgaaGreat
namespace Go.Proofs.YtmkkdenhjfjmgaaGreat
open Go.RowKit

/-- Elements, their cells and their blocks. -/
structure Els (w : World) (lo : Nat) (ds : List Dt) (us : List Value) (fs : List (List Nat)) : Prop where
  ul : us.length = ds.length
  fl : fs.length = ds.length
  els : ∀ (j : Nat) (d : Dt) (u : Value) (f : List Nat), ds[j]? = some d → us[j]? = some u → fs[j]? = some f → Odt w d u f
  nd : fs.flatten.Nodup
  lo : ∀ k ∈ fs.flatten, lo ≤ k
theorem Els.lt {w : World} {lo : Nat} {ds : List Dt} {us : List Value} {fs : List (List Nat)} (h : Els w lo ds us fs) : ∀ k ∈ fs.flatten, k < w.heap.size := Grw.flt h.ul h.fl h.els
theorem Els.kept {w w' : World} {lo : Nat} {ds : List Dt} {us : List Value} {fs : List (List Nat)} (h : Els w lo ds us fs) (hk : ∀ k ∈ fs.flatten, w'.heap[k]? = w.heap[k]?) : Els w' lo ds us fs :=
  ⟨h.ul, h.fl, fun j d u f e1 e2 e3 => (h.els j d u f e1 e2 e3).kept fun k hk' => hk k (List.mem_flatten.2 ⟨f, List.mem_of_getElem? e3, hk'⟩), h.nd, h.lo⟩
theorem Els.below {w w' : World} {lo : Nat} {ds : List Dt} {us : List Value} {fs : List (List Nat)} (h : Els w lo ds us fs) (hb : Below w.heap.size w w') : Els w' lo ds us fs := h.kept fun k hk => hb.block k (h.lt k hk)
theorem Els.mono {w : World} {lo lo' : Nat} {ds : List Dt} {us : List Value} {fs : List (List Nat)} (h : Els w lo ds us fs) (hl : lo' ≤ lo) : Els w lo' ds us fs := ⟨h.ul, h.fl, h.els, h.nd, fun k hk => Nat.le_trans hl (h.lo k hk)⟩
theorem Els.nil (w : World) (lo : Nat) : Els w lo [] [] [] := ⟨rfl, rfl, fun j d u f e => by simp at e, List.nodup_nil, fun k hk => by simp at hk⟩
theorem Els.one {w : World} {lo : Nat} {d : Dt} {u : Value} {fp : List Nat} (h : Odt w d u fp) (hn : fp.Nodup) (hl : ∀ k ∈ fp, lo ≤ k) : Els w lo [d] [u] [fp] := by
  refine ⟨rfl, rfl, fun j d' u' f' e1 e2 e3 => ?_, by simpa using hn, by simpa using hl⟩
  match j with
  | 0 => simp at e1 e2 e3; subst e1; subst e2; subst e3; exact h
  | j + 1 => simp at e1
theorem Els.app {w : World} {lo : Nat} {ds ds' : List Dt} {us us' : List Value} {fs fs' : List (List Nat)} (h : Els w lo ds us fs) (k : Els w lo ds' us' fs') (hd : ∀ a ∈ fs.flatten, a ∉ fs'.flatten) : Els w lo (ds ++ ds') (us ++ us') (fs ++ fs') := by
  refine ⟨by simp [h.ul, k.ul], by simp [h.fl, k.fl], fun j d u f e1 e2 e3 => ?_, ?_, fun a ha => ?_⟩
  · have h1 := h.ul
    have h2 := h.fl
    by_cases hj : j < ds.length
    · rw [List.getElem?_append_left (by omega)] at e1 e2 e3
      exact h.els j d u f e1 e2 e3
    · rw [List.getElem?_append_right (by omega)] at e1 e2 e3
      rw [h1] at e2; rw [h2] at e3
      exact k.els _ d u f e1 e2 e3
  · rw [List.flatten_append, List.nodup_append]
    exact ⟨h.nd, k.nd, fun a ha b hb e => hd a ha (by rw [e]; exact hb)⟩
  · rw [List.flatten_append, List.mem_append] at ha
    exact ha.elim (h.lo a) (k.lo a)
/-- A row under way: its own row from base on, its elements' blocks from lo on. -/
structure GrX (w : World) (base lo : Nat) (T : TypeId) (size : Nat) (v : Value) (n : Nat) (ds : List Dt) (us : List Value) (fs : List (List Nat)) : Prop where
  row : w.ownsRow base T size v n us
  e : Els w lo ds us fs
  apart : ∀ g, v.ownBlock = some g → g ∉ fs.flatten
theorem GrX.kept {w w' : World} {base lo size n : Nat} {T : TypeId} {v : Value} {ds : List Dt} {us : List Value} {fs : List (List Nat)} (h : GrX w base lo T size v n ds us fs) (hk : ∀ k, (v.ownBlock = some k ∨ k ∈ fs.flatten) → w'.heap[k]? = w.heap[k]?) : GrX w' base lo T size v n ds us fs := by
  refine ⟨⟨h.row.1, ?_⟩, h.e.kept fun k hk' => hk k (.inr hk'), h.apart⟩
  rcases h.row.2 with e | ⟨g, cap, cur, rfl, q1, q2, q3⟩
  · exact .inl e
  · exact .inr ⟨g, cap, cur, rfl, q1, by rw [hk g (.inl rfl)]; exact q2, q3⟩
theorem GrX.lt {w : World} {base lo size n : Nat} {T : TypeId} {v : Value} {ds : List Dt} {us : List Value} {fs : List (List Nat)} (h : GrX w base lo T size v n ds us fs) : ∀ k, (v.ownBlock = some k ∨ k ∈ fs.flatten) → k < w.heap.size := fun k hk =>
  hk.elim (fun e => (h.row.lt k e).2) (h.e.lt k)
theorem GrX.below {w w' : World} {base lo size n : Nat} {T : TypeId} {v : Value} {ds : List Dt} {us : List Value} {fs : List (List Nat)} (h : GrX w base lo T size v n ds us fs) (hb : Below w.heap.size w w') : GrX w' base lo T size v n ds us fs :=
  h.kept fun k hk => hb.block k (h.lt k hk)
theorem GrX.start {w : World} {base lo size : Nat} (T : TypeId) (hb : base ≤ w.heap.size) : GrX (w.alloc (.cells #[] T)) base lo T size (.slice (some ⟨w.heap.size, 0, none⟩) 0 0) 0 [] [] [] :=
  ⟨World.ownsRow_made w #[] 0 hb (Nat.zero_le _) (by simp), Els.nil _ _, fun g _ hk => by simp at hk⟩
theorem wpList_grx {P : Program} {ops : Array Oper} {rest : List Oper} {o : Oper} {a : Act} {Q : Exit → Act → World → Prop} {w : World} (hgd : o.guard = none) (s x : Operand) (t e : TypeId)
    (ho : o.op = .call { callee := .builtin .append, args := #[s, x], argTypes := #[t, t] }) (ht : P.underlying t = some (.slice e)) (z : Value) (size bytes : Nat)
    (hinfo : (P.info? e).map (fun i => (i.zero, i.size, i.bytes)) = some (some z, size, bytes)) (hzs : z.cells.size = size) (hsz : 0 < size)
    (base lo n : Nat) (v : Value) (ds ds' : List Dt) (us news : List Value) (fs fs' : List (List Nat)) (hs : a.eval s = v) (hne : v ≠ .slice none 0 0) (hG : GrX w base lo e size v n ds us fs) (hbase : base ≤ w.heap.size)
    (ad : Addr) (m c : Nat) (hx : a.eval x = .slice (some ad) m c) (hl : news.length = m * size) (hnews : ∀ j u, news[j]? = some u → w.cell? (ad.add j) = some u) (h1 : ∀ u ∈ news, u.oneCell' = true)
    (hN : Els w lo ds' news fs') (hap : ∀ k ∈ fs'.flatten, k ∉ fs.flatten ∧ v.ownBlock ≠ some k) (hn : n + m ≤ maxLen) (hbytes : (n + m) * bytes ≤ 140737488355328)
    (h : ∀ g cap w3, GrX w3 base lo e size (.slice (some ⟨g, 0, none⟩) (n + m) cap) (n + m) (ds ++ ds') (us ++ news) (fs ++ fs') → w.grownBy w3 v.ownBlock → (v.ownBlock = some g ∨ g = w.heap.size) → wpList P ops Q rest (a.put o.dst (.slice (some ⟨g, 0, none⟩) (n + m) cap)) w3) :
    wpList P ops Q (o :: rest) a w := by
  obtain ⟨i0, hi, hz0, hz1, hz2⟩ := info_parts hinfo
  refine wpList_append_own_at _ hgd s x t ho base e i0 z size bytes ht hi hz0 hz1 hz2 hzs hsz v n us hs hG.row ad m c news hx hl hnews h1 hn hbytes hbase ?_
  intro v' w3 g1 g2 g3 g4
  obtain ⟨g, cap, rfl⟩ : ∃ g cap, v' = .slice (some ⟨g, 0, none⟩) (n + m) cap := by
    rcases g1.2 with ⟨e, _⟩ | ⟨g, cap, cur, e, _⟩
    · exact absurd (g3.1 e).1 hne
    · exact ⟨g, cap, e⟩
  have hat : v.ownBlock = some g ∨ g = w.heap.size := by
    rcases g4 with e | e
    · exact .inl (by rw [← e]; rfl)
    · exact .inr (by simpa [Value.ownBlock] using e)
  have hold : ∀ k ∈ fs.flatten, w3.heap[k]? = w.heap[k]? := fun k hk => g2.block k (hG.e.lt k hk) fun e => hG.apart k e.symm hk
  have hnew : ∀ k ∈ fs'.flatten, w3.heap[k]? = w.heap[k]? := fun k hk => g2.block k (hN.lt k hk) fun e => (hap k hk).2 e.symm
  refine h g cap w3 ⟨g1, (hG.e.kept hold).app (hN.kept hnew) (fun b hb hb' => (hap b hb').1 hb), fun g' hg' hm' => ?_⟩ g2 hat
  have : g = g' := by simpa [Value.ownBlock] using hg'
  subst this
  rw [List.flatten_append, List.mem_append] at hm'
  rcases hat with e | e
  · exact hm'.elim (hG.apart g e) (fun h => (hap g h).2 e)
  · rcases hm' with h | h
    · have := hG.e.lt g h; omega
    · have := hN.lt g h; omega
/-- A whole row of elements as what is appended. -/
theorem Ofr.els {w : World} {base size : Nat} {ds : List Dt} {v : Value} (h : Ofr w base (.rows size ds) v) (hne : v ≠ .slice none 0 0) : ∃ g off n cap us fs, v = .slice (some ⟨g, off, none⟩) n cap ∧ us.length = n * size ∧ n ≤ cap ∧ n ≤ maxLen ∧ base ≤ g ∧ g < w.heap.size ∧ Els w base ds us fs ∧ g ∉ fs.flatten ∧ ∀ j u, us[j]? = some u → w.cell? ((⟨g, off, none⟩ : Addr).add j) = some u := by
  obtain ⟨fp, h1, h2, h3⟩ := h
  cases h1 with
  | nil size => exact absurd rfl hne
  | @mk size n g off cap ds us fs cur T hl hus hf hn hc hg hcs ht hd =>
    obtain ⟨hgn, hfn⟩ := List.nodup_cons.1 h2
    refine ⟨g, off, n, cap, us, fs, rfl, by omega, hn, by omega, h3 g (by simp), (Array.getElem?_eq_some_iff.1 hg).1, ⟨hus, hf, hd, hfn, fun k hk => h3 k (List.mem_cons_of_mem _ hk)⟩, hgn, fun j u hj => ?_⟩
    rw [show (⟨g, off, none⟩ : Addr).add j = ⟨g, off + j, none⟩ by simp [Addr.add]]
    exact row_cell hg ht hj (by omega)
theorem GrX.cells {w : World} {base lo size n cap g : Nat} {T : TypeId} {ds : List Dt} {us : List Value} {fs : List (List Nat)} (h : GrX w base lo T size (.slice (some ⟨g, 0, none⟩) n cap) n ds us fs) : ∀ j u, us[j]? = some u → w.cell? ((⟨g, 0, none⟩ : Addr).add j) = some u := h.row.cells rfl
theorem GrX.one {w : World} {base lo size n : Nat} {T : TypeId} {v : Value} {ds : List Dt} {us : List Value} {fs : List (List Nat)} (h : GrX w base lo T size v n ds us fs) (h1 : ∀ d ∈ ds, ∀ u f, Odt w d u f → u.oneCell' = true) : ∀ u ∈ us, u.oneCell' = true := fun u hu => by
  obtain ⟨j, hj, rfl⟩ := List.mem_iff_getElem.1 hu
  have e1 := h.e.ul
  have e2 := h.e.fl
  have hd : j < ds.length := by omega
  have hf : j < fs.length := by omega
  exact h1 _ (List.getElem_mem hd) _ _ (h.e.els j _ _ _ (List.getElem?_eq_getElem hd) (List.getElem?_eq_getElem hj) (List.getElem?_eq_getElem hf))
theorem inD_one {w : World} {xs : List Int} {u : Value} {f : List Nat} (h : Odt w (inD xs) u f) : u.oneCell' = true := by
  unfold inD at h
  generalize (xs.map fun x => Dt.leaf (.int .i64 x)) = ds at h
  cases h <;> rfl
theorem rows_one {w : World} {base lo n : Nat} {T : TypeId} {v : Value} {L : List (List Int)} {us : List Value} {fs : List (List Nat)} (h : GrX w base lo T 1 v n (L.map inD) us fs) : ∀ u ∈ us, u.oneCell' = true := h.one fun d hd u f ho => by
  obtain ⟨xs, -, rfl⟩ := List.mem_map.1 hd
  exact inD_one ho
theorem Own.els {w : World} {base lo : Nat} {v : Value} {xs : List Int} (h : Own w base v xs) (hl : lo ≤ base) : ∃ fp, Els w lo [inD xs] [v] [fp] ∧ ∀ k ∈ fp, base ≤ k ∧ k < w.heap.size ∧ v.ownBlock = some k := by
  obtain ⟨fp, h1, h2, h3⟩ := h.tree
  exact ⟨fp, Els.one h1 h2 fun k hk => Nat.le_trans hl (h.lt k (h3 k hk)).1, fun k hk => ⟨(h.lt k (h3 k hk)).1, (h.lt k (h3 k hk)).2, h3 k hk⟩⟩
end Go.Proofs.YtmkkdenhjfjmgaaGreat
namespace Go.Proofs.YtmkkdenhjfjmgaaGreat
open Go.RowKit Go.Sort Go.Lib

def srt (xs : List Int) : List Int := xs.mergeSort fun x y => decide (x ≤ y)
def cpt (xs : List Int) : List Int := Go.Lib.compact xs
/-- The set of a list's numbers, in ascending order. -/
def ust (xs : List Int) : List Int := cpt (srt xs)
theorem srt_len (xs : List Int) : (srt xs).length = xs.length := List.length_mergeSort _
theorem srt_mem {xs : List Int} {x : Int} : x ∈ srt xs ↔ x ∈ xs := List.mem_mergeSort
theorem srt_sorted (xs : List Int) : (srt xs).Pairwise (· ≤ ·) := by
  have := List.pairwise_mergeSort (le := fun x y : Int => decide (x ≤ y)) (fun a b c h1 h2 => by simp at h1 h2 ⊢; omega) (fun a b => by simp; omega) xs
  exact this.imp fun h => by simpa using h
theorem cpt_len (xs : List Int) : (cpt xs).length ≤ xs.length := by
  unfold cpt compact compactUpTo
  rw [List.length_map]
  exact Nat.le_trans (List.length_filter_le _ _) (by simp)
theorem getI {xs : List Int} {j : Nat} (h : j < xs.length) : (xs.toArray)[j]! = xs[j] := by simp [h]
theorem cpt_asc {xs : List Int} (h : xs.Pairwise (· ≤ ·)) : (cpt xs).Pairwise (· < ·) := by
  unfold cpt compact compactUpTo
  rw [List.pairwise_map]
  have hr : ((List.range xs.length).filter (keeps xs.toArray)).Pairwise (· < ·) := List.Pairwise.filter _ List.pairwise_lt_range
  refine hr.imp_of_mem (R := (· < ·)) fun {a b} ha hb hab => ?_
  rw [List.mem_filter, List.mem_range] at ha hb
  rw [getI ha.1, getI hb.1]
  have hk := hb.2
  unfold keeps at hk
  simp only [decide_eq_true_eq] at hk
  rcases hk with hk | hk
  · omega
  rw [getI hb.1, getI (show b - 1 < xs.length by omega)] at hk
  have hp := List.pairwise_iff_getElem.1 h
  have h1 : xs[a] ≤ xs[b - 1]'(by omega) := by
    by_cases e : a = b - 1
    · subst e; exact Int.le_refl _
    · exact hp a (b - 1) ha.1 (by omega) (by omega)
  have h2 : xs[b - 1]'(by omega) ≤ xs[b] := hp (b - 1) b (by omega) hb.1 (by omega)
  omega
theorem cpt_mem {xs : List Int} {x : Int} : x ∈ cpt xs ↔ x ∈ xs := by
  unfold cpt compact compactUpTo
  rw [List.mem_map]
  constructor
  · rintro ⟨j, hj, rfl⟩
    rw [List.mem_filter, List.mem_range] at hj
    rw [getI hj.1]
    exact List.getElem_mem hj.1
  · intro h
    obtain ⟨j, hj, rfl⟩ := List.mem_iff_getElem.1 h
    have : ∀ j, ∀ hj : j < xs.length, ∃ i, ∃ hi : i < xs.length, keeps xs.toArray i = true ∧ xs[i] = xs[j] := by
      intro j
      induction j with
      | zero => intro hj; exact ⟨0, hj, by simp [keeps], rfl⟩
      | succ j ih =>
        intro hj
        by_cases e : xs[j + 1] = xs[j]'(by omega)
        · obtain ⟨i, hi, h1, h2⟩ := ih (by omega)
          exact ⟨i, hi, h1, by rw [h2, e]⟩
        · refine ⟨j + 1, hj, ?_, rfl⟩
          unfold keeps
          rw [getI hj, getI (show j + 1 - 1 < xs.length by omega)]
          simp only [decide_eq_true_eq]
          exact .inr (by simpa using e)
    obtain ⟨i, hi, h1, h2⟩ := this j hj
    exact ⟨i, List.mem_filter.2 ⟨List.mem_range.2 hi, h1⟩, by rw [getI hi, h2]⟩
theorem ust_asc (xs : List Int) : (ust xs).Pairwise (· < ·) := cpt_asc (srt_sorted xs)
theorem ust_mem {xs : List Int} {x : Int} : x ∈ ust xs ↔ x ∈ xs := by unfold ust; rw [cpt_mem, srt_mem]
theorem ust_len (xs : List Int) : (ust xs).length ≤ xs.length := by unfold ust; exact Nat.le_trans (cpt_len _) (by rw [srt_len]; exact Nat.le_refl _)
/-- Two ascending lists with the same numbers. -/
theorem asc_ext : ∀ {xs ys : List Int}, xs.Pairwise (· < ·) → ys.Pairwise (· < ·) → (∀ x, x ∈ xs ↔ x ∈ ys) → xs = ys
  | [], [], _, _, _ => rfl
  | [], y :: ys, _, _, h => by have := (h y).2 (by simp); cases this
  | x :: xs, [], _, _, h => by have := (h x).1 (by simp); cases this
  | x :: xs, y :: ys, hx, hy, h => by
    obtain ⟨hx1, hx2⟩ := List.pairwise_cons.1 hx
    obtain ⟨hy1, hy2⟩ := List.pairwise_cons.1 hy
    have e : x = y := by
      have h1 := (h x).1 (by simp)
      have h2 := (h y).2 (by simp)
      rcases List.mem_cons.1 h1 with e | e
      · exact e
      · rcases List.mem_cons.1 h2 with e2 | e2
        · exact e2.symm
        · have := hy1 x e; have := hx1 y e2; omega
    subst e
    congr 1
    refine asc_ext hx2 hy2 fun z => ?_
    constructor
    · intro hz
      have hlt := hx1 z hz
      rcases List.mem_cons.1 ((h z).1 (List.mem_cons_of_mem _ hz)) with e | e
      · omega
      · exact e
    · intro hz
      have hlt := hy1 z hz
      rcases List.mem_cons.1 ((h z).2 (List.mem_cons_of_mem _ hz)) with e | e
      · omega
      · exact e
theorem ust_of {xs ys : List Int} (h : ys.Pairwise (· < ·)) (hm : ∀ x, x ∈ ys ↔ x ∈ xs) : ust xs = ys := asc_ext (ust_asc xs) h fun x => by rw [ust_mem, hm]

/-! ### The cells -/
theorem Own.holds {w : World} {base g off n cap : Nat} {xs : List Int} (h : Own w base (.slice (some ⟨g, off, none⟩) n cap) xs) : Holds (Value.int .i64) w g off xs.toArray := by
  rcases h with ⟨e, _⟩ | ⟨g', off', cap', cur, e, hb, ⟨T, hg⟩, h1, h2, h3, h4⟩
  · cases e
  · simp only [Value.slice.injEq, Option.some.injEq, Addr.mk.injEq, and_true] at e
    obtain ⟨⟨rfl, rfl⟩, rfl, rfl⟩ := e
    intro j hj
    have hj' : j < xs.length := by simpa using hj
    refine ⟨?_, frozen_of_row _ _ _ _ _ hg⟩
    rw [cell_of_row _ _ _ _ _ _ hg, ← Array.getElem?_toList]
    have e : ((cur.toList.drop off).take xs.length)[j]? = (ints xs)[j]? := by rw [h4]
    rw [List.getElem?_take, if_pos hj', List.getElem?_drop] at e
    rw [e]
    simp [hj']
theorem heap_putRow {w : World} {g off n : Nat} {os : Array Obj} {cur : Array Value} {e : TypeId} {fr : Nat × Nat} (d : Array Int) (hb : w.heap[g]? = some (.cells cur e fr)) :
    (grow (putRow (Value.int .i64) (Sort.ahead w n) g off d) os).heap[g]? = some (.cells (putCells (Value.int .i64) off d cur) e fr) := by
  have hg : g < w.heap.size := (Array.getElem?_eq_some_iff.1 hb).1
  rw [heap_grow_old _ _ (by simpa using hg)]
  simp [putRow, mapBlock, Sort.ahead, Array.getElem?_modify, hb, onCells]
theorem grownBy_putRow {w : World} {g off n : Nat} {os : Array Obj} (d : Array Int) : w.grownBy (grow (putRow (Value.int .i64) (Sort.ahead w n) g off d) os) (some g) := by
  refine ⟨rfl, rfl, rfl, by simp, fun k hk hne => ?_⟩
  rw [heap_grow_old _ _ (by simpa using hk)]
  have : g ≠ k := fun e => hne (by rw [e])
  simp [putRow, mapBlock, Sort.ahead, Array.getElem?_modify, this]
theorem drop_putCells (cur : Array Value) (ts : List Int) (off m : Nat) (h : off + ts.length ≤ cur.size) (hm : m ≤ ts.length) : ((putCells (Value.int .i64) off ts.toArray cur).toList.drop off).take m = ints (ts.take m) := by
  apply List.ext_getElem?
  intro j
  by_cases hj : j < m
  · rw [List.getElem?_take_of_lt hj, List.getElem?_drop, Array.getElem?_toList]
    simp [putCells, hj, show off + j < cur.size by omega, show j < ts.length by omega]
  · rw [List.getElem?_take_eq_none (by omega), List.getElem?_eq_none (by simp; omega)]
/-- Behind a store of as many numbers. -/
theorem Own.putRow {w : World} {base g off n cap q m : Nat} {xs ts : List Int} {os : Array Obj} (h : Own w base (.slice (some ⟨g, off, none⟩) n cap) xs) (hl : ts.length = xs.length) (hm : m ≤ ts.length) :
    Own (grow (Sort.putRow (Value.int .i64) (Sort.ahead w q) g off ts.toArray) os) base (.slice (some ⟨g, off, none⟩) m cap) (ts.take m) := by
  rcases h with ⟨e, _⟩ | ⟨g', off', cap', cur, e, hb, ⟨T, hg⟩, h1, h2, h3, h4⟩
  · cases e
  · simp only [Value.slice.injEq, Option.some.injEq, Addr.mk.injEq, and_true] at e
    obtain ⟨⟨rfl, rfl⟩, rfl, rfl⟩ := e
    have hml : (ts.take m).length = m := by rw [List.length_take]; omega
    refine .inr ⟨g, off, cap, _, by rw [hml], hb, ⟨T, heap_putRow _ hg⟩, by rw [hml]; omega, h2, by simp [putCells]; omega, ?_⟩
    rw [hml]
    exact drop_putCells cur ts off m (by omega) hm
end Go.Proofs.YtmkkdenhjfjmgaaGreat
namespace Go.Proofs.YtmkkdenhjfjmgaaGreat
open Go.RowKit Go.Sort

/-! ### Boxes, regions -/
theorem box_facts (w : World) (us : Array Value) (T : TypeId) : Below w.heap.size w (w.alloc (.cells us T)) ∧ (∀ j u, us[j]? = some u → (w.alloc (.cells us T)).cell? ⟨w.heap.size, j, none⟩ = some u) ∧ w.heap.size < (w.alloc (.cells us T)).heap.size ∧ (∀ j, (w.alloc (.cells us T)).frozen? ⟨w.heap.size, j, none⟩ = false) :=
  ⟨(Below.refl w.heap.size w).alloc (Nat.le_refl _) _, fun j u h => blkc (heap_alloc_new w (.cells us T)) h, by simp, fun j => frozen_of_row _ _ _ _ _ (heap_alloc_new w (.cells us T))⟩
theorem rg {w : World} {a : Addr} {v : Value} (h : w.cell? a = some v) : ∀ d os, (grow (redrawn w d) os).cell? a = some v := fun d os => cell_regrown h d os
theorem rg_same {P : Program} {f : FuncId} {args : Array Value} {w : World} {d : Nat} {os : Array Obj} {v : Value}
    (h : Calls P f args (grow (redrawn w d) os) fun e w' => e = .returned v ∧ grow (redrawn w d) os = w') : Calls P f args (grow (redrawn w d) os) fun e w'' => e = .returned v ∧ ∃ p : Regrown, w'' = grow (redrawn w p.d) p.os :=
  h.mono fun _ _ ⟨he, hb⟩ => ⟨he, ⟨⟨d, os⟩, hb.symm⟩⟩
theorem Rdt.rg {w : World} {dt : Dt} {v : Value} (h : Rdt w dt v) (d : Nat) (os : Array Obj) : Rdt (grow (redrawn w d) os) dt v := h.behind (below_regrown w d os)

/-! ### Ranges -/
theorem rng_no {m i : Nat} {P : Nat → Bool} (hi : i < m) (h : P i = false) : (List.range m).all P = false := by
  rw [List.all_eq_false]; exact ⟨i, List.mem_range.2 hi, by simp [h]⟩
theorem rng_yes {m : Nat} {P : Nat → Bool} (h : ∀ i, i < m → P i = true) : (List.range m).all P = true := by
  rw [List.all_eq_true]; exact fun i hi => h i (List.mem_range.1 hi)
theorem upto_succ {k : Nat} {P : Nat → Bool} (h : ∀ i, i < k → P i = true) (hk : P k = true) : ∀ i, i < k + 1 → P i = true := fun i hi => by
  by_cases e : i = k
  · rw [e]; exact hk
  · exact h i (by omega)

/-! ### Networks -/
structure Net where
  ns : List ByteArray
  fs : List Fib
abbrev nmA (n : Net) (i : Nat) : ByteArray := n.ns[i]?.getD nilS
abbrev fbA (n : Net) (i : Nat) : Fib := n.fs[i]?.getD nilB
def nmOk (n : Net) (i : Nat) : Bool := nameOk (nmA n i) && decide (plc n.ns (nmA n i) = (i : Int))
def fbOk (n : Net) (i : Nat) : Bool := fibOk (fbA n i) n.ns.length && !(decide (0 < i) && fibGt (fbA n (i - 1)) (fbA n i))
def netOk (n : Net) : Bool := decide (2 ≤ n.ns.length ∧ n.ns.length ≤ 8 ∧ n.fs.length ≤ 14) && ((List.range n.ns.length).all (nmOk n) && (List.range n.fs.length).all (fbOk n))
theorem netOk_nm {n : Net} {i : Nat} (hi : i < n.ns.length) (h : nmOk n i = false) : netOk n = false := by
  unfold netOk; rw [rng_no hi h]; simp
theorem netOk_fb {n : Net} {i : Nat} (hi : i < n.fs.length) (h : fbOk n i = false) : netOk n = false := by
  unfold netOk; rw [rng_no hi h]; simp
theorem netOk_sz {n : Net} (h : ¬ (2 ≤ n.ns.length ∧ n.ns.length ≤ 8 ∧ n.fs.length ≤ 14)) : netOk n = false := by
  unfold netOk; rw [decide_eq_false h]; simp
theorem netOk_all {n : Net} (h1 : ∀ i, i < n.ns.length → nmOk n i = true) (h2 : ∀ i, i < n.fs.length → fbOk n i = true) : netOk n = decide (2 ≤ n.ns.length ∧ n.ns.length ≤ 8 ∧ n.fs.length ≤ 14) := by
  unfold netOk; rw [rng_yes h1, rng_yes h2]; simp
theorem netOk_yes {n : Net} (h : netOk n = true) : 2 ≤ n.ns.length ∧ n.ns.length ≤ 8 ∧ n.fs.length ≤ 14 ∧ (∀ i, i < n.ns.length → nmOk n i = true) ∧ (∀ i, i < n.fs.length → fbOk n i = true) := by
  unfold netOk at h
  simp only [Bool.and_eq_true, decide_eq_true_eq, List.all_eq_true] at h
  obtain ⟨⟨a, b, c⟩, d, e⟩ := h
  exact ⟨a, b, c, fun i hi => d i (List.mem_range.2 hi), fun i hi => e i (List.mem_range.2 hi)⟩
theorem fibOk_parts {f : Fib} {m : Nat} (h : fibOk f m = true) : 0 ≤ f.a ∧ f.a < f.b ∧ f.b < m ∧ 1 ≤ f.l ∧ f.l ≤ 5000 ∧ 0 ≤ f.r ∧ f.r ≤ 9 := by
  unfold fibOk at h
  simp only [Bool.and_eq_true] at h
  obtain ⟨⟨⟨h1, h2⟩, h3⟩, h4⟩ := h
  have := inB_true h1; have := inB_true h2; have := inB_true h3; have := inB_true h4
  omega
theorem fibOk_small {f : Fib} {m : Nat} (h : fibOk f m = true) (hm : m ≤ 1000) : smallF f := by
  have := fibOk_parts h
  unfold smallF
  omega
theorem plc_pre {ns : List ByteArray} {k : Nat} (hk : k < ns.length) : decide (0 ≤ plc (ns.take k) (ns[k]?.getD nilS)) = !decide (plc ns (ns[k]?.getD nilS) = (k : Int)) := by
  generalize hx : ns[k]?.getD nilS = x
  cases h : (ns.take k).any (fun s => s.toList == x.toList)
  · rw [plc_none h, plc_some hk h (by rw [hx]; simp)]; simp
  · have h1 : 0 ≤ plc (ns.take k) x ∧ plc (ns.take k) x < k ∧ plc ns x = plc (ns.take k) x := by
      unfold plc
      cases hf : (ns.take k).findIdx? (fun s => s.toList == x.toList) with
      | none =>
        rw [List.findIdx?_eq_none_iff] at hf
        obtain ⟨s, hs, e⟩ := List.any_eq_true.1 h
        rw [hf s hs] at e; cases e
      | some i =>
        obtain ⟨hi, e1, e2⟩ := List.findIdx?_eq_some_iff_getElem.1 hf
        have hi' : i < k := by simp at hi; omega
        have hfull : ns.findIdx? (fun s => s.toList == x.toList) = some i := List.findIdx?_eq_some_iff_getElem.2 ⟨by omega, by simpa using e1, fun j hj => by have := e2 j hj; simpa using this⟩
        rw [hfull]
        simp; omega
    rw [decide_eq_true h1.1, h1.2.2, decide_eq_false (by omega)]; rfl

/-- The value reads as the network. -/
def NetR (w : World) (v : Value) (n : Net) : Prop := ∃ u1 u2, v = .agg #[u1, u2] ∧ Rdt w (flt 1 strE n.ns) u1 ∧ Rdt w (flt 4 fibE n.fs) u2 ∧ ∀ i : Nat, (nmA n i).size ≤ 1048576
theorem NetR.behind {w w' : World} {v : Value} {n : Net} (h : NetR w v n) (hb : Below w.heap.size w w') : NetR w' v n := by
  obtain ⟨u1, u2, e, h1, h2, h3⟩ := h; exact ⟨u1, u2, e, h1.behind hb, h2.behind hb, h3⟩
theorem flt_take {α : Type} {enc : α → List Value} {m : Nat} {w : World} {a : Option Addr} {n cap k : Nat} {zs : List α} (hm : ∀ z, (enc z).length = m) (hm0 : 0 < m) (h : Rdt w (flt m enc zs) (.slice a n cap)) (hk : k ≤ n) : Rdt w (flt m enc (zs.take k)) (.slice a k cap) := by
  unfold flt at h ⊢
  have hlen := fltC_len hm zs
  have hlk := fltC_len hm (zs.take k)
  have hat : ∀ j, j < k * m → (fltC enc (zs.take k))[j]? = (fltC enc zs)[j]? := fun j hj => by
    obtain ⟨i, r, hr, rfl⟩ : ∃ i r, r < m ∧ j = i * m + r := ⟨j / m, j % m, Nat.mod_lt _ hm0, by rw [Nat.mul_comm]; exact (Nat.div_add_mod j m).symm⟩
    have hi : i < k := by
      by_cases e : i < k
      · exact e
      · have := Nat.mul_le_mul_right m (Nat.le_of_not_lt e); omega
    rw [fltC_at hm _ i r hr, fltC_at hm _ i r hr, List.getElem?_take, if_pos hi]
  generalize fltC enc zs = ds at *
  generalize fltC enc (zs.take k) = ds' at *
  cases h with
  | nil size =>
    obtain rfl : k = 0 := by omega
    have : ds' = [] := List.eq_nil_of_length_eq_zero (by simpa using hlk)
    rw [this]; exact .nil m
  | @mk size n b off cap ds us hl hu hn hc hb hcell hd =>
    have hzl : zs.length = n := Nat.eq_of_mul_eq_mul_right hm0 (by omega)
    rw [List.length_take, hzl, Nat.min_eq_left hk] at hlk
    have hkm := Nat.mul_le_mul_right m hk
    refine .mk (us := us.take (k * m)) hlk (by rw [List.length_take, hlk]; omega) (by omega) hc hb (fun j u hj => ?_) (fun j d u e1 e2 => ?_)
    · rw [List.getElem?_take] at hj
      split at hj
      · exact hcell j u hj
      · cases hj
    · rw [List.getElem?_take] at e2
      split at e2
      · rename_i hjk
        rw [hat j hjk] at e1
        exact hd j d u e1 e2
      · cases e2
theorem Rdt.slice' {α : Type} {enc : α → List Value} {m : Nat} {zs : List α} {w : World} {v : Value} (h : Rdt w (flt m enc zs) v) : ∃ a n cap, v = .slice a n cap := by
  obtain ⟨a, n, cap, e, _⟩ := Rdt.opn (show Rdt w (.rows m (fltC enc zs)) v from h); exact ⟨a, n, cap, e⟩
end Go.Proofs.YtmkkdenhjfjmgaaGreat
namespace Go.Proofs.YtmkkdenhjfjmgaaGreat
open Go.RowKit Go.Sort
set_option maxRecDepth 100000

theorem fib_cases (f : Fib) (m : Nat) :
    (decide (f.a < 0) = true ∧ fibOk f m = false) ∨
    (decide (f.a < 0) = false ∧ decide (f.b ≤ f.a) = true ∧ fibOk f m = false) ∨
    (decide (f.a < 0) = false ∧ decide (f.b ≤ f.a) = false ∧ decide ((m : Int) ≤ f.b) = true ∧ fibOk f m = false) ∨
    (decide (f.a < 0) = false ∧ decide (f.b ≤ f.a) = false ∧ decide ((m : Int) ≤ f.b) = false ∧ inB f.l 1 5000 = false ∧ fibOk f m = false) ∨
    (decide (f.a < 0) = false ∧ decide (f.b ≤ f.a) = false ∧ decide ((m : Int) ≤ f.b) = false ∧ inB f.l 1 5000 = true ∧ inB f.r 0 9 = false ∧ fibOk f m = false) ∨
    (decide (f.a < 0) = false ∧ decide (f.b ≤ f.a) = false ∧ decide ((m : Int) ≤ f.b) = false ∧ inB f.l 1 5000 = true ∧ inB f.r 0 9 = true ∧ fibOk f m = true) := by
  have e : fibOk f m = (inB f.a 0 ((m : Int) - 1) && inB f.b (f.a + 1) ((m : Int) - 1) && inB f.l 1 5000 && inB f.r 0 9) := rfl
  by_cases h1 : f.a < 0
  · left; refine ⟨decide_eq_true h1, ?_⟩
    rw [e, show inB f.a 0 ((m : Int) - 1) = false by unfold inB; simp; omega]; simp
  right
  by_cases h2 : f.b ≤ f.a
  · left; refine ⟨decide_eq_false h1, decide_eq_true h2, ?_⟩
    rw [e, show inB f.b (f.a + 1) ((m : Int) - 1) = false by unfold inB; simp; omega]; simp
  right
  by_cases h3 : (m : Int) ≤ f.b
  · left; refine ⟨decide_eq_false h1, decide_eq_false h2, decide_eq_true h3, ?_⟩
    rw [e, show inB f.b (f.a + 1) ((m : Int) - 1) = false by unfold inB; simp; omega]; simp
  right
  have e2 : fibOk f m = (inB f.l 1 5000 && inB f.r 0 9) := by
    rw [e, show inB f.a 0 ((m : Int) - 1) = true by unfold inB; simp; omega, show inB f.b (f.a + 1) ((m : Int) - 1) = true by unfold inB; simp; omega]; simp
  rw [e2]
  cases inB f.l 1 5000
  · left; exact ⟨decide_eq_false h1, decide_eq_false h2, decide_eq_false h3, rfl, rfl⟩
  right
  cases inB f.r 0 9
  · left; exact ⟨decide_eq_false h1, decide_eq_false h2, decide_eq_false h3, rfl, rfl, rfl⟩
  · right; exact ⟨decide_eq_false h1, decide_eq_false h2, decide_eq_false h3, rfl, rfl, rfl⟩
set_option maxHeartbeats 6400000 in
theorem IsValidNetwork_any (v : Value) (n : Net) (w : World) (h : NetR w v n) :
    Calls Tryz.prog 132 #[v] w fun e w' => e = .returned (.bool (netOk n)) ∧ Below w.heap.size w w' := by
  obtain ⟨u1, u2, rfl, r1, r2, hsm⟩ := h
  obtain ⟨a1, m1, c1, rfl, HN1, hc1, hm1, ha1⟩ := flt_opn (m := 1) (enc := strE) (fun _ => rfl) (by omega) nilS r1
  obtain ⟨a2, m2, c2, rfl, HN2, hc2, hm2, ha2⟩ := flt_opn (m := 4) (enc := fibE) (fun _ => rfl) (by omega) nilB r2
  have HNM := Lib.hid (fun i hi h => @netOk_nm n i hi h)
  have HFB := Lib.hid (fun i hi h => @netOk_fb n i hi h)
  have HALL := Lib.hid (@netOk_all n)
  rw [HN1.out, HN2.out] at HALL
  rw [HN1.out] at HNM
  rw [HN2.out] at HFB
  generalize netOk n = q at *
  obtain ⟨bx, bc, blt, -⟩ := box_facts w #[.slice a1 m1 c1, .slice a2 m2 c2] 35
  have q0 := bc 0 _ rfl
  have q1 := bc 1 _ rfl
  have HA1 := Lib.hid ha1
  have HA2 := Lib.hid ha2
  have HR1 := Lib.hid (r1.behind bx)
  have HBX := Lib.hid bx
  have HSM := Lib.hid hsm
  clear bc ha1 ha2 r1 r2 bx hsm
  go_enter Tryz.func132, Tryz.ntmps132
  go_wp2
  generalize w.alloc (.cells #[.slice a1 m1 c1, .slice a2 m2 c2] 35) = w1 at *
  go_loopw [3, 4, 10] (fun _ _ i wr => ∃ k : Nat, k ≤ m1 ∧ i = .int .i64 k ∧ Hid (∀ i, i < k → nmOk n i = true) ∧ Hid (Below w1.heap.size w1 wr)) (fun _ _ i _ => m1 - (intOf i).toNat)
  case atStart => exact ⟨0, Nat.zero_le _, rfl, fun i hi => by omega, Below.refl _ _⟩
  case round =>
    obtain ⟨k, hk, rfl, HK, HB⟩ := hrel
    have p0 := (HB.out.cell blt).trans q0
    have p1 := (HB.out.cell blt).trans q1
    by_cases hlt : k < m1
    · have hltI : (k : Int) < (m1 : Int) := by omega
      have hkx : k < n.ns.length := by rw [HN1.out]; exact hlt
      obtain ⟨b, off, rfl, hbs, hcs⟩ := HA1.out (by omega)
      have hc0 := hcs k hlt 0 _ rfl
      rw [Nat.mul_one, Nat.add_zero] at hc0
      have hcw := (HB.out.cell (p := ⟨b, off + k, none⟩) (Nat.lt_of_lt_of_le hbs HBX.out.size)).trans ((HBX.out.cell hbs).trans hc0)
      have HNA := Lib.hid (fun w => isName_any (nmA n k) w (Nat.le_trans (HSM.out k) (by decide)))
      have HCO := Lib.hid (fun N => containsS_any _ (n.ns.take k) (nmA n k) (wr.drewN N) ((flt_take (m := 1) (enc := strE) (fun _ => rfl) (by omega) (HR1.out.behind HB.out) hk).behind ((Dr.refl _).drewN N |>.below (Below.refl _ _))))
      have HV := Lib.hid (show nmOk n k = (nameOk (nmA n k) && decide (plc n.ns (nmA n k) = (k : Int))) from rfl)
      have HPL := Lib.hid (plc_pre hkx)
      have HST := Lib.hid (fun h => upto_succ HK.out (k := k) h)
      have HNO := Lib.hid (HNM.out k hlt)
      clear hcs hc0 hkx
      unfold nmA at *
      generalize hx : n.ns[k]?.getD nilS = x at *
      have hkI : (0 : Int) ≤ (k : Int) := by omega
      have hkI2 : (k : Int) ≤ (c1 : Int) := by omega
      clear hx
      cases hN : nameOk x
      · have HF := Lib.hid (HNO.out (by rw [HV.out, hN]; rfl))
        clear HNO HST HPL HV HCO
        rw [hN] at HNA
        clear hN
        go_wp2_with (go_at_call 175; refine (HNA.out _).mono ?_; rintro e w' ⟨rfl, n', rfl⟩)
        go_ret
        exact ⟨by rw [HF.out]; rfl, HBX.out.trans ((HB.out.mono HBX.out.size).trans (((Dr.refl _).drewN n').below (Below.refl _ _)))⟩
      cases hP : decide (plc n.ns x = (k : Int))
      · have HF := Lib.hid (HNO.out (by rw [HV.out, hN, hP]; rfl))
        rw [hN] at HNA
        have hpl := HPL.out
        rw [hP] at hpl
        rw [hpl] at HCO
        clear HNO HST HPL HV hN hP hpl
        go_wp2_with (first | (go_at_call 175; refine (HNA.out _).mono ?_; rintro e w' ⟨rfl, n', rfl⟩) | (go_at_call 176; refine (HCO.out _).mono ?_; rintro e w' ⟨rfl, rfl⟩))
        go_ret
        exact ⟨by rw [HF.out]; rfl, HBX.out.trans ((HB.out.mono HBX.out.size).trans (((Dr.refl _).drewN n').below (Below.refl _ _)))⟩
      · have HS := Lib.hid (HST.out (by rw [HV.out, hN, hP]; rfl))
        rw [hN] at HNA
        have hpl := HPL.out
        rw [hP] at hpl
        rw [hpl] at HCO
        clear HNO HST HPL HV hN hP hpl
        go_wp2_with (first | (go_at_call 175; refine (HNA.out _).mono ?_; rintro e w' ⟨rfl, n', rfl⟩) | (go_at_call 176; refine (HCO.out _).mono ?_; rintro e w' ⟨rfl, rfl⟩))
        go_roundw
        case rel => exact ⟨k + 1, hlt, by go_num, HS.out, HB.out.trans (((Dr.refl _).drewN n').below (Below.refl _ _))⟩
        case measure => simp [intOf]; omega
    · obtain rfl : m1 = k := by omega
      have HAL1 := Lib.hid (HALL.out HK.out)
      clear HALL HK HNM HR1
      go_wp2
      go_loopw [5, 6, 30] (fun _ _ i wr => ∃ k : Nat, k ≤ m2 ∧ i = .int .i64 k ∧ Hid (∀ i, i < k → fbOk n i = true) ∧ Hid (Below w1.heap.size w1 wr)) (fun _ _ i _ => m2 - (intOf i).toNat)
      case atStart => exact ⟨0, Nat.zero_le _, rfl, fun i hi => by omega, HB.out⟩
      case round =>
        clear HB p0 p1
        obtain ⟨k, hk, rfl, HK, HB⟩ := hrel
        have p0 := (HB.out.cell blt).trans q0
        have p1 := (HB.out.cell blt).trans q1
        by_cases hlt : k < m2
        · have hltI : (k : Int) < (m2 : Int) := by omega
          obtain ⟨b, off, rfl, hbs, hcs⟩ := HA2.out (by omega)
          have hcw := fun (i : Nat) (hi : i < m2) (r : Nat) (u : Value) (hu : (fibE (n.fs[i]?.getD nilB))[r]? = some u) => (HB.out.cell (p := ⟨b, off + i * 4 + r, none⟩) (Nat.lt_of_lt_of_le hbs HBX.out.size)).trans ((HBX.out.cell hbs).trans (hcs i hi r u hu))
          have HA3 := Lib.hid hcs
          have HST := Lib.hid (fun h => upto_succ HK.out (k := k) h)
          have HNO := Lib.hid (HFB.out k hlt)
          have HV := Lib.hid (show fbOk n k = (fibOk (fbA n k) n.ns.length && !(decide (0 < k) && fibGt (fbA n (k - 1)) (fbA n k))) from rfl)
          rw [HN1.out] at HV
          have c0 := hcw k hlt 0 _ rfl
          have c1 := hcw k hlt 1 _ rfl
          have c2 := hcw k hlt 2 _ rfl
          have c3 := hcw k hlt 3 _ rfl
          simp only [Nat.add_zero] at c0
          clear hcs hcw
          unfold fbA at *
          have HFC := Lib.hid (fib_cases (n.fs[k]?.getD nilB) m1)
          generalize n.fs[k]?.getD nilB = f at *
          obtain ⟨bf, bfc, bfl, -⟩ := box_facts wr #[.int .i64 f.a, .int .i64 f.b, .int .i64 f.l, .int .i64 f.r] 148
          have HBF := Lib.hid (HB.out.trans (bf.mono HB.out.size))
          have f0 := bfc 0 _ rfl
          have f1 := bfc 1 _ rfl
          have f2 := bfc 2 _ rfl
          have f3 := bfc 3 _ rfl
          have g0 := (HBF.out.cell blt).trans q0
          have g1 := (HBF.out.cell blt).trans q1
          clear bf bfc bfl
          rcases HFC.out with ⟨d1, hok⟩ | ⟨d1, d2, hok⟩ | ⟨d1, d2, d3, hok⟩ | ⟨d1, d2, d3, d4, hok⟩ | ⟨d1, d2, d3, d4, d5, hok⟩ | ⟨d1, d2, d3, d4, d5, hok⟩
          rotate_left 5
          · by_cases hk0 : k = 0
            · have hk0b : decide (0 < k) = false := decide_eq_false (by omega)
              have hk0c : decide (0 < (k : Int)) = false := decide_eq_false (by omega)
              have hv := HV.out
              rw [hok, decide_eq_false (show ¬ 0 < k by omega)] at hv
              have HV2 := Lib.hid hv
              clear hv HV hk0
              have HS := Lib.hid (HST.out (by rw [HV2.out]; rfl))
              clear hok
              go_wp2
              generalize wr.alloc (.cells #[.int .i64 f.a, .int .i64 f.b, .int .i64 f.l, .int .i64 f.r] 148) = w2 at *
              have j0 := rg f0
              have j1 := rg f1
              have j2 := rg f2
              have j3 := rg f3
              have j4 := rg g0
              have j5 := rg g1
              clear f0 f1 f2 f3 g0 g1 p0 p1
              refine wp_region_quiet_below (by kernel_rfl) (by kernel_rfl) ?_
              repeat (go_big_quiet_step (first | (go_at_call 83; exact rg_same (within_any _ _ _ _))))
              refine wpQuiet_nil ?_
              rintro _ ⟨⟨dq, osq⟩, rfl⟩
              go_wp2
              go_roundw
              case rel => exact ⟨k + 1, hlt, by go_num, HS.out, HBF.out.trans ((below_regrown _ dq osq).mono HBF.out.size)⟩
              case measure => simp [intOf]; omega
            · obtain ⟨k', hk'⟩ : ∃ k', k = k' + 1 := ⟨k - 1, by omega⟩
              have HKK := Lib.hid hk'
              have o0 := (HBF.out.cell (p := ⟨b, off + k' * 4 + 0, none⟩) (Nat.lt_of_lt_of_le hbs HBX.out.size)).trans ((HBX.out.cell hbs).trans (HA3.out k' (by omega) 0 _ rfl))
              have o1 := (HBF.out.cell (p := ⟨b, off + k' * 4 + 1, none⟩) (Nat.lt_of_lt_of_le hbs HBX.out.size)).trans ((HBX.out.cell hbs).trans (HA3.out k' (by omega) 1 _ rfl))
              have o2 := (HBF.out.cell (p := ⟨b, off + k' * 4 + 2, none⟩) (Nat.lt_of_lt_of_le hbs HBX.out.size)).trans ((HBX.out.cell hbs).trans (HA3.out k' (by omega) 2 _ rfl))
              have o3 := (HBF.out.cell (p := ⟨b, off + k' * 4 + 3, none⟩) (Nat.lt_of_lt_of_le hbs HBX.out.size)).trans ((HBX.out.cell hbs).trans (HA3.out k' (by omega) 3 _ rfl))
              simp only [Nat.add_zero] at o0
              have HCF := Lib.hid (fun w => compareFibers_any (n.fs[k']?.getD nilB) f w)
              have HGT := Lib.hid (cmpF_gt (n.fs[k']?.getD nilB) f)
              have hv := HV.out
              rw [hok, show k - 1 = k' by omega, decide_eq_true (show 0 < k by omega)] at hv
              have HV2 := Lib.hid hv
              clear hok hv HV
              generalize n.fs[k']?.getD nilB = g at *
              have hkp : (0 : Int) < (k : Int) := by omega
              have hkd : decide (0 < (k : Int)) = true := decide_eq_true hkp
              have hke : decide (0 < k) = true := decide_eq_true (by omega)
              have f1w : IntKind.i64.wrap ((k : Int) - 1) = (k' : Int) := by rw [IntWalk.i64_in _ (by omega)]; omega
              have f2w : (k' : Int) < (m2 : Int) := by omega
              clear hk' hk0
              unfold fibV at HCF
              generalize cmpF g f = cc at *
              cases hgt : fibGt g f
              · have HS := Lib.hid (HST.out (by rw [HV2.out, hgt]; simp))
                have hdc : decide (0 < cc) = false := by rw [HGT.out, hgt]
                clear hgt HNO HST HV2 HGT
                go_wp2
                generalize wr.alloc (.cells #[.int .i64 f.a, .int .i64 f.b, .int .i64 f.l, .int .i64 f.r] 148) = w2 at *
                have j0 := rg f0
                have j1 := rg f1
                have j2 := rg f2
                have j3 := rg f3
                have j4 := rg g0
                have j5 := rg g1
                have t0 := rg o0
                have t1 := rg o1
                have t2 := rg o2
                have t3 := rg o3
                clear f0 f1 f2 f3 g0 g1 p0 p1 o0 o1 o2 o3
                refine wp_region_quiet_below (by kernel_rfl) (by kernel_rfl) ?_
                repeat (go_big_quiet_step (first | (go_at_call 83; exact rg_same (within_any _ _ _ _)) | (go_at_call 177; exact Calls.regrown_of (HCF.out _))))
                refine wpQuiet_nil ?_
                rintro _ ⟨⟨dq, osq⟩, rfl⟩
                go_wp2
                go_roundw
                case rel => exact ⟨k + 1, hlt, by go_num, HS.out, HBF.out.trans ((below_regrown _ dq osq).mono HBF.out.size)⟩
                case measure => simp [intOf]; omega
              · have HF := Lib.hid (HNO.out (by rw [HV2.out, hgt]; simp))
                have hdc : decide (0 < cc) = true := by rw [HGT.out, hgt]
                clear hgt HNO HST HV2 HGT
                go_wp2
                generalize wr.alloc (.cells #[.int .i64 f.a, .int .i64 f.b, .int .i64 f.l, .int .i64 f.r] 148) = w2 at *
                have j0 := rg f0
                have j1 := rg f1
                have j2 := rg f2
                have j3 := rg f3
                have j4 := rg g0
                have j5 := rg g1
                have t0 := rg o0
                have t1 := rg o1
                have t2 := rg o2
                have t3 := rg o3
                clear f0 f1 f2 f3 g0 g1 p0 p1 o0 o1 o2 o3
                refine wp_region_quiet_below (by kernel_rfl) (by kernel_rfl) ?_
                repeat (go_big_quiet_step (first | (go_at_call 83; exact rg_same (within_any _ _ _ _)) | (go_at_call 177; exact Calls.regrown_of (HCF.out _))))
                refine wpQuiet_nil ?_
                rintro _ ⟨⟨dq, osq⟩, rfl⟩
                go_wp2
                go_ret
                exact ⟨by rw [HF.out]; rfl, HBX.out.trans ((HBF.out.mono HBX.out.size).trans ((below_regrown _ dq osq).mono (Nat.le_trans HBX.out.size HBF.out.size)))⟩
          all_goals
            have HF := Lib.hid (HNO.out (by rw [HV.out, hok]; rfl))
            clear hok
            go_wp2
            generalize wr.alloc (.cells #[.int .i64 f.a, .int .i64 f.b, .int .i64 f.l, .int .i64 f.r] 148) = w2 at *
            have j0 := rg f0
            have j1 := rg f1
            have j2 := rg f2
            have j3 := rg f3
            have j4 := rg g0
            have j5 := rg g1
            clear f0 f1 f2 f3 g0 g1 p0 p1
            refine wp_region_quiet_below (by kernel_rfl) (by kernel_rfl) ?_
            repeat (go_big_quiet_step (first | (go_at_call 83; exact rg_same (within_any _ _ _ _))))
            refine wpQuiet_nil ?_
            rintro _ ⟨⟨dq, osq⟩, rfl⟩
            go_wp2
            go_ret
            exact ⟨by rw [HF.out]; rfl, HBX.out.trans ((HBF.out.mono HBX.out.size).trans ((below_regrown _ dq osq).mono (Nat.le_trans HBX.out.size HBF.out.size)))⟩
        · obtain rfl : m2 = k := by omega
          have HE := Lib.hid (HAL1.out HK.out)
          have HV := Lib.hid (show decide (2 ≤ m1 ∧ m1 ≤ 8 ∧ m2 ≤ 14) = (inB (m1 : Int) 2 8 && decide (m2 ≤ 14)) by unfold inB; rw [Bool.eq_iff_iff]; simp; omega)
          cases hin : inB (m1 : Int) 2 8
          · go_wp2_with (go_at_call 83; refine (within_any _ _ _ _).mono ?_; rintro e w' ⟨rfl, rfl⟩; rw [hin])
            go_ret
            exact ⟨by rw [HE.out, HV.out, hin]; rfl, HBX.out.trans (HB.out.mono HBX.out.size)⟩
          · by_cases h14 : (m2 : Int) ≤ 14
            · have hd : decide ((m2 : Int) ≤ 14) = true := decide_eq_true h14
              have hd2 : decide (m2 ≤ 14) = true := decide_eq_true (by omega)
              clear h14
              go_wp2_with (go_at_call 83; refine (within_any _ _ _ _).mono ?_; rintro e w' ⟨rfl, rfl⟩; rw [hin])
              go_ret
              exact ⟨by rw [HE.out, HV.out, hin, hd2]; rfl, HBX.out.trans (HB.out.mono HBX.out.size)⟩
            · have hd : decide ((m2 : Int) ≤ 14) = false := decide_eq_false h14
              have hd2 : decide (m2 ≤ 14) = false := decide_eq_false (by omega)
              clear h14
              go_wp2_with (go_at_call 83; refine (within_any _ _ _ _).mono ?_; rintro e w' ⟨rfl, rfl⟩; rw [hin])
              go_ret
              exact ⟨by rw [HE.out, HV.out, hin, hd2]; rfl, HBX.out.trans (HB.out.mono HBX.out.size)⟩
end Go.Proofs.YtmkkdenhjfjmgaaGreat
