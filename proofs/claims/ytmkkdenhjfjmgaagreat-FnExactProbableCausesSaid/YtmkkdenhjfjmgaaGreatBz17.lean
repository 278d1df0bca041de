/- Joined: XGrx XChoP XMinP XVst XChs. -/
import Derived.Test.YtmkkdenhjfjmgaaGreatBz02
import Derived.Maps.AppendAt
import Derived.Test.YtmkkdenhjfjmgaaGreatBz15
import Derived.Test.YtmkkdenhjfjmgaaGreatBz09
import Derived.Test.YtmkkdenhjfjmgaaGreatBz04
import Derived.Deep.RegionLaw
namespace Go.Proofs.YtmkkdenhjfjmgaaGreat
open Go.RowKit

/-- Elements, their cells and their blocks. -/
structure Els (w : World) (lo : Nat) (ds : List Dt) (us : List Value) (fs : List (List Nat)) : Prop where
  ul : us.length = ds.length
  fl : fs.length = ds.length
  els : ∀ (j : Nat) (d : Dt) (u : Value) (f : List Nat), ds[j]? = some d → us[j]? = some u → fs[j]? = some f → Odt w d u f
  nd : fs.flatten.Nodup
  lo : ∀ k ∈ fs.flatten, lo ≤ k
theorem Els.lt {w : World} {lo : Nat} {ds : List Dt} {us : List Value} {fs : List (List Nat)} (h : Els w lo ds us fs) : ∀ k ∈ fs.flatten, k < w.heap.size := Grw.flt h.ul h.fl h.els
theorem Els.kept {w w' : World} {lo : Nat} {ds : List Dt} {us : List Value} {fs : List (List Nat)} (h : Els w lo ds us fs) (hk : ∀ k ∈ fs.flatten, w'.heap[k]? = w.heap[k]?) : Els w' lo ds us fs :=
  ⟨h.ul, h.fl, fun j d u f e1 e2 e3 => (h.els j d u f e1 e2 e3).kept fun k hk' => hk k (List.mem_flatten.2 ⟨f, List.mem_of_getElem? e3, hk'⟩), h.nd, h.lo⟩
theorem Els.below {w w' : World} {lo : Nat} {ds : List Dt} {us : List Value} {fs : List (List Nat)} (h : Els w lo ds us fs) (hb : Below w.heap.size w w') : Els w' lo ds us fs := h.kept fun k hk => hb.block k (h.lt k hk)
theorem Els.mono {w : World} {lo lo' : Nat} {ds : List Dt} {us : List Value} {fs : List (List Nat)} (h : Els w lo ds us fs) (hl : lo' ≤ lo) : Els w lo' ds us fs := ⟨h.ul, h.fl, h.els, h.nd, fun k hk => Nat.le_trans hl (h.lo k hk)⟩
theorem Els.nil (w : World) (lo : Nat) : Els w lo [] [] [] := ⟨rfl, rfl, fun j d u f e => by simp at e, List.nodup_nil, fun k hk => by simp at hk⟩
theorem Els.one {w : World} {lo : Nat} {d : Dt} {u : Value} {fp : List Nat} (h : Odt w d u fp) (hn : fp.Nodup) (hl : ∀ k ∈ fp, lo ≤ k) : Els w lo [d] [u] [fp] := by
  refine ⟨rfl, rfl, fun j d' u' f' e1 e2 e3 => ?_, by simpa using hn, by simpa using hl⟩
  match j with
  | 0 => simp at e1 e2 e3; subst e1; subst e2; subst e3; exact h
  | j + 1 => simp at e1
theorem Els.app {w : World} {lo : Nat} {ds ds' : List Dt} {us us' : List Value} {fs fs' : List (List Nat)} (h : Els w lo ds us fs) (k : Els w lo ds' us' fs') (hd : ∀ a ∈ fs.flatten, a ∉ fs'.flatten) : Els w lo (ds ++ ds') (us ++ us') (fs ++ fs') := by
  refine ⟨by simp [h.ul, k.ul], by simp [h.fl, k.fl], fun j d u f e1 e2 e3 => ?_, ?_, fun a ha => ?_⟩
  · have h1 := h.ul
    have h2 := h.fl
    by_cases hj : j < ds.length
    · rw [List.getElem?_append_left (by omega)] at e1 e2 e3
      exact h.els j d u f e1 e2 e3
    · rw [List.getElem?_append_right (by omega)] at e1 e2 e3
      rw [h1] at e2; rw [h2] at e3
      exact k.els _ d u f e1 e2 e3
  · rw [List.flatten_append, List.nodup_append]
    exact ⟨h.nd, k.nd, fun a ha b hb e => hd a ha (by rw [e]; exact hb)⟩
  · rw [List.flatten_append, List.mem_append] at ha
    exact ha.elim (h.lo a) (k.lo a)
/-- A row under way: its own row from base on, its elements' blocks from lo on. -/
structure GrX (w : World) (base lo : Nat) (T : TypeId) (size : Nat) (v : Value) (n : Nat) (ds : List Dt) (us : List Value) (fs : List (List Nat)) : Prop where
  row : w.ownsRow base T size v n us
  e : Els w lo ds us fs
  apart : ∀ g, v.ownBlock = some g → g ∉ fs.flatten
theorem GrX.kept {w w' : World} {base lo size n : Nat} {T : TypeId} {v : Value} {ds : List Dt} {us : List Value} {fs : List (List Nat)} (h : GrX w base lo T size v n ds us fs) (hk : ∀ k, (v.ownBlock = some k ∨ k ∈ fs.flatten) → w'.heap[k]? = w.heap[k]?) : GrX w' base lo T size v n ds us fs := by
  refine ⟨⟨h.row.1, ?_⟩, h.e.kept fun k hk' => hk k (.inr hk'), h.apart⟩
  rcases h.row.2 with e | ⟨g, cap, cur, rfl, q1, q2, q3⟩
  · exact .inl e
  · exact .inr ⟨g, cap, cur, rfl, q1, by rw [hk g (.inl rfl)]; exact q2, q3⟩
theorem GrX.lt {w : World} {base lo size n : Nat} {T : TypeId} {v : Value} {ds : List Dt} {us : List Value} {fs : List (List Nat)} (h : GrX w base lo T size v n ds us fs) : ∀ k, (v.ownBlock = some k ∨ k ∈ fs.flatten) → k < w.heap.size := fun k hk =>
  hk.elim (fun e => (h.row.lt k e).2) (h.e.lt k)
theorem GrX.below {w w' : World} {base lo size n : Nat} {T : TypeId} {v : Value} {ds : List Dt} {us : List Value} {fs : List (List Nat)} (h : GrX w base lo T size v n ds us fs) (hb : Below w.heap.size w w') : GrX w' base lo T size v n ds us fs :=
  h.kept fun k hk => hb.block k (h.lt k hk)
theorem GrX.grw {w : World} {base lo size n : Nat} {T : TypeId} {v : Value} {ds : List Dt} {us : List Value} {fs : List (List Nat)} (h : GrX w base lo T size v n ds us fs) (hb : base ≤ lo) : Grw w base T size v n ds :=
  ⟨us, fs, h.row, h.e.ul, h.e.fl, h.e.els, h.e.nd, fun k hk => Nat.le_trans hb (h.e.lo k hk), h.apart⟩
theorem GrX.start {w : World} {base lo size : Nat} (T : TypeId) (hb : base ≤ w.heap.size) : GrX (w.alloc (.cells #[] T)) base lo T size (.slice (some ⟨w.heap.size, 0, none⟩) 0 0) 0 [] [] [] :=
  ⟨World.ownsRow_made w #[] 0 hb (Nat.zero_le _) (by simp), Els.nil _ _, fun g _ hk => by simp at hk⟩
theorem Grw.tox {w : World} {base size n : Nat} {T : TypeId} {v : Value} {ds : List Dt} (h : Grw w base T size v n ds) : ∃ us fs, GrX w base base T size v n ds us fs := by
  obtain ⟨us, fs, h1, h2, h3, h4, h5, h6, h7⟩ := h
  exact ⟨us, fs, h1, ⟨h2, h3, h4, h5, h6⟩, h7⟩
theorem wpList_grx {P : Program} {ops : Array Oper} {rest : List Oper} {o : Oper} {a : Act} {Q : Exit → Act → World → Prop} {w : World} (hgd : o.guard = none) (s x : Operand) (t e : TypeId)
    (ho : o.op = .call { callee := .builtin .append, args := #[s, x], argTypes := #[t, t] }) (ht : P.underlying t = some (.slice e)) (z : Value) (size bytes : Nat)
    (hinfo : (P.info? e).map (fun i => (i.zero, i.size, i.bytes)) = some (some z, size, bytes)) (hzs : z.cells.size = size) (hsz : 0 < size)
    (base lo n : Nat) (v : Value) (ds ds' : List Dt) (us news : List Value) (fs fs' : List (List Nat)) (hs : a.eval s = v) (hne : v ≠ .slice none 0 0) (hG : GrX w base lo e size v n ds us fs) (hbase : base ≤ w.heap.size)
    (ad : Addr) (m c : Nat) (hx : a.eval x = .slice (some ad) m c) (hl : news.length = m * size) (hnews : ∀ j u, news[j]? = some u → w.cell? (ad.add j) = some u) (h1 : ∀ u ∈ news, u.oneCell' = true)
    (hN : Els w lo ds' news fs') (hap : ∀ k ∈ fs'.flatten, k ∉ fs.flatten ∧ v.ownBlock ≠ some k) (hn : n + m ≤ maxLen) (hbytes : (n + m) * bytes ≤ 140737488355328)
    (h : ∀ g cap w3, GrX w3 base lo e size (.slice (some ⟨g, 0, none⟩) (n + m) cap) (n + m) (ds ++ ds') (us ++ news) (fs ++ fs') → w.grownBy w3 v.ownBlock → (v.ownBlock = some g ∨ g = w.heap.size) → wpList P ops Q rest (a.put o.dst (.slice (some ⟨g, 0, none⟩) (n + m) cap)) w3) :
    wpList P ops Q (o :: rest) a w := by
  obtain ⟨i0, hi, hz0, hz1, hz2⟩ := info_parts hinfo
  refine wpList_append_own_at _ hgd s x t ho base e i0 z size bytes ht hi hz0 hz1 hz2 hzs hsz v n us hs hG.row ad m c news hx hl hnews h1 hn hbytes hbase ?_
  intro v' w3 g1 g2 g3 g4
  obtain ⟨g, cap, rfl⟩ : ∃ g cap, v' = .slice (some ⟨g, 0, none⟩) (n + m) cap := by
    rcases g1.2 with ⟨e, _⟩ | ⟨g, cap, cur, e, _⟩
    · exact absurd (g3.1 e).1 hne
    · exact ⟨g, cap, e⟩
  have hat : v.ownBlock = some g ∨ g = w.heap.size := by
    rcases g4 with e | e
    · exact .inl (by rw [← e]; rfl)
    · exact .inr (by simpa [Value.ownBlock] using e)
  have hold : ∀ k ∈ fs.flatten, w3.heap[k]? = w.heap[k]? := fun k hk => g2.block k (hG.e.lt k hk) fun e => hG.apart k e.symm hk
  have hnew : ∀ k ∈ fs'.flatten, w3.heap[k]? = w.heap[k]? := fun k hk => g2.block k (hN.lt k hk) fun e => (hap k hk).2 e.symm
  refine h g cap w3 ⟨g1, (hG.e.kept hold).app (hN.kept hnew) (fun b hb hb' => (hap b hb').1 hb), fun g' hg' hm' => ?_⟩ g2 hat
  have : g = g' := by simpa [Value.ownBlock] using hg'
  subst this
  rw [List.flatten_append, List.mem_append] at hm'
  rcases hat with e | e
  · exact hm'.elim (hG.apart g e) (fun h => (hap g h).2 e)
  · rcases hm' with h | h
    · have := hG.e.lt g h; omega
    · have := hN.lt g h; omega
/-- A whole row of elements as what is appended. -/
theorem Ofr.els {w : World} {base size : Nat} {ds : List Dt} {v : Value} (h : Ofr w base (.rows size ds) v) (hne : v ≠ .slice none 0 0) : ∃ g off n cap us fs, v = .slice (some ⟨g, off, none⟩) n cap ∧ us.length = n * size ∧ n ≤ cap ∧ n ≤ maxLen ∧ base ≤ g ∧ g < w.heap.size ∧ Els w base ds us fs ∧ g ∉ fs.flatten ∧ ∀ j u, us[j]? = some u → w.cell? ((⟨g, off, none⟩ : Addr).add j) = some u := by
  obtain ⟨fp, h1, h2, h3⟩ := h
  cases h1 with
  | nil size => exact absurd rfl hne
  | @mk size n g off cap ds us fs cur T hl hus hf hn hc hg hcs ht hd =>
    obtain ⟨hgn, hfn⟩ := List.nodup_cons.1 h2
    refine ⟨g, off, n, cap, us, fs, rfl, by omega, hn, by omega, h3 g (by simp), (Array.getElem?_eq_some_iff.1 hg).1, ⟨hus, hf, hd, hfn, fun k hk => h3 k (List.mem_cons_of_mem _ hk)⟩, hgn, fun j u hj => ?_⟩
    rw [show (⟨g, off, none⟩ : Addr).add j = ⟨g, off + j, none⟩ by simp [Addr.add]]
    exact row_cell hg ht hj (by omega)
theorem GrX.cells {w : World} {base lo size n cap g : Nat} {T : TypeId} {ds : List Dt} {us : List Value} {fs : List (List Nat)} (h : GrX w base lo T size (.slice (some ⟨g, 0, none⟩) n cap) n ds us fs) : ∀ j u, us[j]? = some u → w.cell? ((⟨g, 0, none⟩ : Addr).add j) = some u := h.row.cells rfl
theorem GrX.one {w : World} {base lo size n : Nat} {T : TypeId} {v : Value} {ds : List Dt} {us : List Value} {fs : List (List Nat)} (h : GrX w base lo T size v n ds us fs) (h1 : ∀ d ∈ ds, ∀ u f, Odt w d u f → u.oneCell' = true) : ∀ u ∈ us, u.oneCell' = true := fun u hu => by
  obtain ⟨j, hj, rfl⟩ := List.mem_iff_getElem.1 hu
  have e1 := h.e.ul
  have e2 := h.e.fl
  have hd : j < ds.length := by omega
  have hf : j < fs.length := by omega
  exact h1 _ (List.getElem_mem hd) _ _ (h.e.els j _ _ _ (List.getElem?_eq_getElem hd) (List.getElem?_eq_getElem hj) (List.getElem?_eq_getElem hf))
theorem inD_one {w : World} {xs : List Int} {u : Value} {f : List Nat} (h : Odt w (inD xs) u f) : u.oneCell' = true := by
  unfold inD at h
  generalize (xs.map fun x => Dt.leaf (.int .i64 x)) = ds at h
  cases h <;> rfl
theorem rows_one {w : World} {base lo n : Nat} {T : TypeId} {v : Value} {L : List (List Int)} {us : List Value} {fs : List (List Nat)} (h : GrX w base lo T 1 v n (L.map inD) us fs) : ∀ u ∈ us, u.oneCell' = true := h.one fun d hd u f ho => by
  obtain ⟨xs, -, rfl⟩ := List.mem_map.1 hd
  exact inD_one ho
theorem Own.els {w : World} {base lo : Nat} {v : Value} {xs : List Int} (h : Own w base v xs) (hl : lo ≤ base) : ∃ fp, Els w lo [inD xs] [v] [fp] ∧ ∀ k ∈ fp, base ≤ k ∧ k < w.heap.size ∧ v.ownBlock = some k := by
  obtain ⟨fp, h1, h2, h3⟩ := h.tree
  exact ⟨fp, Els.one h1 h2 fun k hk => Nat.le_trans hl (h.lt k (h3 k hk)).1, fun k hk => ⟨(h.lt k (h3 k hk)).1, (h.lt k (h3 k hk)).2, h3 k hk⟩⟩
end Go.Proofs.YtmkkdenhjfjmgaaGreat
namespace Go.Proofs.YtmkkdenhjfjmgaaGreat
open Go.RowKit Go.Sort

/-! ### Choices -/
def frm (g : Nat → List (List Int)) : Nat → Nat → List (List Int)
  | 0, _ => []
  | m + 1, k => g k ++ frm g m (k + 1)
/-- The lists of so many values, rising in place from f on, each behind l. -/
def chv (sus : List Int) : Nat → Nat → List Int → List (List Int)
  | 0, _, l => [l]
  | c + 1, f, l => frm (fun k => chv sus c (k + 1) (l ++ [sus[k]?.getD 0])) (sus.length - f) f
theorem frm_step {g : Nat → List (List Int)} {n k : Nat} (h : k < n) : frm g (n - k) k = g k ++ frm g (n - (k + 1)) (k + 1) := by
  obtain ⟨m, hm⟩ : ∃ m, n - k = m + 1 := ⟨n - k - 1, by omega⟩
  rw [hm, show n - (k + 1) = m by omega]; rfl
theorem frm_end {g : Nat → List (List Int)} {n k : Nat} (h : n ≤ k) : frm g (n - k) k = [] := by rw [show n - k = 0 by omega]; rfl
theorem frm_nil {g : Nat → List (List Int)} : ∀ {m f : Nat}, (∀ k, f ≤ k → k < f + m → g k = []) → frm g m f = []
  | 0, _, _ => rfl
  | m + 1, f, h => by
    show g f ++ frm g m (f + 1) = []
    rw [h f (Nat.le_refl _) (by omega), frm_nil fun k h1 h2 => h k (by omega) (by omega)]; rfl
theorem frm_congr {g g' : Nat → List (List Int)} : ∀ {m f : Nat}, (∀ k, f ≤ k → k < f + m → g k = g' k) → frm g m f = frm g' m f
  | 0, _, _ => rfl
  | m + 1, f, h => by
    show g f ++ frm g m (f + 1) = g' f ++ frm g' m (f + 1)
    rw [h f (Nat.le_refl _) (by omega), frm_congr fun k h1 h2 => h k (by omega) (by omega)]
theorem frm_map {g : Nat → List (List Int)} {h : List Int → List Int} : ∀ {m f : Nat}, (frm g m f).map h = frm (fun k => (g k).map h) m f
  | 0, _ => rfl
  | m + 1, f => by
    show (g f ++ frm g m (f + 1)).map h = (g f).map h ++ frm (fun k => (g k).map h) m (f + 1)
    rw [List.map_append, frm_map]
theorem frm_mem {g : Nat → List (List Int)} {x : List Int} : ∀ {m f : Nat}, x ∈ frm g m f → ∃ k, f ≤ k ∧ k < f + m ∧ x ∈ g k
  | 0, _, h => by cases h
  | m + 1, f, h => by
    rcases List.mem_append.1 (show x ∈ g f ++ frm g m (f + 1) from h) with h | h
    · exact ⟨f, Nat.le_refl _, by omega, h⟩
    · obtain ⟨k, h1, h2, h3⟩ := frm_mem h; exact ⟨k, by omega, by omega, h3⟩
theorem frm_len {g : Nat → List (List Int)} {n : Nat} : ∀ {m f : Nat}, f + m = n → (∀ k, f ≤ k → k < n → (g k).length ≤ 2 ^ (n - (k + 1))) → (frm g m f).length + 1 ≤ 2 ^ m
  | 0, _, _, _ => by simp [frm]
  | m + 1, f, e, h => by
    show (g f ++ frm g m (f + 1)).length + 1 ≤ 2 ^ (m + 1)
    have h1 := h f (Nat.le_refl _) (by omega)
    have h2 := frm_len (g := g) (n := n) (m := m) (f := f + 1) (by omega) fun k a b => h k (by omega) b
    rw [show n - (f + 1) = m by omega] at h1
    rw [List.length_append, Nat.pow_succ]; omega
theorem chv_len {sus : List Int} : ∀ {c f : Nat} {l : List Int}, (chv sus c f l).length ≤ 2 ^ (sus.length - f)
  | 0, f, l => Nat.two_pow_pos _
  | c + 1, f, l => by
    show (frm _ (sus.length - f) f).length ≤ _
    by_cases hf : f ≤ sus.length
    · have := frm_len (g := fun k => chv sus c (k + 1) (l ++ [sus[k]?.getD 0])) (n := sus.length) (m := sus.length - f) (f := f) (by omega) fun k _ _ => chv_len
      omega
    · rw [frm_end (by omega)]; exact Nat.zero_le _
theorem chv_none {sus : List Int} : ∀ {c f : Nat} {l : List Int}, sus.length < f + (c + 1) → chv sus (c + 1) f l = []
  | 0, f, l, h => frm_end (by omega)
  | c + 1, f, l, h => frm_nil fun k h1 h2 => chv_none (by omega)
theorem chv_mem {sus : List Int} : ∀ {c f : Nat} {l x : List Int}, x ∈ chv sus c f l → x.length = l.length + c ∧ ∀ y ∈ x, y ∈ l ∨ y ∈ sus
  | 0, f, l, x, h => by
    have : x = l := by simpa [chv] using h
    subst this; exact ⟨rfl, fun y hy => .inl hy⟩
  | c + 1, f, l, x, h => by
    obtain ⟨k, h1, h2, h3⟩ := frm_mem (show x ∈ frm _ _ _ from h)
    obtain ⟨e, hm⟩ := chv_mem h3
    refine ⟨by rw [e]; simp; omega, fun y hy => ?_⟩
    rcases hm y hy with h | h
    · rcases List.mem_append.1 h with h | h
      · exact .inl h
      · have hk : k < sus.length := by omega
        rw [List.getElem?_eq_getElem hk] at h
        have : y = sus[k] := by simpa using h
        exact .inr (this ▸ List.getElem_mem hk)
    · exact .inr h
def iota (n : Nat) : List Int := (List.range n).map fun i : Nat => (i : Int)
theorem iota_len (n : Nat) : (iota n).length = n := by simp [iota]
theorem iota_at {n k : Nat} (h : k < n) : (iota n)[k]?.getD 0 = (k : Int) := by simp [iota, h]
def ats (sus : List Int) (l : List Int) : List Int := l.map fun x => sus[x.toNat]?.getD 0
theorem ats_snoc {sus l : List Int} {k : Nat} : ats sus (l ++ [(k : Int)]) = ats sus l ++ [sus[k]?.getD 0] := by simp [ats]
theorem ats_take {sus l : List Int} {k : Nat} (h : k < l.length) : ats sus (l.take (k + 1)) = ats sus (l.take k) ++ [sus[(l[k]?.getD 0).toNat]?.getD 0] := by
  unfold ats
  rw [List.take_add_one, List.map_append, List.getElem?_eq_getElem h]; rfl
theorem chv_ats {sus : List Int} : ∀ {c f : Nat} {l : List Int}, (chv (iota sus.length) c f l).map (ats sus) = chv sus c f (ats sus l)
  | 0, f, l => rfl
  | c + 1, f, l => by
    show (frm _ ((iota sus.length).length - f) f).map (ats sus) = frm _ (sus.length - f) f
    rw [frm_map, iota_len]
    refine frm_congr fun k h1 h2 => ?_
    show (chv _ _ _ _).map _ = _
    rw [chv_ats, iota_at (by omega), ats_snoc]

/-! ### A visitor that may stop -/
def runV {σ : Type} (step : σ → List Int → σ × Bool) : List (List Int) → σ → σ × Bool
  | [], s => (s, false)
  | x :: xs, s => if (step s x).2 = true then ((step s x).1, true) else runV step xs (step s x).1
variable {σ : Type} {step : σ → List Int → σ × Bool}
theorem runV_one {x : List Int} {s : σ} : runV step [x] s = step s x := by
  unfold runV
  split
  · rename_i h; rw [← h]
  · rename_i h; rw [Bool.not_eq_true] at h; unfold runV; rw [← h]
theorem runV_cons {x : List Int} {xs : List (List Int)} {s : σ} : runV step (x :: xs) s = if (step s x).2 = true then ((step s x).1, true) else runV step xs (step s x).1 := rfl
theorem runV_go {xs ys : List (List Int)} {s : σ} (h : (runV step xs s).2 = false) : runV step (xs ++ ys) s = runV step ys (runV step xs s).1 := by
  induction xs generalizing s with
  | nil => rfl
  | cons x xs ih =>
    rw [List.cons_append, runV_cons, runV_cons]
    rw [runV_cons] at h
    split
    · rename_i e; rw [if_pos e] at h; cases h
    · rename_i e; rw [if_neg e] at h
      exact ih h
theorem runV_stop {xs ys : List (List Int)} {s : σ} (h : (runV step xs s).2 = true) : runV step (xs ++ ys) s = runV step xs s := by
  induction xs generalizing s with
  | nil => cases h
  | cons x xs ih =>
    rw [List.cons_append, runV_cons, runV_cons]
    rw [runV_cons] at h
    split
    · rfl
    · rename_i e; rw [if_neg e] at h; exact ih h
theorem runV_map {m : List Int → List Int} {xs : List (List Int)} {s : σ} : runV (fun s x => step s (m x)) xs s = runV step (xs.map m) s := by
  induction xs generalizing s with
  | nil => rfl
  | cons x xs ih =>
    show (if (step s (m x)).2 = true then ((step s (m x)).1, true) else runV _ xs (step s (m x)).1) = (if (step s (m x)).2 = true then ((step s (m x)).1, true) else runV step (xs.map m) (step s (m x)).1)
    rw [ih]
theorem runV_filter {q : List Int → Bool} {xs : List (List Int)} {s : σ} : runV (fun s x => if q x = true then step s x else (s, false)) xs s = runV step (xs.filter q) s := by
  induction xs generalizing s with
  | nil => rfl
  | cons x xs ih =>
    rw [List.filter_cons]
    conv => lhs; unfold runV
    cases e : q x
    · simp only [Bool.false_eq_true, if_false]; exact ih
    · simp only [if_true]
      conv => rhs; unfold runV
      rw [ih]

/-! ### Explanations -/
def exl (p : Pln) (d : List Int) (c : Nat) : List (List Int) := (chv (sps p d) c 0 []).filter (expB p d)
def exTo (p : Pln) (d : List Int) (k : Nat) : List (List Int) := (List.range k).flatMap (exl p d)
def exA (p : Pln) (d : List Int) : List (List Int) := exTo p d ((sps p d).length + 1)
theorem exTo_succ (p : Pln) (d : List Int) (k : Nat) : exTo p d (k + 1) = exTo p d k ++ exl p d k := by
  unfold exTo; rw [List.range_succ, List.flatMap_append, List.flatMap_singleton]
theorem exTo_pre (p : Pln) (d : List Int) {k m : Nat} (h : k ≤ m) : ∃ r, exTo p d m = exTo p d k ++ r := by
  induction m with
  | zero => exact ⟨[], by rw [show k = 0 by omega]; simp⟩
  | succ m ih =>
    by_cases e : k = m + 1
    · subst e; exact ⟨[], by simp⟩
    · obtain ⟨r, hr⟩ := ih (by omega)
      exact ⟨r ++ exl p d m, by rw [exTo_succ, hr, List.append_assoc]⟩
def stE (p : Pln) (d all : List Int) (step : σ → List Int → σ × Bool) (s : σ) (places : List Int) : σ × Bool :=
  if expB p d (ats all places) = true then step s (ats all places) else (s, false)
theorem runV_exl {p : Pln} {d : List Int} {c : Nat} {s : σ} : runV (stE p d (sps p d) step) (chv (iota (sps p d).length) c 0 []) s = runV step (exl p d c) s := by
  have e := runV_map (step := fun s x => if expB p d x = true then step s x else (s, false)) (m := ats (sps p d)) (xs := chv (iota (sps p d).length) c 0 []) (s := s)
  refine Eq.trans (show runV (stE p d (sps p d) step) _ s = _ from e) ?_
  rw [chv_ats, runV_filter]; rfl
theorem sps_mem {p : Pln} {d : List Int} {g : Int} (h : g ∈ sps p d) : ∃ k : Nat, g = (k : Int) ∧ k < (grps p.n).length ∧ susB p d k = true := by
  unfold sps susTo at h
  rw [List.mem_map] at h
  obtain ⟨k, hk, rfl⟩ := h
  rw [List.mem_filter] at hk
  exact ⟨k, rfl, List.mem_range.1 hk.1, hk.2⟩
theorem sus_pos {p : Pln} {d : List Int} {g : Int} (h : g ∈ sps p d) : (hts p [g]).isEmpty = false := by
  obtain ⟨k, rfl, -, hs⟩ := sps_mem h
  unfold susB at hs
  simp only [Bool.and_eq_true, Bool.not_eq_true'] at hs
  exact hs.1
/-- Of suspects it is enough that the union is the mask. -/
theorem expB_sus {p : Pln} {d gs : List Int} (hd : dwOk p d = true) (h : ∀ g ∈ gs, g ∈ sps p d) : expB p d gs = decide (uni (hmks p) gs = dmk p d) := by
  unfold expB
  rw [exp_uni hd, show (gs.any fun g => (hts p [g]).isEmpty) = false from by rw [List.any_eq_false]; intro g hg; rw [sus_pos (h g hg)]; simp]
  simp
def uniB (p : Pln) (d gs : List Int) : Bool := decide (uni (hmks p) gs = dmk p d)
theorem exl_spec {p : Pln} {d : List Int} (hd : dwOk p d = true) (c : Nat) : exl p d c = (chv (sps p d) c 0 []).filter (uniB p d) := by
  unfold exl
  refine List.filter_congr fun x hx => ?_
  have := (chv_mem hx).2
  exact expB_sus hd fun g hg => (this g hg).elim (fun h => by cases h) id
end Go.Proofs.YtmkkdenhjfjmgaaGreat
namespace Go.Proofs.YtmkkdenhjfjmgaaGreat
open Go.RowKit Go.Sort

/-! ### The first explanation -/
def stF (_ : Option (List Int)) (list : List Int) : Option (List Int) × Bool := (some list, true)
theorem runV_first {xs : List (List Int)} : runV stF xs none = (xs.head?, !xs.isEmpty) := by cases xs <;> rfl
def fewO (p : Pln) (d : List Int) : Option (List Int) := (exA p d).head?
def fewL (p : Pln) (d : List Int) : List Int := (fewO p d).getD []
def fewB (p : Pln) (d : List Int) : Bool := (fewO p d).isSome
theorem runV_few (p : Pln) (d : List Int) : (runV stF (exA p d) none).1 = fewO p d := by rw [runV_first]; rfl
theorem few_at {p : Pln} {d : List Int} {k : Nat} (hk : k ≤ (sps p d).length) (h0 : exTo p d k = []) {x : List Int} {xs : List (List Int)} (h : exl p d k = x :: xs) : fewO p d = some x := by
  obtain ⟨r, hr⟩ := exTo_pre p d (show k + 1 ≤ (sps p d).length + 1 by omega)
  unfold fewO exA
  rw [hr, exTo_succ, h0, h]; rfl
theorem few_none {p : Pln} {d : List Int} (h0 : exTo p d ((sps p d).length + 1) = []) : fewO p d = none := by unfold fewO exA; rw [h0]; rfl

/-! ### The minimal explanations -/
def needB (p : Pln) (d list : List Int) : Bool := !((List.range list.length).any fun k => expB p d (list.eraseIdx k))
def stM (p : Pln) (d : List Int) (s : List (List Int)) (list : List Int) : List (List Int) × Bool := if needB p d list = true then (s ++ [list], decide (40 < s.length + 1)) else (s, false)
def minA (p : Pln) (d : List Int) : List (List Int) := (exA p d).filter (needB p d)
def minOk (p : Pln) (d : List Int) : Bool := dwOk p d && decide ((minA p d).length ≤ 40)
def minR (p : Pln) (d : List Int) : List (List Int) := if minOk p d then minA p d else []
theorem runM_few {p : Pln} {d : List Int} {xs : List (List Int)} {s : List (List Int)} (h : (s ++ xs.filter (needB p d)).length ≤ 40) : runV (stM p d) xs s = (s ++ xs.filter (needB p d), false) := by
  induction xs generalizing s with
  | nil => simp [runV]
  | cons x xs ih =>
    rw [List.filter_cons] at h ⊢
    unfold runV stM
    cases e : needB p d x
    · rw [e] at h
      simp only [Bool.false_eq_true, if_false] at h ⊢
      exact ih h
    · rw [e] at h
      simp only [if_true] at h ⊢
      have h1 : ¬ 40 < s.length + 1 := by simp at h; omega
      rw [if_neg (by simpa using h1)]
      have := ih (s := s ++ [x]) (by rw [List.append_assoc]; exact h)
      rw [List.append_assoc] at this
      exact this
theorem runM_many {p : Pln} {d : List Int} {xs : List (List Int)} {s : List (List Int)} (h : ¬ (s ++ xs.filter (needB p d)).length ≤ 40) (hs : s.length ≤ 40) : 40 < (runV (stM p d) xs s).1.length := by
  induction xs generalizing s with
  | nil => simp at h; omega
  | cons x xs ih =>
    rw [List.filter_cons] at h
    unfold runV stM
    cases e : needB p d x
    · rw [e] at h
      simp only [Bool.false_eq_true, if_false] at h ⊢
      exact ih h hs
    · rw [e] at h
      simp only [if_true] at h ⊢
      by_cases h1 : 40 < s.length + 1
      · rw [if_pos (by simpa using h1)]; simp; omega
      · rw [if_neg (by simpa using h1)]
        exact ih (by rw [List.append_assoc]; exact h) (by simp; omega)
/-- How many the visitor holds at most. -/
theorem runM_len {p : Pln} {d : List Int} {xs : List (List Int)} {s : List (List Int)} (hs : s.length ≤ 40) : (runV (stM p d) xs s).1.length ≤ 41 := by
  induction xs generalizing s with
  | nil => exact Nat.le_trans hs (by omega)
  | cons x xs ih =>
    unfold runV stM
    cases e : needB p d x
    · simp only [Bool.false_eq_true, if_false]; exact ih hs
    · simp only [if_true]
      by_cases h1 : 40 < s.length + 1
      · rw [if_pos (by simpa using h1)]; simp; omega
      · rw [if_neg (by simpa using h1)]; exact ih (by simp; omega)
theorem minOk_run {p : Pln} {d : List Int} (h : dwOk p d = true) : minOk p d = decide (¬ 40 < (runV (stM p d) (exA p d) []).1.length) := by
  unfold minOk
  rw [h, Bool.true_and]
  by_cases hm : (minA p d).length ≤ 40
  · rw [runM_few (by simpa [minA] using hm)]
    rw [decide_eq_true hm]
    exact (decide_eq_true (by unfold minA at hm; simp; exact hm)).symm
  · rw [decide_eq_false hm]
    exact (decide_eq_false (by have := runM_many (p := p) (d := d) (xs := exA p d) (s := []) (by simpa [minA] using hm) (by simp); omega)).symm
theorem minR_run {p : Pln} {d : List Int} (h : minOk p d = true) : (runV (stM p d) (exA p d) []).1 = minR p d := by
  have hm : (minA p d).length ≤ 40 := by unfold minOk at h; simp only [Bool.and_eq_true, decide_eq_true_eq] at h; exact h.2
  rw [runM_few (by simpa [minA] using hm)]
  unfold minR
  rw [if_pos h]; rfl
/-- Of suspects it is enough that no rest has the mask for its union. -/
def needU (p : Pln) (d list : List Int) : Bool := !((List.range list.length).any fun k => uniB p d (list.eraseIdx k))
theorem need_sus {p : Pln} {d list : List Int} (hd : dwOk p d = true) (h : ∀ g ∈ list, g ∈ sps p d) : needB p d list = needU p d list := by
  unfold needB needU
  congr 1
  rw [Bool.eq_iff_iff, List.any_eq_true, List.any_eq_true]
  have e : ∀ k, expB p d (list.eraseIdx k) = uniB p d (list.eraseIdx k) := fun k => expB_sus hd fun g hg => h g (List.mem_of_mem_eraseIdx hg)
  simp only [e]
theorem exl_sus {p : Pln} {d x : List Int} {c : Nat} (h : x ∈ exl p d c) : ∀ g ∈ x, g ∈ sps p d := fun g hg => ((chv_mem (List.mem_filter.1 h).1).2 g hg).elim (fun h => by cases h) id
theorem exl_filter {p : Pln} {d : List Int} (hd : dwOk p d = true) (c : Nat) : (exl p d c).filter (needB p d) = (exl p d c).filter (needU p d) := List.filter_congr fun x hx => need_sus hd (exl_sus hx)
def minTo (p : Pln) (d : List Int) (k : Nat) : List (List Int) := (exTo p d k).filter (needB p d)
theorem minTo_succ {p : Pln} {d : List Int} (hd : dwOk p d = true) (k : Nat) : minTo p d (k + 1) = minTo p d k ++ (exl p d k).filter (needU p d) := by
  unfold minTo; rw [exTo_succ, List.filter_append, exl_filter hd]
end Go.Proofs.YtmkkdenhjfjmgaaGreat
namespace Go.Proofs.YtmkkdenhjfjmgaaGreat
open Go.RowKit Go.Sort
set_option maxRecDepth 100000

/-- Only blocks of T have been written, and new ones; what T' adds is new. -/
structure Mv (T T' : Nat → Prop) (w w' : World) : Prop where
  os : w'.os = w.os
  tape : w'.tape = w.tape
  output : w'.output = w.output
  size : w.heap.size ≤ w'.heap.size
  block : ∀ g, g < w.heap.size → ¬ T g → w'.heap[g]? = w.heap[g]?
  old : ∀ g, T' g → T g ∨ w.heap.size ≤ g
theorem Mv.refl (T : Nat → Prop) (w : World) : Mv T T w w := ⟨rfl, rfl, rfl, Nat.le_refl _, fun _ _ _ => rfl, fun _ h => .inl h⟩
theorem Mv.trans {T T' T'' : Nat → Prop} {a b c : World} (h : Mv T T' a b) (k : Mv T' T'' b c) : Mv T T'' a c :=
  ⟨k.os.trans h.os, k.tape.trans h.tape, k.output.trans h.output, Nat.le_trans h.size k.size, fun g hg hn => by
    rw [k.block g (Nat.lt_of_lt_of_le hg h.size) (fun e => (h.old g e).elim hn (fun e => by omega)), h.block g hg hn], fun g hg => by
    rcases k.old g hg with e | e
    · exact h.old g e
    · exact .inr (Nat.le_trans h.size e)⟩
theorem Mv.of_below {T : Nat → Prop} {a b : World} (h : Below a.heap.size a b) : Mv T T a b := ⟨h.os, h.tape, h.output, h.size, fun k hk _ => h.block k hk, fun _ h => .inl h⟩
theorem Mv.below {T T' : Nat → Prop} {a b u : World} {N : Nat} (h : Mv T T' a b) (hb : Below N u a) (hN : N ≤ a.heap.size) (hT : ∀ g, T g → N ≤ g) : Below N u b :=
  ⟨h.os.trans hb.os, h.tape.trans hb.tape, h.output.trans hb.output, Nat.le_trans hb.size h.size, fun k hk => by rw [h.block k (Nat.lt_of_lt_of_le hk hN) (fun e => by have := hT k e; omega), hb.block k hk]⟩
theorem Own.keptM {w w' : World} {base : Nat} {v : Value} {xs : List Int} {T T' : Nat → Prop} (h : Own w base v xs) (hm : Mv T T' w w') (hT : ∀ g, v.ownBlock = some g → ¬ T g) : Own w' base v xs := by
  rcases h with h | ⟨g, off, cap, cur, rfl, h1, ⟨T, h2⟩, h3⟩
  · exact .inl h
  · exact .inr ⟨g, off, cap, cur, rfl, h1, ⟨T, by rw [hm.block g (Array.getElem?_eq_some_iff.1 h2).1 (hT g rfl)]; exact h2⟩, h3⟩
theorem ints_get {ys : List Int} {j : Nat} {v : Value} (h : (ints ys)[j]? = some v) : j < ys.length ∧ v = .int .i64 (ys[j]?.getD 0) := by
  have hj : j < ys.length := by
    have := (List.getElem?_eq_some_iff.1 h).1
    simpa using this
  refine ⟨hj, ?_⟩
  simp only [ints, List.getElem?_map, List.getElem?_eq_getElem hj, Option.map_some, Option.some.injEq] at h
  simp [List.getElem?_eq_getElem hj, h.symm]
theorem full_ok {w : World} {v : Value} {xs : List Int} (h : Rd w v xs) : ∃ a cap, v = .slice a xs.length cap ∧ xs.length ≤ cap ∧ (a = none → xs.length = 0 ∧ cap = 0) ∧ ∀ b, a = some b → ∀ j u, (ints xs)[j]? = some u → w.cell? (b.add j) = some u := by
  rcases h with ⟨rfl, rfl⟩ | ⟨b, off, cap, rfl, h1, h2, h3, h4⟩
  · exact ⟨none, 0, rfl, by simp, by simp, by simp⟩
  · refine ⟨_, cap, rfl, h1, by simp, fun b' hb j u hu => ?_⟩
    simp only [Option.some.injEq] at hb
    subst hb
    obtain ⟨hj, rfl⟩ := ints_get hu
    rw [show (⟨b, off, none⟩ : Addr).add j = ⟨b, off + j, none⟩ by simp [Addr.add]]
    exact h4 j hj
theorem full_opn {w : World} {v : Value} {xs : List Int} (h : Rd w v xs) : ∃ a cap n, Hid (xs.length = n) ∧ v = .slice a n cap ∧ n ≤ cap ∧ (a = none → n = 0 ∧ cap = 0) := by
  obtain ⟨a, cap, hv, h1, h2, _⟩ := full_ok h
  exact ⟨a, cap, xs.length, rfl, hv, h1, h2⟩
theorem Rd.cellsOf {w : World} {a : Option Addr} {n cap : Nat} {xs : List Int} (h : Rd w (.slice a n cap) xs) : ∀ b, a = some b → ∀ j u, (ints xs)[j]? = some u → w.cell? (b.add j) = some u := by
  obtain ⟨a', cap', hv, _, _, h4⟩ := full_ok h
  simp only [Value.slice.injEq] at hv
  obtain ⟨rfl, _, _⟩ := hv
  exact h4

def MvQ {σ : Type} (J : σ → (Nat → Prop) → World → Prop) (s : σ) (T : Nat → Prop) (w w' : World) : Prop := ∃ T', J s T' w' ∧ Mv T T' w w'
/-- What the visitor's walk shows. -/
structure Vis {σ : Type} (Lv : σ → Prop) (J : σ → (Nat → Prop) → World → Prop) (step : σ → List Int → σ × Bool) (n q0 q1 q2 q3 : Nat) : Prop where
  lt : ∀ s T w g, J s T w → T g → g < w.heap.size
  beh : ∀ s T w w', J s T w → Below w.heap.size w w' → J s T w'
  live : ∀ s ys, Lv s → (step s ys).2 = false → Lv (step s ys).1
  call : ∀ s T w vl ys, Lv s → J s T w → Rd w vl ys → ys.length ≤ 23 → (∀ y ∈ ys, 0 ≤ y ∧ y < (n : Int)) →
    Calls Tryz.prog 144 #[vl, ptr q0, ptr q1, ptr q2, ptr q3] w fun e w' => e = .returned (.bool (step s ys).2) ∧ MvQ J (step s ys).1 T w w'
def ChoQ {σ : Type} (J : σ → (Nat → Prop) → World → Prop) (r : σ × Bool) (T : Nat → Prop) (w : World) (e : Ending) (w' : World) : Prop := e = .returned (.bool r.2) ∧ MvQ J r.1 T w w'
theorem runV_live {σ : Type} {step : σ → List Int → σ × Bool} {Lv : σ → Prop} (h : ∀ s ys, Lv s → (step s ys).2 = false → Lv (step s ys).1) : ∀ (xs : List (List Int)) (s : σ), Lv s → (runV step xs s).2 = false → Lv (runV step xs s).1
  | [], _, hs, _ => hs
  | x :: xs, s, hs, he => by
    rw [runV_cons] at he ⊢
    split at he
    · cases he
    · rename_i e
      rw [if_neg e]
      exact runV_live h xs _ (h s x hs (by simpa using e)) he
set_option maxHeartbeats 3200000 in
theorem choices_vis {σ : Type} {Lv : σ → Prop} {J : σ → (Nat → Prop) → World → Prop} {step : σ → List Int → σ × Bool} {n q0 q1 q2 q3 : Nat} (HV : Vis Lv J step n q0 q1 q2 q3) (hn : n ≤ 23) : ∀ (c f : Nat) (vl : Value) (l : List Int) (s : σ) (T : Nat → Prop) (w : World), Lv s → J s T w → Own w 0 vl l → (∀ g, vl.ownBlock = some g → ¬ T g) → f ≤ n → l.length + c ≤ 23 → (∀ y ∈ l, 0 ≤ y ∧ y < (n : Int)) →
    Calls Tryz.prog 143 #[.int .i64 f, .int .i64 n, .int .i64 c, vl, .func (.func 144) #[] #[ptr q0, ptr q1, ptr q2, ptr q3]] w (ChoQ J (runV step (chv (iota n) c f l) s) T w) := by
  intro c
  induction c with
  | zero =>
    intro f vl l s T w hLv hJ ho hT hf hlc hy
    rw [show runV step (chv (iota n) 0 f l) s = step s l from runV_one]
    have HC := Lib.hid (HV.call s T w vl l hLv hJ ho.rd (by omega) hy)
    unfold ChoQ
    generalize step s l = r at *
    go_enter Tryz.func143, Tryz.ntmps143
    go_wp2_with (go_at_call 144; refine HC.out.mono ?_; rintro e w1 ⟨rfl, T1, h1, h2⟩)
    go_ret
    exact ⟨rfl, T1, h1, h2⟩
  | succ c ih =>
    intro f vl l s T w hLv hJ ho hT hf hlc hy
    obtain ⟨i0, hi, hz0, hz1, hz2⟩ := info_parts Tryz.infoInt
    have HQ0 := Lib.hid (show runV step (chv (iota n) (c + 1) f l) s = runV step (frm (fun k => chv (iota n) c (k + 1) (l ++ [(iota n)[k]?.getD 0])) (n - f) f) s from by show runV step (frm _ ((iota n).length - f) f) s = _; rw [iota_len])
    have HSTP := Lib.hid (fun (k : Nat) (hk : k < n) => show frm (fun k => chv (iota n) c (k + 1) (l ++ [(iota n)[k]?.getD 0])) (n - k) k = chv (iota n) c (k + 1) (l ++ [(k : Int)]) ++ frm (fun k => chv (iota n) c (k + 1) (l ++ [(iota n)[k]?.getD 0])) (n - (k + 1)) (k + 1) from by rw [frm_step hk, iota_at hk])
    have HEND := Lib.hid (show frm (fun k => chv (iota n) c (k + 1) (l ++ [(iota n)[k]?.getD 0])) (n - n) n = [] from frm_end (Nat.le_refl _))
    generalize runV step (chv (iota n) (c + 1) f l) s = R at *
    generalize frm (fun k => chv (iota n) c (k + 1) (l ++ [(iota n)[k]?.getD 0])) = FR at *
    have HIH := Lib.hid ih
    have HJ0 := Lib.hid hJ
    have HLV0 := Lib.hid hLv
    have HRL := Lib.hid (fun xs s h e => runV_live HV.live xs s h e)
    have HO0 := Lib.hid ho
    have HT0 := Lib.hid hT
    have HY0 := Lib.hid hy
    have hcI : ((c : Int) + 1 == 0) = false := by rw [beq_eq_false_iff_ne]; omega
    have hc64 : (c : Int) ≤ 23 := by omega
    have hcc : ((c + 1 : Nat) : Int) = (c : Int) + 1 := by omega
    obtain ⟨al, capl, m, HN, rfl, hcap, hnone⟩ := full_opn ho.rd
    have hm4 : m + c + 1 ≤ 23 := by rw [← HN.out]; omega
    clear ih hJ ho hT hy hlc hLv
    unfold ChoQ
    rw [hcc]
    clear hcc
    go_enter Tryz.func143, Tryz.ntmps143
    go_wp2
    go_loopw [11] (fun i wr => ∃ (k : Nat) (s' : σ) (T' : Nat → Prop), k ≤ n ∧ f ≤ k ∧ i = .int .i64 k ∧ Hid (R = runV step (FR (n - k) k) s') ∧ Hid (Lv s') ∧ Hid (J s' T' wr) ∧ Hid (Mv T T' w wr)) (fun i _ => n - (intOf i).toNat)
    case atStart => exact ⟨f, s, T, hf, Nat.le_refl _, rfl, HQ0.out, HLV0.out, HJ0.out, Mv.refl _ _⟩
    case round =>
      obtain ⟨k, s', T', hk, hk2, rfl, HQ, HLV, HJ, HM⟩ := hrel
      by_cases hlt2 : k < n
      · have hkI : (k : Int) < (n : Int) := by omega
        have hsz : w.heap.size ≤ wr.heap.size := HM.out.size
        have HOR := Lib.hid (HO0.out.keptM HM.out HT0.out)
        have hba : Below wr.heap.size wr (wr.alloc (.cells #[.int .i64 k] 3)) := (Below.refl _ _).alloc (Nat.le_refl _) _
        have HOLD := Lib.hid (fun b hb j u hu => ((HOR.out.rd.belowAll hba).cellsOf b hb j u hu))
        have hnone' : al = none → m = 0 ∧ m = 0 := fun e => ⟨(hnone e).1, (hnone e).1⟩
        have hnew : ∀ (j : Nat) u, [Value.int .i64 (k : Int)][j]? = some u → (wr.alloc (.cells #[.int .i64 k] 3)).cell? ((⟨wr.heap.size, 0, none⟩ : Addr).add j) = some u := by
          intro j u hu
          rcases j with _ | j
          · simp only [List.getElem?_cons_zero, Option.some.injEq] at hu
            subst hu
            show (wr.alloc _).cell? ⟨wr.heap.size, 0, none⟩ = _
            rw [cell_of_row _ _ _ _ _ _ (heap_alloc_new wr _)]; rfl
          · simp at hu
        have HNEW := Lib.hid hnew
        have HFR := Lib.hid (HSTP.out k hlt2)
        clear hnew
        go_wp2_with (first
          | (at_builtin; refine wpList_append_grows _ rfl (.tmp 33) (.tmp 35) 29 rfl 3 i0 (.int .i64 0) 1 8 Tryz.underlying29 hi hz0 hz1 hz2 rfl (by decide) al m m (ints l) rfl hnone' (by rw [← HN.out]; simp) HOLD.out ⟨wr.heap.size, 0, none⟩ 1 1 [.int .i64 k] rfl rfl HNEW.out (by simp [Value.oneCell']) (by omega) (by unfold maxLen; omega) (by omega) ?_; intro v1 w1 hown1 hgrow1; have hB1 := hba.grown hgrow1 (by simp) (fun k hk => by simp at hk); have hsz1 := hB1.size; have hrd1 := (own_of_row (xs := l ++ [(k : Int)]) (by rw [show ints (l ++ [(k : Int)]) = ints l ++ [.int .i64 k] from by simp [ints]]; exact hown1)); have hcall := HIH.out (k + 1) v1 (l ++ [(k : Int)]) s' T' w1 HLV.out (HV.beh _ _ _ _ HJ.out hB1) (hrd1.mono (Nat.zero_le _)) (fun g hg ht => by have h1 := HV.lt _ _ _ _ HJ.out ht; have h2 := (hrd1.lt g hg).1; simp at h2; omega) (by omega) (by rw [List.length_append, HN.out]; simp; omega) (fun x hx => by
              rcases List.mem_append.1 hx with h1 | h1
              · exact HY0.out x h1
              · have : x = (k : Int) := by simpa using h1
                omega); rw [show ((k + 1 : Nat) : Int) = (k : Int) + 1 from by omega] at hcall; generalize hX : runV step (chv (iota n) c (k + 1) (l ++ [(k : Int)])) s' = r at hcall; obtain ⟨r1, r2⟩ := r; clear hown1 hgrow1)
          | (go_at_call 143; refine hcall.mono ?_; rintro e w2 ⟨rfl, T2, h1, h2⟩; cases r2))
        · have HM2 := Lib.hid (HM.out.trans ((Mv.of_below hB1).trans h2))
          rw [HFR.out] at HQ
          have HH := Lib.hid (HQ.out.trans (runV_go (by rw [hX])))
          rw [hX] at HH
          have HJ2 := Lib.hid h1
          have HLV2 := Lib.hid (show Lv r1 from by have h := HRL.out _ s' HLV.out (by rw [hX]); rw [hX] at h; exact h)
          clear h1 h2 hX hrd1 hcall
          go_roundw
          case rel => exact ⟨k + 1, r1, T2, by omega, by omega, by go_num, HH.out, HLV2.out, HJ2.out, HM2.out⟩
          case measure => simp [intOf]; omega
        · have HM2 := Lib.hid (HM.out.trans ((Mv.of_below hB1).trans h2))
          rw [HFR.out] at HQ
          have HH := Lib.hid (HQ.out.trans (runV_stop (by rw [hX])))
          rw [hX] at HH
          have HJ2 := Lib.hid h1
          clear h1 h2 hX hrd1 hcall
          go_ret
          exact ⟨by rw [HH.out]; rfl, T2, by rw [HH.out]; exact HJ2.out, HM2.out⟩
      · obtain rfl : k = n := by omega
        have HH := Lib.hid (HQ.out)
        rw [HEND.out] at HH
        go_wp2
        go_ret
        exact ⟨by rw [HH.out]; rfl, T', by rw [HH.out]; exact HJ.out, HM.out⟩
end Go.Proofs.YtmkkdenhjfjmgaaGreat
namespace Go.Proofs.YtmkkdenhjfjmgaaGreat
open Go.RowKit Go.Sort
set_option maxRecDepth 100000

def uq (ms : List Nat) (M : Nat) (gs : List Int) : Bool := decide (uni ms gs = M)
theorem chv_end {sus : List Int} {c i : Nat} {l : List Int} (h : sus.length < i + (c + 1)) : frm (fun k => chv sus c (k + 1) (l ++ [sus[k]?.getD 0])) (sus.length - i) i = [] := by
  cases c with
  | zero => exact frm_end (by omega)
  | succ c => exact frm_nil fun k h1 h2 => chv_none (by omega)
set_option maxHeartbeats 800000 in
theorem l1OwnE_any (v : Value) (xs : List Int) (w : World) (h : Rd w v xs) (hl : xs.length ≤ 900000) :
    Calls Tryz.prog 163 #[v] w fun e w' => ∃ v', e = .returned v' ∧ w'.ownsRow w.heap.size 3 1 v' xs.length (ints xs) ∧ Below w.heap.size w w' := by
  have hb0 := ((Below.refl w.heap.size w).alloc (Nat.le_refl _) (.cells #[] 3))
  have HOWN0 := Lib.hid (World.ownsRow_lit (base := w.heap.size) (e := 3) (size := 1) w #[] 0 (Nat.le_refl _) (by simp) rfl)
  have hrd := h.belowAll hb0
  obtain ⟨a, cap, n, HN, rfl, hcap, hnone⟩ := full_opn h
  obtain ⟨a', cap', n', HN', e, _, _, hc⟩ := hrd.opn
  simp only [Value.slice.injEq] at e
  obtain ⟨rfl, rfl, rfl⟩ := e
  have HC := Lib.hid (fun h0 => by
    obtain ⟨b, off, e1, e2, e3⟩ := hc h0
    exact (⟨b, off, e1, e3⟩ : ∃ b off, a = some ⟨b, off, none⟩ ∧ ∀ j, j < n → (w.alloc (.cells #[] 3)).cell? ⟨b, off + j, none⟩ = some (.int .i64 (xs[j]?.getD 0))))
  have HNO := Lib.hid hnone
  have HB0 := Lib.hid hb0
  have hn : n ≤ 900000 := by have := HN.out; omega
  rw [HN.out]
  clear hc hrd h hb0 hl HN' hnone
  go_enter Tryz.func163, Tryz.ntmps163
  go_wp2_with (at_builtin; go_loud (refine wpList_catA rfl (.tmp 3) (.tmp 4) 29 rfl Tryz.underlying29 Tryz.infoInt w.heap.size (.slice (some ⟨w.heap.size, 0, none⟩) 0 0) 0 [] rfl HOWN0.out a n cap xs rfl HN.out HNO.out HC.out (by omega) (by simp) ?_); intro v' w1 hown1 hgrow1)
  go_ret
  exact ⟨_, rfl, by simpa using hown1, HB0.out.grown hgrow1 (by simp) (fun k hk => by have e : w.heap.size = k := (by simpa [Value.ownBlock] using hk); exact Nat.le_of_eq e)⟩
theorem row_mono {w : World} {base base' : Nat} {e : TypeId} {size : Nat} {v : Value} {n : Nat} {xs : List Value} (h : w.ownsRow base e size v n xs) (hb : base' ≤ base) : w.ownsRow base' e size v n xs :=
  ⟨h.1, h.2.imp id fun ⟨g, cap, cur, h1, h2, h3⟩ => ⟨g, cap, cur, h1, Nat.le_trans hb h2, h3⟩⟩
/-- A fresh row of lists whose elements may be older. -/
def ChR (w : World) (base : Nat) (L : List (List Int)) (v' : Value) (w' : World) : Prop := ∃ g n cap us fs, v' = .slice (some ⟨g, 0, none⟩) n cap ∧ L.length = n ∧ GrX w' w.heap.size base 29 1 (.slice (some ⟨g, 0, none⟩) n cap) n (L.map inD) us fs ∧ Below w.heap.size w w'
set_option maxHeartbeats 6400000 in
theorem l25Choose_any (ms : List Nat) (sus : List Int) (M : Nat) (hms : ∀ m ∈ ms, m < 2 ^ 12) (hsus : ∀ i : Nat, i < sus.length → 0 ≤ sus[i]?.getD 0 ∧ sus[i]?.getD 0 < ms.length) (hn : sus.length ≤ 23) :
    ∀ (c f : Nat) (vh vs vc : Value) (ch : List Int) (base : Nat) (w : World), Rd w vh (nats ms) → Rd w vs sus → Own w base vc ch → base ≤ w.heap.size → f ≤ sus.length → ch.length + c ≤ 23 → (∀ i : Nat, i < ch.length → 0 ≤ ch[i]?.getD 0 ∧ ch[i]?.getD 0 < ms.length) →
    Calls Tryz.prog 127 #[vh, vs, .int .i64 f, .int .i64 c, vc, .int .i64 M] w fun e w' => ∃ v', e = .returned v' ∧ ChR w base ((chv sus c f ch).filter (uq ms M)) v' w' := by
  intro c
  induction c with
  | zero =>
    intro f vh vs vc ch base w hh hs ho hbase hf hlc hch
    have hb1 := (Below.refl w.heap.size w).alloc (Nat.le_refl _) (.cells #[] 29)
    have HU := Lib.hid (l25Union_any vh vc ms ch _ (hh.belowAll hb1) (ho.rd.belowAll hb1) hms hch)
    have HG := Lib.hid (GrX.start (w := w) (base := w.heap.size) (lo := base) (size := 1) 29 (Nat.le_refl _))
    have HB1 := Lib.hid hb1
    have HO := Lib.hid ho
    obtain ⟨ah, ch1, nh, -, rfl, -, -, -⟩ := hh.opn
    obtain ⟨as1, cs, ns, -, rfl, -, -, -⟩ := hs.opn
    obtain ⟨ac, cc, nc, -, rfl, -, -, -⟩ := ho.rd.opn
    have HL := Lib.hid (show (chv sus 0 f ch).filter (uq ms M) = if uni ms ch = M then [ch] else [] from by
      unfold chv uq
      by_cases h : uni ms ch = M
      · simp [h]
      · simp [h])
    generalize (chv sus 0 f ch).filter (uq ms M) = L at *
    clear hh hs ho hb1 hch
    go_enter Tryz.func127, Tryz.ntmps127
    go_wp2_with fail
    generalize hw1 : w.alloc (.cells #[] 29) = w1 at *
    refine HU.out.mono ?_
    rintro e w2 ⟨rfl, rfl⟩
    by_cases hq : uni ms ch = M
    · have hqi : ((uni ms ch : Int) == (M : Int)) = true := by rw [beq_iff_eq]; omega
      have HE := Lib.hid (show L = [ch] from by rw [HL.out, if_pos hq])
      obtain ⟨fp, hels, hfp⟩ := HO.out.els (Nat.le_refl base)
      have hsz1 : w1.heap.size = w.heap.size + 1 := by rw [← hw1]; simp
      have b2 := (Below.refl w1.heap.size w1).alloc (Nat.le_refl _) (.cells #[.slice ac nc cc] 29)
      have HG2 := Lib.hid (HG.out.below b2)
      have HELS := Lib.hid ((hels.below HB1.out).below b2)
      have HFP := Lib.hid (show ∀ k ∈ [fp].flatten, k ∉ ([] : List (List Nat)).flatten ∧ (Value.slice (some ⟨w.heap.size, 0, none⟩) 0 0).ownBlock ≠ some k from fun k hk => ⟨by simp, fun e => by
        have h1 := (hfp k (by simpa using hk)).2.1
        have h2 : w.heap.size = k := by simpa [Value.ownBlock] using e
        omega⟩)
      have HCL := Lib.hid (cell_one_new w1 (.slice ac nc cc) 29)
      have HSZ2 := Lib.hid (show w.heap.size ≤ (w1.alloc (.cells #[.slice ac nc cc] 29)).heap.size by simp; omega)
      have HB2 := Lib.hid (HB1.out.trans (b2.mono HB1.out.size))
      clear hels hfp b2 hw1 hsz1
      go_wp2_with (at_builtin; go_loud (refine wpList_grx rfl (.tmp 23) (.tmp 25) 63 29 rfl Tryz.underlying63 (.slice none 0 0) 1 24 Tryz.infoRows rfl (by decide) w.heap.size base 0 (.slice (some ⟨w.heap.size, 0, none⟩) 0 0) [] [inD ch] [] [.slice ac nc cc] [] [fp] rfl (by simp) HG2.out HSZ2.out ⟨w1.heap.size, 0, none⟩ 1 1 rfl rfl HCL.out (by simp [Value.oneCell']) HELS.out HFP.out (by unfold maxLen; omega) (by omega) ?_); intro g cap w3 hG3 hgr3 hlie; have HG3 := Lib.hid hG3; have HB3 := Lib.hid (HB2.out.grown hgr3 HSZ2.out (fun q hq => by have : w.heap.size = q := (by simpa [Value.ownBlock] using hq); omega)); clear hG3 hgr3 hlie)
      go_ret
      exact ⟨_, rfl, g, 1, cap, _, _, rfl, by rw [HE.out]; rfl, by rw [HE.out]; exact HG3.out, HB3.out⟩
    · have hqi : ((uni ms ch : Int) == (M : Int)) = false := by rw [beq_eq_false_iff_ne]; omega
      have HE := Lib.hid (show L = [] from by rw [HL.out, if_neg hq])
      go_wp2
      go_ret
      exact ⟨_, rfl, _, 0, 0, _, _, rfl, by rw [HE.out]; rfl, by rw [HE.out]; exact HG.out, HB1.out⟩
  | succ c ih =>
    intro f vh vs vc ch base w hh hs ho hbase hf hlc hch
    have HIH := Lib.hid ih
    have HH := Lib.hid (fun w' (hb : Below w.heap.size w w') => hh.belowAll hb)
    have HS := Lib.hid (fun w' (hb : Below w.heap.size w w') => hs.belowAll hb)
    have HOC := Lib.hid (fun w' (hb : Below w.heap.size w w') => ho.rd.belowAll hb)
    have HCH := Lib.hid hch
    have HSUS := Lib.hid hsus
    have hb1 := (Below.refl w.heap.size w).alloc (Nat.le_refl _) (.cells #[] 29)
    have HG0 := Lib.hid (GrX.start (w := w) (base := w.heap.size) (lo := base) (size := 1) 29 (Nat.le_refl _))
    have HB1 := Lib.hid hb1
    have HLEN := Lib.hid (show ((chv sus (c + 1) f ch).filter (uq ms M)).length ≤ 8388608 from Nat.le_trans (List.length_filter_le _ _) (Nat.le_trans chv_len (Nat.le_trans (Nat.pow_le_pow_right (by omega) (show sus.length - f ≤ 23 by omega)) (Nat.le_refl (2 ^ 23)))))
    have HQ0 := Lib.hid (show (chv sus (c + 1) f ch).filter (uq ms M) = (frm (fun k => chv sus c (k + 1) (ch ++ [sus[k]?.getD 0])) (sus.length - f) f).filter (uq ms M) from rfl)
    have HSTP := Lib.hid (fun (k : Nat) (hk : k < sus.length) => show frm (fun k => chv sus c (k + 1) (ch ++ [sus[k]?.getD 0])) (sus.length - k) k = chv sus c (k + 1) (ch ++ [sus[k]?.getD 0]) ++ frm (fun k => chv sus c (k + 1) (ch ++ [sus[k]?.getD 0])) (sus.length - (k + 1)) (k + 1) from frm_step hk)
    have HEND := Lib.hid (fun (i : Nat) (h : sus.length < i + (c + 1)) => show frm (fun k => chv sus c (k + 1) (ch ++ [sus[k]?.getD 0])) (sus.length - i) i = [] from chv_end h)
    obtain ⟨ah, ch1, nh, -, rfl, -, -, -⟩ := hh.opn
    obtain ⟨as1, cs, n, HN, rfl, -, hns, hcs0⟩ := hs.opn
    obtain ⟨ac, cc, nc, HNC, rfl, -, -, -⟩ := ho.rd.opn
    have HCS := Lib.hid hcs0
    rw [HN.out] at HQ0 HSTP HEND HSUS
    have hn23 : n ≤ 23 := by rw [← HN.out]; exact hn
    have hfn : f ≤ n := by rw [← HN.out]; exact hf
    have hnc : nc + c + 1 ≤ 23 := by rw [← HNC.out]; omega
    have HNS := Lib.hid hn
    have HHF := Lib.hid HN.out
    generalize (chv sus (c + 1) f ch).filter (uq ms M) = L at *
    generalize frm (fun k => chv sus c (k + 1) (ch ++ [sus[k]?.getD 0])) = FR at *
    have hcI : ((c : Int) + 1 == 0) = false := by rw [beq_eq_false_iff_ne]; omega
    have hcc : ((c + 1 : Nat) : Int) = (c : Int) + 1 := by omega
    have hc64 : (c : Int) ≤ 23 := by omega
    have hwc : IntKind.i64.wrap (c : Int) = (c : Int) := IntWalk.i64_in _ (by omega)
    clear ih hh hs ho hb1 hch hsus hcs0 hf hlc hn
    rw [hcc]
    clear hcc
    go_enter Tryz.func127, Tryz.ntmps127
    go_wp2
    generalize w.alloc (.cells #[] 29) = w1 at *
    go_loopw [13, 14] (fun s13 i wr => ∃ (k g m cap : Nat) (acc : List (List Int)) (us : List Value) (fs : List (List Nat)), k ≤ n ∧ i = .int .i64 k ∧ s13 = .slice (some ⟨g, 0, none⟩) m cap ∧ Hid (acc.length = m) ∧ Hid (L = acc ++ (FR (n - k) k).filter (uq ms M)) ∧ Hid (GrX wr w.heap.size base 29 1 (.slice (some ⟨g, 0, none⟩) m cap) m (acc.map inD) us fs) ∧ Hid (Below w.heap.size w wr)) (fun _ i _ => n + 1 - (intOf i).toNat)
    case atStart => exact ⟨f, w.heap.size, 0, 0, [], [], [], hfn, rfl, rfl, rfl, HQ0.out, HG0.out, HB1.out⟩
    case round =>
      obtain ⟨k, g, m, cap, acc, us, fs, hk, rfl, rfl, HM, HL, HG, HB⟩ := hrel
      by_cases hlt : k + (c + 1) ≤ n
      · have hltI : (k : Int) + ((c : Int) + 1) ≤ (n : Int) := by omega
        have hkn : k < n := by omega
        have hknI : (k : Int) < (n : Int) := by omega
        obtain ⟨bs, offs, rfl, hbs, hcs⟩ := HCS.out (by omega)
        have y0 : wr.drew.cell? ⟨bs, offs + k, none⟩ = some (.int .i64 (sus[k]?.getD 0)) := (HB.out.cell (p := ⟨bs, offs + k, none⟩) hbs).trans (hcs k hkn)
        have hbsw : bs < wr.drew.heap.size := Nat.lt_of_lt_of_le hbs HB.out.size
        have HX := Lib.hid (HSUS.out k hkn)
        have HST := Lib.hid (HSTP.out k hkn)
        have bel0 : Below wr.heap.size wr wr.drew := (Below.refl wr.heap.size wr).drew
        have HOW := Lib.hid (fun w' (hb : Below wr.heap.size wr w') => show Calls Tryz.prog 163 #[.slice ac nc cc] w' (fun e w5 => ∃ v5, e = .returned v5 ∧ w5.ownsRow wr.heap.size 3 1 v5 nc (ints ch) ∧ Below wr.heap.size wr w5 ∧ Below w'.heap.size w' w5) from (l1OwnE_any _ ch w' ((HOC.out wr HB.out).belowAll hb) (by rw [HNC.out]; omega)).mono (by
          rintro e w5 ⟨v5, rfl, r5, b5⟩
          rw [HNC.out] at r5
          exact ⟨v5, rfl, row_mono r5 hb.size, hb.trans (b5.mono hb.size), b5⟩))
        have HCK := Lib.hid (fun (w6 : World) (v6 : Value) (o6 : Own w6 wr.heap.size v6 (ch ++ [sus[k]?.getD 0])) (b6 : Below wr.heap.size wr w6) => HIH.out (k + 1) (.slice ah nh ch1) (.slice (some ⟨bs, offs, none⟩) n cs) v6 (ch ++ [sus[k]?.getD 0]) wr.heap.size w6 ((HH.out wr HB.out).belowAll b6) ((HS.out wr HB.out).belowAll b6) o6 b6.size (by rw [HHF.out]; omega) (by rw [List.length_append, HNC.out]; simp; omega) (fun i hi => by
          by_cases h : i < ch.length
          · rw [List.getElem?_append_left h]; exact HCH.out i h
          · have e : i = ch.length := by rw [List.length_append] at hi; simp at hi; omega
            rw [List.getElem?_append_right (by omega), e, Nat.sub_self]
            exact HX.out))
        rw [show ((k + 1 : Nat) : Int) = (k : Int) + 1 from by omega] at HCK
        have HLB := Lib.hid (show acc.length + ((chv sus c (k + 1) (ch ++ [sus[k]?.getD 0])).filter (uq ms M)).length ≤ 8388608 from by
          have h1 := HLEN.out
          rw [HL.out, HST.out, List.filter_append, List.length_append, List.length_append] at h1
          omega)
        clear hcs hbs
        generalize sus[k]?.getD 0 = x at *
        generalize hX7 : (chv sus c (k + 1) (ch ++ [x])).filter (uq ms M) = L7 at *
        have hl0 : (wr.drew.alloc (.cells #[.int .i64 x] 3)).cell? ⟨wr.heap.size, 0, none⟩ = some (.int .i64 x) := by
          show (wr.drew.alloc (.cells #[.int .i64 x] 3)).cell? ⟨wr.drew.heap.size, 0, none⟩ = _
          rw [cell_of_row _ _ _ _ _ _ (heap_alloc_new wr.drew _)]; rfl
        have hsl : wr.heap.size < (wr.drew.alloc (.cells #[.int .i64 x] 3)).heap.size := by simp
        have HNEW := Lib.hid (fun (W : World) => show (W.alloc (.cells #[.int .i64 x] 3)).cell? ⟨W.heap.size, 0, none⟩ = some (.int .i64 x) from by rw [cell_of_row _ _ _ _ _ _ (heap_alloc_new W _)]; rfl)
        have hwrb : w.heap.size ≤ wr.heap.size := HB.out.size
        have HX7 := Lib.hid hX7
        clear hlt hX7
        have hwk : IntKind.i64.wrap ((k : Int) + 1) = (k : Int) + 1 := IntWalk.i64_in _ (by omega)
        go_wp2
        go_region_law (first
          | ((refine step_of_list rfl ?_); (with_reducible show wpList _ _ _ (⟨some 51, _, _, _, _, _⟩ :: _) _ _); (go_loud (refine wpList_catA rfl (.tmp 45) (.tmp 50) 29 rfl Tryz.underlying29 Tryz.infoInt wr.heap.size v5 nc ch (by rfl) (by first | exact r5 | exact r5.alloc _) _ 1 _ [x] (by rfl) rfl (fun e => by cases e) (fun _ => ⟨_, 0, rfl, one_cell (by first | exact l5 | exact HNEW.out _)⟩) (by omega) (by first | exact B5.size | exact size_alloc B5.size) ?_)); (intro v6 w6 r6 g6); (have B6 := Below.grown (by first | exact B5 | exact B5.alloc B5.size _) g6 (by first | exact B5.size | exact size_alloc B5.size) (fun q hq => (r5.lt q hq).1)); (have o6 := own_of_row r6); (obtain ⟨a6, c6, n6, -, rfl, -⟩ := o6.rd.opn); (unfold wpList); (refine ⟨rfl, ?_⟩))
          | ((refine step_of_list rfl ?_); (with_reducible show wpList _ _ _ (⟨some 54, _, _, _, _, _⟩ :: _) _ _); (go_loud (refine wpList_grx rfl (.tmp 37) (.tmp 53) 63 29 rfl Tryz.underlying63 (.slice none 0 0) 1 24 Tryz.infoRows rfl (by decide) w.heap.size base m (.slice (some ⟨g, 0, none⟩) m cap) (acc.map inD) (L7.map inD) us us7 fs fs7 (by rfl) (by simp) (HG.out.below B7) (Nat.le_trans hwrb B7.size) ⟨g7, 0, none⟩ n7 cap7 (by rfl) G7.row.1 G7.cells (rows_one G7) (G7.e.mono (Nat.le_trans hbase hwrb)) (fun q hq => ⟨fun h => by have h1 := G7.e.lo q hq; have h2 := HG.out.lt q (.inr h); omega, fun h => by have h1 := G7.e.lo q hq; have h2 := HG.out.lt q (.inl h); omega⟩) (by have := HLB.out; have := HM.out; unfold maxLen; omega) (by have := HLB.out; have := HM.out; omega) ?_)); (intro g8 cap8 w8 G8 gr8 lie8); (have B8 := (HB.out.trans (B7.mono hwrb)).grown gr8 (Nat.le_trans hwrb B7.size) (fun q hq => (HG.out.row.lt q hq).1)); (unfold wpList); (refine ⟨rfl, ?_⟩))
          | (go_simp; go_at_call 163; refine (HOW.out _ (by first | exact bel0 | exact bel0.alloc bel0.size _)).mono ?_; rintro e w5 ⟨v5, rfl, r5, B5, b5⟩; first | (have y5 := (b5.cell (p := ⟨bs, offs + k, none⟩) hbsw).trans y0) | (have l5 := (b5.cell (p := ⟨wr.heap.size, 0, none⟩) hsl).trans hl0))
          | (go_simp; go_at_call 127; go_loud (with_reducible refine (HCK.out w6 _ o6 B6).mono ?_); rintro e w7 ⟨v7, rfl, h7⟩; obtain ⟨g7, n7, cap7, us7, fs7, rfl, hl7, G7, b7⟩ := h7; have B7 := B6.trans (b7.mono B6.size)))
        all_goals
          clear hwk
          have HG8 := Lib.hid G8
          have HB8 := Lib.hid B8
          have HL8 := Lib.hid hl7
          have HLX := Lib.hid (show L = (acc ++ L7) ++ (FR (n - (k + 1)) (k + 1)).filter (uq ms M) from by rw [HL.out, HST.out, List.filter_append, List.append_assoc, HX7.out])
          clear G8 B8 hl7 G7 b7 B7 gr8 lie8
          go_wp2
          go_roundw
          case rel => exact ⟨k + 1, g8, m + n7, cap8, acc ++ L7, us ++ us7, fs ++ fs7, by omega, by go_num, rfl, (show (acc ++ L7).length = m + n7 by rw [List.length_append, HM.out, HL8.out]), HLX.out, by rw [List.map_append]; exact HG8.out, HB8.out⟩
          case measure => simp [intOf]; omega
      · have hltI : ¬ (k : Int) + ((c : Int) + 1) ≤ (n : Int) := by omega
        have HE := Lib.hid (show L = acc from by rw [HL.out, HEND.out k (by omega)]; simp)
        clear hlt
        go_wp2
        go_ret
        exact ⟨_, rfl, g, m, cap, us, fs, rfl, by rw [HE.out]; exact HM.out, by rw [HE.out]; exact HG.out, HB.out⟩
end Go.Proofs.YtmkkdenhjfjmgaaGreat
