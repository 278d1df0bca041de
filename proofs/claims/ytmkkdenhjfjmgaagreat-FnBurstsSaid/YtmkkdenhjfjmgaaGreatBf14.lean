/- Draws: networks under way; walk: network. -/
import Derived.Test.YtmkkdenhjfjmgaaGreatBf06
import Derived.Test.YtmkkdenhjfjmgaaGreatBf13
import Derived.Test.YtmkkdenhjfjmgaaGreatBf03
namespace Go.Proofs.YtmkkdenhjfjmgaaGreat
open Go.RowKit Go.Sort
set_option maxRecDepth 100000

theorem least_any (a b : Int) (w : World) : Calls Tryz.prog 196 #[.int .i64 a, .int .i64 b] w fun e w' => ∃ m : Int, e = .returned (.int .i64 m) ∧ (m = a ∨ m = b) ∧ w = w' := by
  by_cases h : a < b
  · go_enter Tryz.func196, Tryz.ntmps196
    go_wp2
    go_ret
    exact ⟨a, rfl, .inl rfl, rfl⟩
  · go_enter Tryz.func196, Tryz.ntmps196
    go_wp2
    go_ret
    exact ⟨b, rfl, .inr rfl, rfl⟩
theorem mostA_any (a b : Int) (w : World) : Calls Tryz.prog 197 #[.int .i64 a, .int .i64 b] w fun e w' => ∃ m : Int, e = .returned (.int .i64 m) ∧ (m = a ∨ m = b) ∧ w = w' := by
  by_cases h : b < a
  · go_enter Tryz.func197, Tryz.ntmps197
    go_wp2
    go_ret
    exact ⟨a, rfl, .inl rfl, rfl⟩
  · go_enter Tryz.func197, Tryz.ntmps197
    go_wp2
    go_ret
    exact ⟨b, rfl, .inr rfl, rfl⟩
/-! ### Rows of the call's own -/
def StrRow (w : World) (base : Nat) (v : Value) (ss : List ByteArray) : Prop := w.ownsRow base 9 1 v ss.length (ss.map Value.string)
theorem ownsRow_kept {w w' : World} {base : Nat} {e : TypeId} {size : Nat} {v : Value} {n : Nat} {xs : List Value} (h : w.ownsRow base e size v n xs) (hk : ∀ g, v.ownBlock = some g → w'.heap[g]? = w.heap[g]?) : w'.ownsRow base e size v n xs := by
  refine ⟨h.1, ?_⟩
  rcases h.2 with q | ⟨g, cap, cur, rfl, q1, q2, q3⟩
  · exact .inl q
  · exact .inr ⟨g, cap, cur, rfl, q1, by rw [hk g rfl]; exact q2, q3⟩
theorem fltC_str : ∀ ss : List ByteArray, fltC strE ss = (ss.map Value.string).map Dt.leaf
  | [] => rfl
  | s :: ss => by
    have ih := fltC_str ss
    simp only [fltC, List.flatMap_cons, strE, List.map_cons, List.map_nil] at ih ⊢
    rw [ih]; rfl
theorem StrRow.rd {w : World} {base : Nat} {v : Value} {ss : List ByteArray} (h : StrRow w base v ss) : Rdt w (flt 1 strE ss) v := by
  rcases h.2 with ⟨rfl, h0⟩ | ⟨g, cap, cur, rfl, q1, q2, q3, q4, q5, q6⟩
  · have : ss = [] := List.eq_nil_of_length_eq_zero h0
    subst this
    exact .nil 1
  · have hcells := World.ownsRow.cells h (g := g) rfl
    refine .mk (us := ss.map Value.string) (by rw [fltC_len (m := 1) (fun _ => rfl)]) (by rw [List.length_map, fltC_len (m := 1) (fun _ => rfl)]; omega) q3 q4 (Array.getElem?_eq_some_iff.1 q2).1 (fun j u hj => ?_) (fun j d u h1 h2 => ?_)
    · have := hcells j u hj
      rwa [addr_add] at this
    · rw [fltC_str, List.getElem?_map, h2] at h1
      simp at h1
      rw [← h1]
      exact .leaf u
/-- A network in rows of the call's own. -/
structure NtD (w : World) (base : Nat) (u1 u2 : Value) (n : Net) : Prop where
  ns : StrRow w base u1 n.ns
  fs : FibRow w base u2 n.fs
  ap : Apt u1 u2
  sm : ∀ f ∈ n.fs, smallF f
  nz : ∀ s ∈ n.ns, s.size ≤ 9
  nl : 2 ≤ n.ns.length ∧ n.ns.length ≤ 16
  fl : n.fs.length ≤ 40
theorem NtD.kept {w w' : World} {base : Nat} {u1 u2 : Value} {n : Net} (h : NtD w base u1 u2 n) (hk : ∀ g, base ≤ g → (u1.ownBlock = some g ∨ u2.ownBlock = some g) → w'.heap[g]? = w.heap[g]?) : NtD w' base u1 u2 n :=
  ⟨ownsRow_kept h.ns fun g hg => hk g (h.ns.lt g hg).1 (.inl hg), ownsRow_kept h.fs fun g hg => hk g (h.fs.lt g hg).1 (.inr hg), h.ap, h.sm, h.nz, h.nl, h.fl⟩
theorem NtD.lt {w : World} {base : Nat} {u1 u2 : Value} {n : Net} (h : NtD w base u1 u2 n) : ∀ g, (u1.ownBlock = some g ∨ u2.ownBlock = some g) → base ≤ g ∧ g < w.heap.size := fun g hg => hg.elim (h.ns.lt g) (h.fs.lt g)
theorem NtD.cs {w w' : World} {base B K : Nat} {c u1 u2 : Value} {n : Net} (h : NtD w base u1 u2 n) (hc : CS w B c K w') (hB : B < base) : NtD w' base u1 u2 n :=
  h.kept fun g hg hb => hc.2.2.block g (h.lt g hb).2 fun e => by have := Option.some.inj e; omega
theorem NtD.below {w w' : World} {base : Nat} {u1 u2 : Value} {n : Net} (h : NtD w base u1 u2 n) (hb : Below w.heap.size w w') : NtD w' base u1 u2 n :=
  h.kept fun g _ hg => hb.block g (h.lt g hg).2
theorem NtD.base {w : World} {b b' : Nat} {u1 u2 : Value} {n : Net} (h : NtD w b u1 u2 n) (hb : b' ≤ b) : NtD w b' u1 u2 n :=
  ⟨⟨h.ns.1, h.ns.2.imp id fun ⟨g, cap, cur, k1, k2, k3⟩ => ⟨g, cap, cur, k1, Nat.le_trans hb k2, k3⟩⟩, ⟨h.fs.1, h.fs.2.imp id fun ⟨g, cap, cur, k1, k2, k3⟩ => ⟨g, cap, cur, k1, Nat.le_trans hb k2, k3⟩⟩, h.ap, h.sm, h.nz, h.nl, h.fl⟩
theorem NtD.slices {w : World} {base : Nat} {u1 u2 : Value} {n : Net} (h : NtD w base u1 u2 n) : (∃ a c, u1 = .slice a n.ns.length c) ∧ ∃ a c, u2 = .slice a n.fs.length c := by
  refine ⟨?_, ?_⟩
  · rcases h.ns.2 with ⟨e, h0⟩ | ⟨g, cap, cur, e, _⟩
    · exact ⟨none, 0, by rw [e, h0]⟩
    · exact ⟨_, _, e⟩
  · rcases h.fs.2 with ⟨e, h0⟩ | ⟨g, cap, cur, e, _⟩
    · exact ⟨none, 0, by rw [e, h0]⟩
    · exact ⟨_, _, e⟩
theorem NtD.rd {w : World} {base : Nat} {u1 u2 : Value} {n : Net} (h : NtD w base u1 u2 n) : NetR w (.agg #[u1, u2]) n :=
  ⟨u1, u2, rfl, h.ns.rd, h.fs.rd, fun i => by
    unfold nmA
    by_cases hi : i < n.ns.length
    · rw [List.getElem?_eq_getElem hi]; exact Nat.le_trans (h.nz _ (List.getElem_mem hi)) (by omega)
    · rw [List.getElem?_eq_none (by omega)]; exact Nat.zero_le _⟩
def six : List ByteArray := [⟨#[97]⟩, ⟨#[98]⟩, ⟨#[99]⟩, ⟨#[100]⟩, ⟨#[101]⟩, ⟨#[102]⟩]
theorem six_row {w : World} {base g k : Nat} (hg : w.heap[g]? = some (.cells #[.string ⟨#[97]⟩, .string ⟨#[98]⟩, .string ⟨#[99]⟩, .string ⟨#[100]⟩, .string ⟨#[101]⟩, .string ⟨#[102]⟩] 9 (0, 0))) (hb : base ≤ g) (hk : k ≤ 6) : StrRow w base (.slice (some ⟨g, 0, none⟩) k 6) (six.take k) := by
  have hl : (six.take k).length = k := by rw [List.length_take]; show min k 6 = k; omega
  unfold StrRow
  rw [hl]
  exact ⟨by rw [List.length_map, hl]; omega, .inr ⟨g, 6, _, rfl, hb, hg, hk, by unfold maxLen; omega, rfl, by rw [Nat.mul_one, List.map_take]; rfl⟩⟩
theorem six_nz (k : Nat) : ∀ s ∈ six.take k, s.size ≤ 9 := fun s hs => by
  have h := List.mem_of_mem_take hs
  simp [six] at h
  rcases h with rfl | rfl | rfl | rfl | rfl | rfl <;> (show (1 : Nat) ≤ 9; omega)
/-- What a loop of network keeps. -/
structure Nb (w wr : World) (B : Nat) (c : Value) (K bN : Nat) (u1 u2 : Value) (n : Net) : Prop where
  cs : CS w B c K wr
  box : wr.heap[bN]? = some (.cells #[u1, u2] 35 (0, 0))
  d : NtD wr w.heap.size u1 u2 n
  hb : w.heap.size ≤ bN
  ne : u1.ownBlock ≠ some bN ∧ u2.ownBlock ≠ some bN
theorem Nb.call {w wr w' : World} {B K K' bN : Nat} {c u1 u2 : Value} {n : Net} (h : Nb w wr B c K bN u1 u2 n) (hc : CS wr B c K' w') : Nb w w' B c K' bN u1 u2 n :=
  have hB := h.cs.1.1
  have hbN := h.hb
  ⟨h.cs.call hc, hc.blk h.box (by omega), h.d.cs hc hB, h.hb, h.ne⟩
theorem Nb.below {w wr w' : World} {B K bN : Nat} {c u1 u2 : Value} {n : Net} (h : Nb w wr B c K bN u1 u2 n) (hb : Below wr.heap.size wr w') : Nb w w' B c K bN u1 u2 n :=
  ⟨h.cs.below hb, kept_o' h.box hb, h.d.below hb, h.hb, h.ne⟩
/-- A row with one fiber more, stored into the network's variable. -/
theorem Nb.put {w wr w' : World} {B K bN : Nat} {c u1 u2 v' : Value} {n : Net} (h : Nb w wr B c K bN u1 u2 n) (hp : PutF wr.heap.size n.fs.length wr v' w') (hl : n.fs.length ≤ 39) : ∃ fs', fs'.length = n.fs.length + 1 ∧ Nb w (w'.setCell ⟨bN, 1, none⟩ v') B c K bN u1 v' ⟨n.ns, fs'⟩ := by
  obtain ⟨fs', h1, h2, h3, h4, h5⟩ := hp
  have hbx := h.below h5
  have lbN := (Array.getElem?_eq_some_iff.1 h.box).1
  have hwr := h.cs.size
  have hne : v'.ownBlock ≠ some bN := fun e => by have := (h1.lt bN e).1; omega
  refine ⟨fs', h2, hbx.cs.set h.hb v', ?_, ⟨ownsRow_kept hbx.d.ns fun g hg => heap_setCell_other w' ⟨bN, 1, none⟩ g v' fun e => h.ne.1 (by rw [hg]; exact congrArg some e), ?_, fun q hq e => ?_, h3, h.d.nz, h.d.nl, by show fs'.length ≤ 40; omega⟩, h.hb, h.ne.1, hne⟩
  · exact heap_setCell_same w' bN 1 _ _ v' hbx.box
  · have hr : FibRow w' w.heap.size v' fs' := ⟨h1.1, h1.2.imp id fun ⟨g, cap, cur, k1, k2, k3⟩ => ⟨g, cap, cur, k1, Nat.le_trans hwr k2, k3⟩⟩
    exact ownsRow_kept hr fun g hg => heap_setCell_other w' ⟨bN, 1, none⟩ g v' fun e => hne (by rw [hg]; exact congrArg some e)
  · have k1 := (h.d.ns.lt q hq).2
    have k2 := (h1.lt q e).1
    omega
theorem l2Put_agg (v : Value) (fs : List Fib) (a b l r : Int) (w : World) (h : Rdt w (flt 4 fibE fs) v) (hs : ∀ g ∈ fs, smallF g) (hf : smallF ⟨a, b, l, r⟩) (hl : fs.length ≤ 1000) :
    Calls Tryz.prog 195 #[v, .agg #[.int .i64 a, .int .i64 b, .int .i64 l, .int .i64 r]] w fun e w' => ∃ v', e = .returned v' ∧ PutF w.heap.size fs.length w v' w' := l2Put_any v fs ⟨a, b, l, r⟩ w h hs hf hl
theorem lit_rng {w : World} {g : Nat} {cs : Array Value} {T : TypeId} {n : Nat} {lo hi : Int} (h : w.heap[g]? = some (.cells cs T (0, 0))) (hr : ∀ j, j < n → ∃ x : Int, lo ≤ x ∧ x ≤ hi ∧ cs[j]? = some (.int .i64 x)) : ∀ j, j < n → ∃ x : Int, lo ≤ x ∧ x ≤ hi ∧ w.cell? ⟨g, j, none⟩ = some (.int .i64 x) := fun j hj => by
  obtain ⟨x, h1, h2, h3⟩ := hr j hj
  exact ⟨x, h1, h2, blkc h h3⟩
theorem risk_rng : ∀ j, j < 5 → ∃ x : Int, 0 ≤ x ∧ x ≤ 2 ∧ (#[Value.int .i64 0, .int .i64 0, .int .i64 0, .int .i64 1, .int .i64 2] : Array Value)[j]? = some (.int .i64 x)
  | 0, _ => ⟨0, by omega, by omega, rfl⟩
  | 1, _ => ⟨0, by omega, by omega, rfl⟩
  | 2, _ => ⟨0, by omega, by omega, rfl⟩
  | 3, _ => ⟨1, by omega, by omega, rfl⟩
  | 4, _ => ⟨2, by omega, by omega, rfl⟩
  | j + 5, h => by omega
theorem net_begin {w1 w2 : World} {B K k : Nat} {c : Value} (h : CS w1 B c K w2) (hs : w2.heap.size = w1.heap.size) (h2 : 2 ≤ k) (h6 : k ≤ 6) :
    Nb w1 ((w2.alloc (.cells #[.string ⟨#[97]⟩, .string ⟨#[98]⟩, .string ⟨#[99]⟩, .string ⟨#[100]⟩, .string ⟨#[101]⟩, .string ⟨#[102]⟩] 9)).alloc (.cells #[.slice (some ⟨w1.heap.size, 0, none⟩) k 6, .slice none 0 0] 35)) B c K (w1.heap.size + 1) (.slice (some ⟨w1.heap.size, 0, none⟩) k 6) (.slice none 0 0) ⟨six.take k, []⟩ := by
  have hl : (six.take k).length = k := by rw [List.length_take]; show min k 6 = k; omega
  have e1 : (w2.alloc (.cells #[.string ⟨#[97]⟩, .string ⟨#[98]⟩, .string ⟨#[99]⟩, .string ⟨#[100]⟩, .string ⟨#[101]⟩, .string ⟨#[102]⟩] 9)).heap.size = w1.heap.size + 1 := by rw [← hs]; simp
  have e2 := heap_alloc_new w2 (.cells #[.string ⟨#[97]⟩, .string ⟨#[98]⟩, .string ⟨#[99]⟩, .string ⟨#[100]⟩, .string ⟨#[101]⟩, .string ⟨#[102]⟩] 9)
  refine ⟨(h.alloc _).alloc _, ?_, ⟨?_, ?_, (fun q h1 h2 => by cases h2), (fun f hf => by cases hf), six_nz k, ⟨by show 2 ≤ (six.take k).length; omega, by show (six.take k).length ≤ 16; omega⟩, Nat.zero_le _⟩, Nat.le_succ _, (fun e => by have e' : w1.heap.size = w1.heap.size + 1 := Option.some.inj e; omega), (fun e => by cases e)⟩
  · rw [← e1]; exact heap_alloc_new _ _
  · exact six_row (by rw [← hs] at *; exact (heap_alloc_old _ _ (by rw [e1]; omega)).trans e2) (Nat.le_refl _) h6
  · exact ⟨rfl, .inl ⟨rfl, rfl⟩⟩
theorem Nb.mono {w wr : World} {B K K' bN : Nat} {c u1 u2 : Value} {n : Net} (h : Nb w wr B c K bN u1 u2 n) (hk : K ≤ K') : Nb w wr B c K' bN u1 u2 n := ⟨h.cs.mono hk, h.box, h.d, h.hb, h.ne⟩
theorem Nb.drew {w wr : World} {B K bN : Nat} {c u1 u2 : Value} {n : Net} (h : Nb w wr B c K bN u1 u2 n) : Nb w wr.drew B c K bN u1 u2 n := h.below (Below.refl _ _).drew
theorem Nb.alloc {w wr : World} {B K bN : Nat} {c u1 u2 : Value} {n : Net} (h : Nb w wr B c K bN u1 u2 n) (o : Obj) : Nb w (wr.alloc o) B c K bN u1 u2 n := h.below ((Below.refl _ _).alloc (Nat.le_refl _) o)
theorem Nb.cell {w wr : World} {B K bN : Nat} {c u1 u2 : Value} {n : Net} (h : Nb w wr B c K bN u1 u2 n) : wr.cell? ⟨bN, 1, none⟩ = some u2 := blkc h.box rfl
theorem Nb.frozen {w wr : World} {B K bN : Nat} {c u1 u2 : Value} {n : Net} (h : Nb w wr B c K bN u1 u2 n) : wr.frozen? ⟨bN, 1, none⟩ = false := by simp [World.frozen?, h.box]
theorem Nb.pick {w wr : World} {B K bN : Nat} {c u1 u2 : Value} {n : Net} (h : Nb w wr B c K bN u1 u2 n) (hk : K ≤ 4000000000000000) (N : Int) (h1 : 1 ≤ N) (h2 : N ≤ 1073741824) :
    Calls Tryz.prog 82 #[.pointer (some ⟨B, 0, none⟩), .int .i64 N] wr fun e w' => ∃ x : Int, 0 ≤ x ∧ x ≤ N - 1 ∧ e = .returned (.int .i64 x) ∧ Hid (Nb w w' B c (K + 2) bN u1 u2 n) ∧ CS wr B c (K + 2) w' := by
  refine (pickC B c K N wr h.cs.st hk h1 h2).mono ?_
  rintro e w' ⟨x, x0, x1, rfl, hc, -⟩
  exact ⟨x, x0, x1, rfl, h.call hc, hc⟩
theorem Nb.one {w wr : World} {B K bN : Nat} {c u1 u2 : Value} {n : Net} (h : Nb w wr B c K bN u1 u2 n) (hk : K ≤ 4000000000000000) (N : Int) (h1 : 1 ≤ N) (h2 : N ≤ 1073741824) :
    Calls Tryz.prog 126 #[.pointer (some ⟨B, 0, none⟩), .int .i64 N] wr fun e w' => ∃ b : Bool, e = .returned (.bool b) ∧ Hid (Nb w w' B c (K + 2) bN u1 u2 n) := by
  refine (oneC B c K N wr h.cs.st hk h1 h2).mono ?_
  rintro e w' ⟨x, rfl, hc, -⟩
  exact ⟨x, rfl, h.call hc⟩
theorem Nb.among {w wr : World} {B K bN g : Nat} {c u1 u2 : Value} {n : Net} (h : Nb w wr B c K bN u1 u2 n) (hk : K ≤ 4000000000000000)
    (hg : wr.heap[g]? = some (.cells #[.int .i64 0, .int .i64 0, .int .i64 0, .int .i64 1, .int .i64 2] 3 (0, 0))) (hw : w.heap.size ≤ g) :
    Calls Tryz.prog 81 #[.pointer (some ⟨B, 0, none⟩), .slice (some ⟨g, 0, none⟩) 5 5] wr fun e w' => ∃ x : Int, 0 ≤ x ∧ x ≤ 2 ∧ e = .returned (.int .i64 x) ∧ Hid (Nb w w' B c (K + 2) bN u1 u2 n) := by
  refine (amongC B c K g 5 5 0 2 wr h.cs.st hk (by omega) (by omega) (by have := h.cs.1.1; omega) (lit_rng hg risk_rng)).mono ?_
  rintro e w' ⟨x, x0, x1, rfl, hc, -⟩
  exact ⟨x, x0, x1, rfl, h.call hc⟩
theorem Nb.l2Put {w wr : World} {B K bN : Nat} {c u1 u2 : Value} {n : Net} (h : Nb w wr B c K bN u1 u2 n) (a b l r : Int) (hf : smallF ⟨a, b, l, r⟩) (hl : n.fs.length ≤ 39) :
    Calls Tryz.prog 195 #[u2, .agg #[.int .i64 a, .int .i64 b, .int .i64 l, .int .i64 r]] wr fun e w' => ∃ a9 n9 c9, e = .returned (.slice a9 n9 c9) ∧ Hid (∃ fs', fs'.length = n.fs.length + 1 ∧ Nb w (w'.setCell ⟨bN, 1, none⟩ (.slice a9 n9 c9)) B c K bN u1 (.slice a9 n9 c9) ⟨n.ns, fs'⟩) ∧ Hid (Nb w w' B c K bN u1 u2 n) := by
  refine (l2Put_agg u2 n.fs a b l r wr h.d.fs.rd h.d.sm hf (by omega)).mono ?_
  rintro e w' ⟨v', rfl, hp⟩
  obtain ⟨a9, c9, n9, rfl⟩ := hp.choose_spec.1.slice
  exact ⟨a9, n9, c9, rfl, h.put hp hl, h.below hp.choose_spec.2.2.2.2⟩
def NtP (w : World) (B : Nat) (c : Value) (K : Nat) (e : Ending) (w' : World) : Prop := ∃ u1 u2 n, e = .returned (.agg #[u1, u2]) ∧ (n.fs.length ≤ 9 ∧ n.ns.length ≤ 6) ∧ NtD w' w.heap.size u1 u2 n ∧ CS w B c (K + 100) w'
theorem Nb.done {w w1 wr : World} {B K K' bN : Nat} {c u1 u2 : Value} {n : Net} (h : Nb w1 wr B c K' bN u1 u2 n) (h1 : CS w B c K w1) (hs : w1.heap.size = w.heap.size + 1) (hk : K' ≤ K + 100) (hl : n.fs.length ≤ 9 ∧ n.ns.length ≤ 6) :
    NtP w B c K (.returned (.agg #[u1, u2])) ((wr.setCell ⟨w.heap.size, 0, none⟩ u1).setCell ⟨w.heap.size, 1, none⟩ u2) := by
  refine ⟨u1, u2, n, rfl, hl, (h.d.base (by omega)).kept fun g _ hb => ?_, (((h1.call h.cs).mono hk).set (Nat.le_refl _) u1).set (Nat.le_refl _) u2⟩
  have := (h.d.lt g hb).1
  rw [heap_setCell_other _ _ _ _ (show g ≠ w.heap.size by omega), heap_setCell_other _ _ _ _ (show g ≠ w.heap.size by omega)]
set_option maxHeartbeats 12800000 in
theorem network_any (B : Nat) (c : Value) (K : Nat) (w : World) (h : Cs w B c K) (hk : K ≤ 3000000000000000) :
    Calls Tryz.prog 161 #[ptr B] w (NtP w B c K) := by
  have b1 := (Below.refl w.heap.size w).alloc (Nat.le_refl _) (.cells #[.slice none 0 0, .slice none 0 0] 35)
  have k1 := heap_alloc_new w (.cells #[.slice none 0 0, .slice none 0 0] 35)
  have HC1 := Lib.hid (h.here.below b1)
  have HK1 := Lib.hid k1
  have z1 : (w.alloc (.cells #[.slice none 0 0, .slice none 0 0] 35)).heap.size = w.heap.size + 1 := by simp
  have HZ1 := Lib.hid z1
  obtain ⟨NP, hNP⟩ : ∃ NP, NP = NtP w B c K := ⟨_, rfl⟩
  rw [← hNP]
  clear h b1 k1 z1
  go_enter Tryz.func161, Tryz.ntmps161
  go_wp2_with fail
  generalize w.alloc (.cells #[.slice none 0 0, .slice none 0 0] 35) = w1 at *
  refine (pickC B c K 5 _ HC1.out.st (by omega) (by omega) (by omega)).mono ?_
  rintro e w2 ⟨x, x0, x1, rfl, hc2, hs2⟩
  obtain ⟨k, rfl⟩ : ∃ k : Nat, x = (k : Int) - 2 := ⟨(x + 2).toNat, by omega⟩
  have hk6 : 2 ≤ k ∧ k ≤ 6 := by omega
  have hwk : IntKind.i64.wrap (2 + ((k : Int) - 2)) = (k : Int) := by rw [IntWalk.i64_in _ (by omega)]; omega
  have hwk2 : wrap64 (2 + ((k : Int) - 2)) = (k : Int) := by rw [IntWalk.wrap64_in _ (by omega)]; omega
  have hwk3 : 2 + ((k : Int) - 2) = (k : Int) := by omega
  have i1 : (0 : Int) ≤ (k : Int) := by omega
  have i2 : (k : Int) ≤ 6 := by omega
  have i3 : k ≤ 6 := by omega
  have HR1 := Lib.hid (hc2.blk HK1.out (by have := HC1.out.1.1; omega))
  have HQ := Lib.hid (net_begin (k := k) hc2 hs2 (by omega) (by omega))
  have hl2 := HZ1.out
  clear hc2
  go_wp2
  --mark
  obtain ⟨WN, hWN⟩ : ∃ WN, WN = ((w2.alloc (.cells #[.string ⟨#[97]⟩, .string ⟨#[98]⟩, .string ⟨#[99]⟩, .string ⟨#[100]⟩, .string ⟨#[101]⟩, .string ⟨#[102]⟩] 9)).alloc (.cells #[.slice (some ⟨w.heap.size + 1, 0, none⟩) k 6, .slice none 0 0] 35)) := ⟨_, rfl⟩
  rw [hl2] at HQ
  rw [← hWN] at HQ ⊢
  clear hWN hs2
  go_loopw [5, 6] (fun i _ wr => ∃ (q : Nat) (u2 : Value) (n : Net), q ≤ k ∧ i = .int .i64 q ∧ n.fs.length ≤ q ∧ Hid (Nb w1 wr B c (K + 2 + 6 * q) (w.heap.size + 1 + 1) (.slice (some ⟨w.heap.size + 1, 0, none⟩) k 6) u2 n)) (fun i _ _ => k - (intOf i).toNat)
  case atStart => exact ⟨0, _, _, Nat.zero_le _, rfl, Nat.zero_le _, HQ⟩
  case round =>
    obtain ⟨q, u2, n, hq, rfl, hfl, CC⟩ := hrel
    by_cases hlt : q < k
    · have hltI : (q : Int) < (k : Int) := by omega
      have hwq : IntKind.i64.wrap ((q : Int) + 1) = (q : Int) + 1 := IntWalk.i64_in _ (by omega)
      obtain ⟨j, hj⟩ : ∃ j, j = (q + 1) % k := ⟨_, rfl⟩
      have hjk : j < k := by rw [hj]; exact Nat.mod_lt _ (by omega)
      have e1 : ((q : Int) + 1) % (k : Int) = (j : Int) := by rw [hj]; rfl
      have e1t : ((q : Int) + 1).tmod (k : Int) = (j : Int) := by rw [Int.tmod_eq_emod_of_nonneg (by omega)]; exact e1
      have hwj : IntKind.i64.wrap (j : Int) = (j : Int) := IntWalk.i64_in _ (by omega)
      have hk0 : ¬ k = 0 := by omega
      have hqj : ¬ q = j := by
        intro e
        by_cases hh : q + 1 = k
        · rw [hh, Nat.mod_self] at hj; omega
        · rw [Nat.mod_eq_of_lt (by omega)] at hj; omega
      have hqjI : ¬ (q : Int) = (j : Int) := by omega
      clear hj e1
      go_wp2_with fail
      refine (Nb.one CC.out (by omega) 10 (by omega) (by omega)).mono ?_
      rintro e w3 ⟨b, rfl, CC⟩
      cases b
      · go_wp2_with fail
        obtain ⟨a2, c2, rfl⟩ := CC.out.d.slices.2
        have hlB := CC.out.cs.1.1
        have hsz := CC.out.cs.size
        refine wp_region_L [0, 1, 2, 3, 4, 5, 6, 7, 8, 9, 10, 11, 12, 13, 14, 15, 16] (S := fun w' => w'.cell? ⟨w.heap.size + 1 + 1, 1, none⟩ = some (.slice a2 n.fs.length c2)) (by kernel_rfl) (CC.out.drew.cell) (fun hH => ?_)
        have CC := Lib.hid CC.out.drew
        refine hlTake 0 (v := ?v1) rfl (by kernel_rfl) (by kernel_rfl) (by kernel_rfl) (by kernel_rfl) (fun _ _ _ h => h) (by rfl) ?hy1 hH ?rest1
        case hy1 => ((intro w hSw); (try dsimp only at hSw); go_simp); try with_reducible rfl
        try simp only [Act.put, List.setIfInBounds_toArray, List.set_cons_zero, List.set_cons_succ]
        refine hlTake 1 (v := ?v2) rfl (by kernel_rfl) (by kernel_rfl) (by kernel_rfl) (by kernel_rfl) (fun _ _ _ h => h) (by rfl) ?hy2 hH ?rest2
        case hy2 => ((intro w hSw); (try dsimp only at hSw); go_simp); try with_reducible rfl
        try simp only [Act.put, List.setIfInBounds_toArray, List.set_cons_zero, List.set_cons_succ]
        refine hlTake 2 (v := ?v3) rfl (by kernel_rfl) (by kernel_rfl) (by kernel_rfl) (by kernel_rfl) (fun _ _ _ h => h) (by rfl) ?hy3 hH ?rest3
        case hy3 => ((intro w hSw); (try dsimp only at hSw); go_simp); try with_reducible rfl
        try simp only [Act.put, List.setIfInBounds_toArray, List.set_cons_zero, List.set_cons_succ]
        refine hlTake 3 (v := ?v4) rfl (by kernel_rfl) (by kernel_rfl) (by kernel_rfl) (by kernel_rfl) (fun _ _ _ h => h) (by rfl) ?hy4 hH ?rest4
        case hy4 => ((intro w hSw); (try dsimp only at hSw); go_simp); try with_reducible rfl
        try simp only [Act.put, List.setIfInBounds_toArray, List.set_cons_zero, List.set_cons_succ]
        refine hlTake 5 (v := ?v5) rfl (by kernel_rfl) (by kernel_rfl) (by kernel_rfl) (by kernel_rfl) (fun _ _ _ h => h) (by rfl) ?hy5 hH ?rest5
        case hy5 => ((intro w hSw); (try dsimp only at hSw); go_simp); try with_reducible rfl
        try simp only [Act.put, List.setIfInBounds_toArray, List.set_cons_zero, List.set_cons_succ]
        refine hlTake 6 (v := ?v6) rfl (by kernel_rfl) (by kernel_rfl) (by kernel_rfl) (by kernel_rfl) (fun _ _ _ h => h) (by rfl) ?hy6 hH ?rest6
        case hy6 => ((intro w hSw); (try dsimp only at hSw); go_simp); try with_reducible rfl
        try simp only [Act.put, List.setIfInBounds_toArray, List.set_cons_zero, List.set_cons_succ]
        refine hlTake 8 (v := ?v7) rfl (by kernel_rfl) (by kernel_rfl) (by kernel_rfl) (by kernel_rfl) (fun _ _ _ h => h) (by rfl) ?hy7 hH ?rest7
        case hy7 => ((intro w hSw); (try dsimp only at hSw); go_simp); try with_reducible rfl
        try simp only [Act.put, List.setIfInBounds_toArray, List.set_cons_zero, List.set_cons_succ]
        refine hlTake 12 (v := ?v8) rfl (by kernel_rfl) (by kernel_rfl) (by kernel_rfl) (by kernel_rfl) (fun _ _ _ h => h) (by rfl) ?hy8 hH ?rest8
        case hy8 => ((intro w hSw); (try dsimp only at hSw); go_simp); try with_reducible rfl
        try simp only [Act.put, List.setIfInBounds_toArray, List.set_cons_zero, List.set_cons_succ]
        refine hlReady (rs := [4, 13]) (by kernel_rfl) (by simp) ?_
        refine AllReadyL.cons rfl (fun KK hKK => ?_) (AllReadyL.cons rfl (fun KK hKK => ?_) AllReadyL.nil)
        -- order 4
        go_simp
        go_at_call 196
        refine (least_any _ _ _).mono ?_
        rintro e w7 ⟨xa, rfl, ha, rfl⟩
        refine hKK.out _ _ (CC.out.cell) (fun hH => ?_)
        clear hKK KK
        try simp only [Act.put, List.setIfInBounds_toArray, List.set_cons_zero, List.set_cons_succ]
        refine hlReady (rs := [7, 13]) (by kernel_rfl) (by simp) ?_
        refine AllReadyL.cons rfl (fun KK hKK => ?_) (AllReadyL.cons rfl (fun KK hKK => ?_) AllReadyL.nil)
        -- order 4 7
        go_simp
        go_at_call 197
        refine (mostA_any _ _ _).mono ?_
        rintro e w7 ⟨xb, rfl, hb, rfl⟩
        refine hKK.out _ _ (CC.out.cell) (fun hH => ?_)
        clear hKK KK
        try simp only [Act.put, List.setIfInBounds_toArray, List.set_cons_zero, List.set_cons_succ]
        refine hlReady (rs := [9, 13]) (by kernel_rfl) (by simp) ?_
        refine AllReadyL.cons rfl (fun KK hKK => ?_) (AllReadyL.cons rfl (fun KK hKK => ?_) AllReadyL.nil)
        -- order 4 7 9
        go_simp
        go_at_call 82
        refine (CC.out.pick (by omega) 8 (by omega) (by omega)).mono ?_
        rintro e w8 ⟨xp, p0, p1, rfl, CC, hc8⟩
        have hsz8 := CC.out.cs.size
        have hwp : IntKind.i64.wrap (1 + xp) = 1 + xp := IntWalk.i64_in _ (by omega)
        have hwp2 : IntKind.i64.wrap (100 * (1 + xp)) = 100 * (1 + xp) := IntWalk.i64_in _ (by omega)
        skip
        refine hKK.out _ _ (CC.out.cell) (fun hH => ?_)
        clear hKK KK
        try simp only [Act.put, List.setIfInBounds_toArray, List.set_cons_zero, List.set_cons_succ]
        refine hlTake 10 (v := ?v9) rfl (by kernel_rfl) (by kernel_rfl) (by kernel_rfl) (by kernel_rfl) (fun _ _ _ h => h) (by rfl) ?hy9 hH ?rest9
        case hy9 => ((intro w hSw); (try dsimp only at hSw); go_simp); try with_reducible rfl
        try simp only [Act.put, List.setIfInBounds_toArray, List.set_cons_zero, List.set_cons_succ]
        refine hlTake 11 (v := ?v10) rfl (by kernel_rfl) (by kernel_rfl) (by kernel_rfl) (by kernel_rfl) (fun _ _ _ h => h) (by rfl) ?hy10 hH ?rest10
        case hy10 => ((intro w hSw); (try dsimp only at hSw); go_simp); try with_reducible rfl
        try simp only [Act.put, List.setIfInBounds_toArray, List.set_cons_zero, List.set_cons_succ]
        refine hlReady (rs := [13]) (by kernel_rfl) (by simp) ?_
        refine AllReadyL.cons rfl (fun KK hKK => ?_) AllReadyL.nil
        -- order 4 7 9 13
        go_simp
        have HG := Lib.hid (heap_alloc_new w8 (.cells #[.int .i64 0, .int .i64 0, .int .i64 0, .int .i64 1, .int .i64 2] 3))
        have CC := Lib.hid (CC.out.alloc (.cells #[.int .i64 0, .int .i64 0, .int .i64 0, .int .i64 1, .int .i64 2] 3))
        refine hKK.out _ _ (CC.out.cell) (fun hH => ?_)
        clear hKK KK
        try simp only [Act.put, List.setIfInBounds_toArray, List.set_cons_zero, List.set_cons_succ]
        refine hlReady (rs := [14]) (by kernel_rfl) (by simp) ?_
        refine AllReadyL.cons rfl (fun KK hKK => ?_) AllReadyL.nil
        -- order 4 7 9 13 14
        go_simp
        go_at_call 81
        refine (CC.out.among (by omega) HG.out (by first | exact hsz | exact hsz8)).mono ?_
        rintro e w9 ⟨xr, r0, r1, rfl, CC⟩
        refine hKK.out _ _ (CC.out.cell) (fun hH => ?_)
        clear hKK KK
        try simp only [Act.put, List.setIfInBounds_toArray, List.set_cons_zero, List.set_cons_succ]
        refine hlTake 15 (v := ?v11) rfl (by kernel_rfl) (by kernel_rfl) (by kernel_rfl) (by kernel_rfl) (fun _ _ _ h => h) (by rfl) ?hy11 hH ?rest11
        case hy11 => ((intro w hSw); (try dsimp only at hSw); go_simp); try with_reducible rfl
        try simp only [Act.put, List.setIfInBounds_toArray, List.set_cons_zero, List.set_cons_succ]
        refine hlStep 16 rfl (by kernel_rfl) (by kernel_rfl) (fun KK hKK => ?_)
        go_simp
        go_at_call 195
        refine (CC.out.l2Put _ _ _ _ (by unfold smallF; simp only; clear CC; omega) (by omega)).mono ?_
        rintro e w10 ⟨a9, n9, c9, rfl, hp, CC⟩
        have y10a := CC.out.cell
        have y10b := CC.out.frozen
        refine hKK.out _ _ ?_
        clear hKK KK
        try simp only [Act.put, List.setIfInBounds_toArray, List.set_cons_zero, List.set_cons_succ]
        refine hlStep 17 rfl (by kernel_rfl) (by kernel_rfl) (fun KK hKK => ?_)
        go_simp
        refine hKK.out _ _ ?_
        clear hKK KK
        try simp only [Act.put, List.setIfInBounds_toArray, List.set_cons_zero, List.set_cons_succ]
        refine hlStep 18 rfl (by kernel_rfl) (by kernel_rfl) (fun KK hKK => ?_)
        go_simp
        refine hKK.out _ _ ?_
        clear hKK KK
        try simp only [Act.put, List.setIfInBounds_toArray, List.set_cons_zero, List.set_cons_succ]
        refine hlDone (by kernel_rfl) ?_ _
        rotate_left 1
        -- order 4 7 13
        go_simp
        have HG := Lib.hid (heap_alloc_new w3.drew (.cells #[.int .i64 0, .int .i64 0, .int .i64 0, .int .i64 1, .int .i64 2] 3))
        have CC := Lib.hid (CC.out.alloc (.cells #[.int .i64 0, .int .i64 0, .int .i64 0, .int .i64 1, .int .i64 2] 3))
        refine hKK.out _ _ (CC.out.cell) (fun hH => ?_)
        clear hKK KK
        try simp only [Act.put, List.setIfInBounds_toArray, List.set_cons_zero, List.set_cons_succ]
        refine hlReady (rs := [9]) (by kernel_rfl) (by simp) ?_
        refine AllReadyL.cons rfl (fun KK hKK => ?_) AllReadyL.nil
        -- order 4 7 13 9
        go_simp
        go_at_call 82
        refine (CC.out.pick (by omega) 8 (by omega) (by omega)).mono ?_
        rintro e w8 ⟨xp, p0, p1, rfl, CC, hc8⟩
        have hsz8 := CC.out.cs.size
        have hwp : IntKind.i64.wrap (1 + xp) = 1 + xp := IntWalk.i64_in _ (by omega)
        have hwp2 : IntKind.i64.wrap (100 * (1 + xp)) = 100 * (1 + xp) := IntWalk.i64_in _ (by omega)
        have HG := Lib.hid (hc8.blk HG.out (show w3.drew.heap.size ≠ B from fun e => by have e2 : w3.heap.size = B := e; omega))
        refine hKK.out _ _ (CC.out.cell) (fun hH => ?_)
        clear hKK KK
        try simp only [Act.put, List.setIfInBounds_toArray, List.set_cons_zero, List.set_cons_succ]
        refine hlTake 10 (v := ?v12) rfl (by kernel_rfl) (by kernel_rfl) (by kernel_rfl) (by kernel_rfl) (fun _ _ _ h => h) (by rfl) ?hy12 hH ?rest12
        case hy12 => ((intro w hSw); (try dsimp only at hSw); go_simp); try with_reducible rfl
        try simp only [Act.put, List.setIfInBounds_toArray, List.set_cons_zero, List.set_cons_succ]
        refine hlTake 11 (v := ?v13) rfl (by kernel_rfl) (by kernel_rfl) (by kernel_rfl) (by kernel_rfl) (fun _ _ _ h => h) (by rfl) ?hy13 hH ?rest13
        case hy13 => ((intro w hSw); (try dsimp only at hSw); go_simp); try with_reducible rfl
        try simp only [Act.put, List.setIfInBounds_toArray, List.set_cons_zero, List.set_cons_succ]
        refine hlReady (rs := [14]) (by kernel_rfl) (by simp) ?_
        refine AllReadyL.cons rfl (fun KK hKK => ?_) AllReadyL.nil
        -- order 4 7 13 9 14
        go_simp
        go_at_call 81
        refine (CC.out.among (by omega) HG.out (by first | exact hsz | exact hsz8)).mono ?_
        rintro e w9 ⟨xr, r0, r1, rfl, CC⟩
        refine hKK.out _ _ (CC.out.cell) (fun hH => ?_)
        clear hKK KK
        try simp only [Act.put, List.setIfInBounds_toArray, List.set_cons_zero, List.set_cons_succ]
        refine hlTake 15 (v := ?v14) rfl (by kernel_rfl) (by kernel_rfl) (by kernel_rfl) (by kernel_rfl) (fun _ _ _ h => h) (by rfl) ?hy14 hH ?rest14
        case hy14 => ((intro w hSw); (try dsimp only at hSw); go_simp); try with_reducible rfl
        try simp only [Act.put, List.setIfInBounds_toArray, List.set_cons_zero, List.set_cons_succ]
        refine hlStep 16 rfl (by kernel_rfl) (by kernel_rfl) (fun KK hKK => ?_)
        go_simp
        go_at_call 195
        refine (CC.out.l2Put _ _ _ _ (by unfold smallF; simp only; clear CC; omega) (by omega)).mono ?_
        rintro e w10 ⟨a9, n9, c9, rfl, hp, CC⟩
        have y10a := CC.out.cell
        have y10b := CC.out.frozen
        refine hKK.out _ _ ?_
        clear hKK KK
        try simp only [Act.put, List.setIfInBounds_toArray, List.set_cons_zero, List.set_cons_succ]
        refine hlStep 17 rfl (by kernel_rfl) (by kernel_rfl) (fun KK hKK => ?_)
        go_simp
        refine hKK.out _ _ ?_
        clear hKK KK
        try simp only [Act.put, List.setIfInBounds_toArray, List.set_cons_zero, List.set_cons_succ]
        refine hlStep 18 rfl (by kernel_rfl) (by kernel_rfl) (fun KK hKK => ?_)
        go_simp
        refine hKK.out _ _ ?_
        clear hKK KK
        try simp only [Act.put, List.setIfInBounds_toArray, List.set_cons_zero, List.set_cons_succ]
        refine hlDone (by kernel_rfl) ?_ _
        rotate_left 1
        -- order 4 13
        go_simp
        have HG := Lib.hid (heap_alloc_new w3.drew (.cells #[.int .i64 0, .int .i64 0, .int .i64 0, .int .i64 1, .int .i64 2] 3))
        have CC := Lib.hid (CC.out.alloc (.cells #[.int .i64 0, .int .i64 0, .int .i64 0, .int .i64 1, .int .i64 2] 3))
        refine hKK.out _ _ (CC.out.cell) (fun hH => ?_)
        clear hKK KK
        try simp only [Act.put, List.setIfInBounds_toArray, List.set_cons_zero, List.set_cons_succ]
        refine hlReady (rs := [7]) (by kernel_rfl) (by simp) ?_
        refine AllReadyL.cons rfl (fun KK hKK => ?_) AllReadyL.nil
        -- order 4 13 7
        go_simp
        go_at_call 197
        refine (mostA_any _ _ _).mono ?_
        rintro e w7 ⟨xb, rfl, hb, rfl⟩
        refine hKK.out _ _ (CC.out.cell) (fun hH => ?_)
        clear hKK KK
        try simp only [Act.put, List.setIfInBounds_toArray, List.set_cons_zero, List.set_cons_succ]
        refine hlReady (rs := [9]) (by kernel_rfl) (by simp) ?_
        refine AllReadyL.cons rfl (fun KK hKK => ?_) AllReadyL.nil
        -- order 4 13 7 9
        go_simp
        go_at_call 82
        refine (CC.out.pick (by omega) 8 (by omega) (by omega)).mono ?_
        rintro e w8 ⟨xp, p0, p1, rfl, CC, hc8⟩
        have hsz8 := CC.out.cs.size
        have hwp : IntKind.i64.wrap (1 + xp) = 1 + xp := IntWalk.i64_in _ (by omega)
        have hwp2 : IntKind.i64.wrap (100 * (1 + xp)) = 100 * (1 + xp) := IntWalk.i64_in _ (by omega)
        have HG := Lib.hid (hc8.blk HG.out (show w3.drew.heap.size ≠ B from fun e => by have e2 : w3.heap.size = B := e; omega))
        refine hKK.out _ _ (CC.out.cell) (fun hH => ?_)
        clear hKK KK
        try simp only [Act.put, List.setIfInBounds_toArray, List.set_cons_zero, List.set_cons_succ]
        refine hlTake 10 (v := ?v15) rfl (by kernel_rfl) (by kernel_rfl) (by kernel_rfl) (by kernel_rfl) (fun _ _ _ h => h) (by rfl) ?hy15 hH ?rest15
        case hy15 => ((intro w hSw); (try dsimp only at hSw); go_simp); try with_reducible rfl
        try simp only [Act.put, List.setIfInBounds_toArray, List.set_cons_zero, List.set_cons_succ]
        refine hlTake 11 (v := ?v16) rfl (by kernel_rfl) (by kernel_rfl) (by kernel_rfl) (by kernel_rfl) (fun _ _ _ h => h) (by rfl) ?hy16 hH ?rest16
        case hy16 => ((intro w hSw); (try dsimp only at hSw); go_simp); try with_reducible rfl
        try simp only [Act.put, List.setIfInBounds_toArray, List.set_cons_zero, List.set_cons_succ]
        refine hlReady (rs := [14]) (by kernel_rfl) (by simp) ?_
        refine AllReadyL.cons rfl (fun KK hKK => ?_) AllReadyL.nil
        -- order 4 13 7 9 14
        go_simp
        go_at_call 81
        refine (CC.out.among (by omega) HG.out (by first | exact hsz | exact hsz8)).mono ?_
        rintro e w9 ⟨xr, r0, r1, rfl, CC⟩
        refine hKK.out _ _ (CC.out.cell) (fun hH => ?_)
        clear hKK KK
        try simp only [Act.put, List.setIfInBounds_toArray, List.set_cons_zero, List.set_cons_succ]
        refine hlTake 15 (v := ?v17) rfl (by kernel_rfl) (by kernel_rfl) (by kernel_rfl) (by kernel_rfl) (fun _ _ _ h => h) (by rfl) ?hy17 hH ?rest17
        case hy17 => ((intro w hSw); (try dsimp only at hSw); go_simp); try with_reducible rfl
        try simp only [Act.put, List.setIfInBounds_toArray, List.set_cons_zero, List.set_cons_succ]
        refine hlStep 16 rfl (by kernel_rfl) (by kernel_rfl) (fun KK hKK => ?_)
        go_simp
        go_at_call 195
        refine (CC.out.l2Put _ _ _ _ (by unfold smallF; simp only; clear CC; omega) (by omega)).mono ?_
        rintro e w10 ⟨a9, n9, c9, rfl, hp, CC⟩
        have y10a := CC.out.cell
        have y10b := CC.out.frozen
        refine hKK.out _ _ ?_
        clear hKK KK
        try simp only [Act.put, List.setIfInBounds_toArray, List.set_cons_zero, List.set_cons_succ]
        refine hlStep 17 rfl (by kernel_rfl) (by kernel_rfl) (fun KK hKK => ?_)
        go_simp
        refine hKK.out _ _ ?_
        clear hKK KK
        try simp only [Act.put, List.setIfInBounds_toArray, List.set_cons_zero, List.set_cons_succ]
        refine hlStep 18 rfl (by kernel_rfl) (by kernel_rfl) (fun KK hKK => ?_)
        go_simp
        refine hKK.out _ _ ?_
        clear hKK KK
        try simp only [Act.put, List.setIfInBounds_toArray, List.set_cons_zero, List.set_cons_succ]
        refine hlDone (by kernel_rfl) ?_ _
        rotate_left 1
        -- order 13
        go_simp
        have HG := Lib.hid (heap_alloc_new w3.drew (.cells #[.int .i64 0, .int .i64 0, .int .i64 0, .int .i64 1, .int .i64 2] 3))
        have CC := Lib.hid (CC.out.alloc (.cells #[.int .i64 0, .int .i64 0, .int .i64 0, .int .i64 1, .int .i64 2] 3))
        refine hKK.out _ _ (CC.out.cell) (fun hH => ?_)
        clear hKK KK
        try simp only [Act.put, List.setIfInBounds_toArray, List.set_cons_zero, List.set_cons_succ]
        refine hlReady (rs := [4]) (by kernel_rfl) (by simp) ?_
        refine AllReadyL.cons rfl (fun KK hKK => ?_) AllReadyL.nil
        -- order 13 4
        go_simp
        go_at_call 196
        refine (least_any _ _ _).mono ?_
        rintro e w7 ⟨xa, rfl, ha, rfl⟩
        refine hKK.out _ _ (CC.out.cell) (fun hH => ?_)
        clear hKK KK
        try simp only [Act.put, List.setIfInBounds_toArray, List.set_cons_zero, List.set_cons_succ]
        refine hlReady (rs := [7]) (by kernel_rfl) (by simp) ?_
        refine AllReadyL.cons rfl (fun KK hKK => ?_) AllReadyL.nil
        -- order 13 4 7
        go_simp
        go_at_call 197
        refine (mostA_any _ _ _).mono ?_
        rintro e w7 ⟨xb, rfl, hb, rfl⟩
        refine hKK.out _ _ (CC.out.cell) (fun hH => ?_)
        clear hKK KK
        try simp only [Act.put, List.setIfInBounds_toArray, List.set_cons_zero, List.set_cons_succ]
        refine hlReady (rs := [9]) (by kernel_rfl) (by simp) ?_
        refine AllReadyL.cons rfl (fun KK hKK => ?_) AllReadyL.nil
        -- order 13 4 7 9
        go_simp
        go_at_call 82
        refine (CC.out.pick (by omega) 8 (by omega) (by omega)).mono ?_
        rintro e w8 ⟨xp, p0, p1, rfl, CC, hc8⟩
        have hsz8 := CC.out.cs.size
        have hwp : IntKind.i64.wrap (1 + xp) = 1 + xp := IntWalk.i64_in _ (by omega)
        have hwp2 : IntKind.i64.wrap (100 * (1 + xp)) = 100 * (1 + xp) := IntWalk.i64_in _ (by omega)
        have HG := Lib.hid (hc8.blk HG.out (show w3.drew.heap.size ≠ B from fun e => by have e2 : w3.heap.size = B := e; omega))
        refine hKK.out _ _ (CC.out.cell) (fun hH => ?_)
        clear hKK KK
        try simp only [Act.put, List.setIfInBounds_toArray, List.set_cons_zero, List.set_cons_succ]
        refine hlTake 10 (v := ?v18) rfl (by kernel_rfl) (by kernel_rfl) (by kernel_rfl) (by kernel_rfl) (fun _ _ _ h => h) (by rfl) ?hy18 hH ?rest18
        case hy18 => ((intro w hSw); (try dsimp only at hSw); go_simp); try with_reducible rfl
        try simp only [Act.put, List.setIfInBounds_toArray, List.set_cons_zero, List.set_cons_succ]
        refine hlTake 11 (v := ?v19) rfl (by kernel_rfl) (by kernel_rfl) (by kernel_rfl) (by kernel_rfl) (fun _ _ _ h => h) (by rfl) ?hy19 hH ?rest19
        case hy19 => ((intro w hSw); (try dsimp only at hSw); go_simp); try with_reducible rfl
        try simp only [Act.put, List.setIfInBounds_toArray, List.set_cons_zero, List.set_cons_succ]
        refine hlReady (rs := [14]) (by kernel_rfl) (by simp) ?_
        refine AllReadyL.cons rfl (fun KK hKK => ?_) AllReadyL.nil
        -- order 13 4 7 9 14
        go_simp
        go_at_call 81
        refine (CC.out.among (by omega) HG.out (by first | exact hsz | exact hsz8)).mono ?_
        rintro e w9 ⟨xr, r0, r1, rfl, CC⟩
        refine hKK.out _ _ (CC.out.cell) (fun hH => ?_)
        clear hKK KK
        try simp only [Act.put, List.setIfInBounds_toArray, List.set_cons_zero, List.set_cons_succ]
        refine hlTake 15 (v := ?v20) rfl (by kernel_rfl) (by kernel_rfl) (by kernel_rfl) (by kernel_rfl) (fun _ _ _ h => h) (by rfl) ?hy20 hH ?rest20
        case hy20 => ((intro w hSw); (try dsimp only at hSw); go_simp); try with_reducible rfl
        try simp only [Act.put, List.setIfInBounds_toArray, List.set_cons_zero, List.set_cons_succ]
        refine hlStep 16 rfl (by kernel_rfl) (by kernel_rfl) (fun KK hKK => ?_)
        go_simp
        go_at_call 195
        refine (CC.out.l2Put _ _ _ _ (by unfold smallF; simp only; clear CC; omega) (by omega)).mono ?_
        rintro e w10 ⟨a9, n9, c9, rfl, hp, CC⟩
        have y10a := CC.out.cell
        have y10b := CC.out.frozen
        refine hKK.out _ _ ?_
        clear hKK KK
        try simp only [Act.put, List.setIfInBounds_toArray, List.set_cons_zero, List.set_cons_succ]
        refine hlStep 17 rfl (by kernel_rfl) (by kernel_rfl) (fun KK hKK => ?_)
        go_simp
        refine hKK.out _ _ ?_
        clear hKK KK
        try simp only [Act.put, List.setIfInBounds_toArray, List.set_cons_zero, List.set_cons_succ]
        refine hlStep 18 rfl (by kernel_rfl) (by kernel_rfl) (fun KK hKK => ?_)
        go_simp
        refine hKK.out _ _ ?_
        clear hKK KK
        try simp only [Act.put, List.setIfInBounds_toArray, List.set_cons_zero, List.set_cons_succ]
        refine hlDone (by kernel_rfl) ?_ _
        rotate_left 1
        all_goals
          obtain ⟨fs', hl', CC⟩ := hp.out
          have CC := CC.mono (K' := K + 2 + 6 * (q + 1)) (by omega)
          clear y10a y10b hp hsz hsz8 HG
          go_wp2_with fail
          go_roundw
          case rel => exact ⟨q + 1, _, ⟨n.ns, fs'⟩, by omega, by go_num, by show fs'.length ≤ q + 1; omega, CC⟩
          case measure => simp [intOf]; omega
      · go_wp2_with fail
        go_roundw
        case rel => exact ⟨q + 1, u2, n, by omega, by go_num, by omega, CC.out.mono (by omega)⟩
        case measure => simp [intOf]; omega
    · obtain rfl : k = q := by omega
      have CC := Lib.hid (CC.out.mono (K' := K + 40) (by omega))
      have hqI : ¬ (k : Int) < (k : Int) := by omega
      go_wp2_with fail
      refine (Nb.pick CC.out (by omega) 4 (by omega) (by omega)).mono ?_
      rintro e w3 ⟨xm, xm0, xm1, rfl, CC, -⟩
      obtain ⟨r, rfl⟩ := Int.eq_ofNat_of_zero_le xm0
      have hr3 : r ≤ 3 := by omega
      go_wp2_with fail
      go_loopw [7, 8, 9] (fun i _ _ wr => ∃ (r : Nat) (u2 : Value) (n : Net), r ≤ 3 ∧ i = .int .i64 r ∧ n.fs.length + r ≤ k + 3 ∧ Hid (Nb w1 wr B c (K + 90 - 16 * r) (w.heap.size + 1 + 1) (.slice (some ⟨w.heap.size + 1, 0, none⟩) k 6) u2 n)) (fun i _ _ _ => (intOf i).toNat)
      case atStart => exact ⟨r, u2, n, hr3, rfl, by omega, CC.out.mono (by omega)⟩
      case round =>
        clear CC hfl xm0 xm1 hr3 hqI
        obtain ⟨r, u2, n, hr, rfl, hfl, CC⟩ := hrel
        have y1 : wr.cell? ⟨(w.heap.size + 1 + 1), 0, none⟩ = some (.slice (some ⟨w.heap.size + 1, 0, none⟩) k 6) := blkc CC.out.box rfl
        by_cases hlt : 0 < r
        · have hltI : (0 : Int) < (r : Int) := by omega
          have hwr : IntKind.i64.wrap ((r : Int) - 1) = ((r - 1 : Nat) : Int) := by rw [IntWalk.i64_in _ (by omega)]; omega
          obtain ⟨KQ, hKQ⟩ : ∃ KQ, KQ = K + 90 - 16 * r := ⟨_, rfl⟩
          rw [← hKQ] at CC
          clear y1
          go_wp2_with fail
          refine (Nb.pick CC.out (by omega) (k : Int) (by omega) (by omega)).mono ?_
          rintro e w4 ⟨xi, xi0, xi1, rfl, CC, -⟩
          go_wp2_with fail
          refine (Nb.pick CC.out (by omega) (k : Int) (by omega) (by omega)).mono ?_
          rintro e w3 ⟨xj, xj0, xj1, rfl, CC, -⟩
          obtain ⟨q, rfl⟩ := Int.eq_ofNat_of_zero_le xi0
          obtain ⟨j, rfl⟩ := Int.eq_ofNat_of_zero_le xj0
          have hlt : q < k := by omega
          have hjk : j < k := by omega
          by_cases hqj : q = j
          · have hqjI : (q : Int) = (j : Int) := by omega
            go_wp2_with fail
            go_roundw
            case rel => exact ⟨r - 1, u2, n, by omega, by go_num, by omega, CC.out.mono (by omega)⟩
            case measure => simp [intOf]; omega
          · have hqjI : ¬ (q : Int) = (j : Int) := by omega
            go_wp2_with fail
            obtain ⟨a2, c2, rfl⟩ := CC.out.d.slices.2
            have hlB := CC.out.cs.1.1
            have hsz := CC.out.cs.size
            refine wp_region_L [0, 1, 2, 3, 4, 5, 6, 7, 8, 9, 10, 11, 12, 13, 14, 15, 16] (S := fun w' => w'.cell? ⟨w.heap.size + 1 + 1, 1, none⟩ = some (.slice a2 n.fs.length c2)) (by kernel_rfl) (CC.out.drew.cell) (fun hH => ?_)
            have CC := Lib.hid CC.out.drew
            refine hlTake 0 (v := ?v21) rfl (by kernel_rfl) (by kernel_rfl) (by kernel_rfl) (by kernel_rfl) (fun _ _ _ h => h) (by rfl) ?hy21 hH ?rest21
            case hy21 => ((intro w hSw); (try dsimp only at hSw); go_simp); try with_reducible rfl
            try simp only [Act.put, List.setIfInBounds_toArray, List.set_cons_zero, List.set_cons_succ]
            refine hlTake 1 (v := ?v22) rfl (by kernel_rfl) (by kernel_rfl) (by kernel_rfl) (by kernel_rfl) (fun _ _ _ h => h) (by rfl) ?hy22 hH ?rest22
            case hy22 => ((intro w hSw); (try dsimp only at hSw); go_simp); try with_reducible rfl
            try simp only [Act.put, List.setIfInBounds_toArray, List.set_cons_zero, List.set_cons_succ]
            refine hlTake 2 (v := ?v23) rfl (by kernel_rfl) (by kernel_rfl) (by kernel_rfl) (by kernel_rfl) (fun _ _ _ h => h) (by rfl) ?hy23 hH ?rest23
            case hy23 => ((intro w hSw); (try dsimp only at hSw); go_simp); try with_reducible rfl
            try simp only [Act.put, List.setIfInBounds_toArray, List.set_cons_zero, List.set_cons_succ]
            refine hlTake 3 (v := ?v24) rfl (by kernel_rfl) (by kernel_rfl) (by kernel_rfl) (by kernel_rfl) (fun _ _ _ h => h) (by rfl) ?hy24 hH ?rest24
            case hy24 => ((intro w hSw); (try dsimp only at hSw); go_simp); try with_reducible rfl
            try simp only [Act.put, List.setIfInBounds_toArray, List.set_cons_zero, List.set_cons_succ]
            refine hlTake 5 (v := ?v25) rfl (by kernel_rfl) (by kernel_rfl) (by kernel_rfl) (by kernel_rfl) (fun _ _ _ h => h) (by rfl) ?hy25 hH ?rest25
            case hy25 => ((intro w hSw); (try dsimp only at hSw); go_simp); try with_reducible rfl
            try simp only [Act.put, List.setIfInBounds_toArray, List.set_cons_zero, List.set_cons_succ]
            refine hlTake 6 (v := ?v26) rfl (by kernel_rfl) (by kernel_rfl) (by kernel_rfl) (by kernel_rfl) (fun _ _ _ h => h) (by rfl) ?hy26 hH ?rest26
            case hy26 => ((intro w hSw); (try dsimp only at hSw); go_simp); try with_reducible rfl
            try simp only [Act.put, List.setIfInBounds_toArray, List.set_cons_zero, List.set_cons_succ]
            refine hlTake 8 (v := ?v27) rfl (by kernel_rfl) (by kernel_rfl) (by kernel_rfl) (by kernel_rfl) (fun _ _ _ h => h) (by rfl) ?hy27 hH ?rest27
            case hy27 => ((intro w hSw); (try dsimp only at hSw); go_simp); try with_reducible rfl
            try simp only [Act.put, List.setIfInBounds_toArray, List.set_cons_zero, List.set_cons_succ]
            refine hlTake 12 (v := ?v28) rfl (by kernel_rfl) (by kernel_rfl) (by kernel_rfl) (by kernel_rfl) (fun _ _ _ h => h) (by rfl) ?hy28 hH ?rest28
            case hy28 => ((intro w hSw); (try dsimp only at hSw); go_simp); try with_reducible rfl
            try simp only [Act.put, List.setIfInBounds_toArray, List.set_cons_zero, List.set_cons_succ]
            refine hlReady (rs := [4, 13]) (by kernel_rfl) (by simp) ?_
            refine AllReadyL.cons rfl (fun KK hKK => ?_) (AllReadyL.cons rfl (fun KK hKK => ?_) AllReadyL.nil)
            -- order 4
            go_simp
            go_at_call 196
            refine (least_any _ _ _).mono ?_
            rintro e w7 ⟨xa, rfl, ha, rfl⟩
            refine hKK.out _ _ (CC.out.cell) (fun hH => ?_)
            clear hKK KK
            try simp only [Act.put, List.setIfInBounds_toArray, List.set_cons_zero, List.set_cons_succ]
            refine hlReady (rs := [7, 13]) (by kernel_rfl) (by simp) ?_
            refine AllReadyL.cons rfl (fun KK hKK => ?_) (AllReadyL.cons rfl (fun KK hKK => ?_) AllReadyL.nil)
            -- order 4 7
            go_simp
            go_at_call 197
            refine (mostA_any _ _ _).mono ?_
            rintro e w7 ⟨xb, rfl, hb, rfl⟩
            refine hKK.out _ _ (CC.out.cell) (fun hH => ?_)
            clear hKK KK
            try simp only [Act.put, List.setIfInBounds_toArray, List.set_cons_zero, List.set_cons_succ]
            refine hlReady (rs := [9, 13]) (by kernel_rfl) (by simp) ?_
            refine AllReadyL.cons rfl (fun KK hKK => ?_) (AllReadyL.cons rfl (fun KK hKK => ?_) AllReadyL.nil)
            -- order 4 7 9
            go_simp
            go_at_call 82
            refine (CC.out.pick (by omega) 8 (by omega) (by omega)).mono ?_
            rintro e w8 ⟨xp, p0, p1, rfl, CC, hc8⟩
            have hsz8 := CC.out.cs.size
            have hwp : IntKind.i64.wrap (1 + xp) = 1 + xp := IntWalk.i64_in _ (by omega)
            have hwp2 : IntKind.i64.wrap (100 * (1 + xp)) = 100 * (1 + xp) := IntWalk.i64_in _ (by omega)
            skip
            refine hKK.out _ _ (CC.out.cell) (fun hH => ?_)
            clear hKK KK
            try simp only [Act.put, List.setIfInBounds_toArray, List.set_cons_zero, List.set_cons_succ]
            refine hlTake 10 (v := ?v29) rfl (by kernel_rfl) (by kernel_rfl) (by kernel_rfl) (by kernel_rfl) (fun _ _ _ h => h) (by rfl) ?hy29 hH ?rest29
            case hy29 => ((intro w hSw); (try dsimp only at hSw); go_simp); try with_reducible rfl
            try simp only [Act.put, List.setIfInBounds_toArray, List.set_cons_zero, List.set_cons_succ]
            refine hlTake 11 (v := ?v30) rfl (by kernel_rfl) (by kernel_rfl) (by kernel_rfl) (by kernel_rfl) (fun _ _ _ h => h) (by rfl) ?hy30 hH ?rest30
            case hy30 => ((intro w hSw); (try dsimp only at hSw); go_simp); try with_reducible rfl
            try simp only [Act.put, List.setIfInBounds_toArray, List.set_cons_zero, List.set_cons_succ]
            refine hlReady (rs := [13]) (by kernel_rfl) (by simp) ?_
            refine AllReadyL.cons rfl (fun KK hKK => ?_) AllReadyL.nil
            -- order 4 7 9 13
            go_simp
            have HG := Lib.hid (heap_alloc_new w8 (.cells #[.int .i64 0, .int .i64 0, .int .i64 0, .int .i64 1, .int .i64 2] 3))
            have CC := Lib.hid (CC.out.alloc (.cells #[.int .i64 0, .int .i64 0, .int .i64 0, .int .i64 1, .int .i64 2] 3))
            refine hKK.out _ _ (CC.out.cell) (fun hH => ?_)
            clear hKK KK
            try simp only [Act.put, List.setIfInBounds_toArray, List.set_cons_zero, List.set_cons_succ]
            refine hlReady (rs := [14]) (by kernel_rfl) (by simp) ?_
            refine AllReadyL.cons rfl (fun KK hKK => ?_) AllReadyL.nil
            -- order 4 7 9 13 14
            go_simp
            go_at_call 81
            refine (CC.out.among (by omega) HG.out (by first | exact hsz | exact hsz8)).mono ?_
            rintro e w9 ⟨xr, r0, r1, rfl, CC⟩
            refine hKK.out _ _ (CC.out.cell) (fun hH => ?_)
            clear hKK KK
            try simp only [Act.put, List.setIfInBounds_toArray, List.set_cons_zero, List.set_cons_succ]
            refine hlTake 15 (v := ?v31) rfl (by kernel_rfl) (by kernel_rfl) (by kernel_rfl) (by kernel_rfl) (fun _ _ _ h => h) (by rfl) ?hy31 hH ?rest31
            case hy31 => ((intro w hSw); (try dsimp only at hSw); go_simp); try with_reducible rfl
            try simp only [Act.put, List.setIfInBounds_toArray, List.set_cons_zero, List.set_cons_succ]
            refine hlStep 16 rfl (by kernel_rfl) (by kernel_rfl) (fun KK hKK => ?_)
            go_simp
            go_at_call 195
            refine (CC.out.l2Put _ _ _ _ (by unfold smallF; simp only; clear CC; omega) (by omega)).mono ?_
            rintro e w10 ⟨a9, n9, c9, rfl, hp, CC⟩
            have y10a := CC.out.cell
            have y10b := CC.out.frozen
            refine hKK.out _ _ ?_
            clear hKK KK
            try simp only [Act.put, List.setIfInBounds_toArray, List.set_cons_zero, List.set_cons_succ]
            refine hlStep 17 rfl (by kernel_rfl) (by kernel_rfl) (fun KK hKK => ?_)
            go_simp
            refine hKK.out _ _ ?_
            clear hKK KK
            try simp only [Act.put, List.setIfInBounds_toArray, List.set_cons_zero, List.set_cons_succ]
            refine hlStep 18 rfl (by kernel_rfl) (by kernel_rfl) (fun KK hKK => ?_)
            go_simp
            refine hKK.out _ _ ?_
            clear hKK KK
            try simp only [Act.put, List.setIfInBounds_toArray, List.set_cons_zero, List.set_cons_succ]
            refine hlDone (by kernel_rfl) ?_ _
            rotate_left 1
            -- order 4 7 13
            go_simp
            have HG := Lib.hid (heap_alloc_new w3.drew (.cells #[.int .i64 0, .int .i64 0, .int .i64 0, .int .i64 1, .int .i64 2] 3))
            have CC := Lib.hid (CC.out.alloc (.cells #[.int .i64 0, .int .i64 0, .int .i64 0, .int .i64 1, .int .i64 2] 3))
            refine hKK.out _ _ (CC.out.cell) (fun hH => ?_)
            clear hKK KK
            try simp only [Act.put, List.setIfInBounds_toArray, List.set_cons_zero, List.set_cons_succ]
            refine hlReady (rs := [9]) (by kernel_rfl) (by simp) ?_
            refine AllReadyL.cons rfl (fun KK hKK => ?_) AllReadyL.nil
            -- order 4 7 13 9
            go_simp
            go_at_call 82
            refine (CC.out.pick (by omega) 8 (by omega) (by omega)).mono ?_
            rintro e w8 ⟨xp, p0, p1, rfl, CC, hc8⟩
            have hsz8 := CC.out.cs.size
            have hwp : IntKind.i64.wrap (1 + xp) = 1 + xp := IntWalk.i64_in _ (by omega)
            have hwp2 : IntKind.i64.wrap (100 * (1 + xp)) = 100 * (1 + xp) := IntWalk.i64_in _ (by omega)
            have HG := Lib.hid (hc8.blk HG.out (show w3.drew.heap.size ≠ B from fun e => by have e2 : w3.heap.size = B := e; omega))
            refine hKK.out _ _ (CC.out.cell) (fun hH => ?_)
            clear hKK KK
            try simp only [Act.put, List.setIfInBounds_toArray, List.set_cons_zero, List.set_cons_succ]
            refine hlTake 10 (v := ?v32) rfl (by kernel_rfl) (by kernel_rfl) (by kernel_rfl) (by kernel_rfl) (fun _ _ _ h => h) (by rfl) ?hy32 hH ?rest32
            case hy32 => ((intro w hSw); (try dsimp only at hSw); go_simp); try with_reducible rfl
            try simp only [Act.put, List.setIfInBounds_toArray, List.set_cons_zero, List.set_cons_succ]
            refine hlTake 11 (v := ?v33) rfl (by kernel_rfl) (by kernel_rfl) (by kernel_rfl) (by kernel_rfl) (fun _ _ _ h => h) (by rfl) ?hy33 hH ?rest33
            case hy33 => ((intro w hSw); (try dsimp only at hSw); go_simp); try with_reducible rfl
            try simp only [Act.put, List.setIfInBounds_toArray, List.set_cons_zero, List.set_cons_succ]
            refine hlReady (rs := [14]) (by kernel_rfl) (by simp) ?_
            refine AllReadyL.cons rfl (fun KK hKK => ?_) AllReadyL.nil
            -- order 4 7 13 9 14
            go_simp
            go_at_call 81
            refine (CC.out.among (by omega) HG.out (by first | exact hsz | exact hsz8)).mono ?_
            rintro e w9 ⟨xr, r0, r1, rfl, CC⟩
            refine hKK.out _ _ (CC.out.cell) (fun hH => ?_)
            clear hKK KK
            try simp only [Act.put, List.setIfInBounds_toArray, List.set_cons_zero, List.set_cons_succ]
            refine hlTake 15 (v := ?v34) rfl (by kernel_rfl) (by kernel_rfl) (by kernel_rfl) (by kernel_rfl) (fun _ _ _ h => h) (by rfl) ?hy34 hH ?rest34
            case hy34 => ((intro w hSw); (try dsimp only at hSw); go_simp); try with_reducible rfl
            try simp only [Act.put, List.setIfInBounds_toArray, List.set_cons_zero, List.set_cons_succ]
            refine hlStep 16 rfl (by kernel_rfl) (by kernel_rfl) (fun KK hKK => ?_)
            go_simp
            go_at_call 195
            refine (CC.out.l2Put _ _ _ _ (by unfold smallF; simp only; clear CC; omega) (by omega)).mono ?_
            rintro e w10 ⟨a9, n9, c9, rfl, hp, CC⟩
            have y10a := CC.out.cell
            have y10b := CC.out.frozen
            refine hKK.out _ _ ?_
            clear hKK KK
            try simp only [Act.put, List.setIfInBounds_toArray, List.set_cons_zero, List.set_cons_succ]
            refine hlStep 17 rfl (by kernel_rfl) (by kernel_rfl) (fun KK hKK => ?_)
            go_simp
            refine hKK.out _ _ ?_
            clear hKK KK
            try simp only [Act.put, List.setIfInBounds_toArray, List.set_cons_zero, List.set_cons_succ]
            refine hlStep 18 rfl (by kernel_rfl) (by kernel_rfl) (fun KK hKK => ?_)
            go_simp
            refine hKK.out _ _ ?_
            clear hKK KK
            try simp only [Act.put, List.setIfInBounds_toArray, List.set_cons_zero, List.set_cons_succ]
            refine hlDone (by kernel_rfl) ?_ _
            rotate_left 1
            -- order 4 13
            go_simp
            have HG := Lib.hid (heap_alloc_new w3.drew (.cells #[.int .i64 0, .int .i64 0, .int .i64 0, .int .i64 1, .int .i64 2] 3))
            have CC := Lib.hid (CC.out.alloc (.cells #[.int .i64 0, .int .i64 0, .int .i64 0, .int .i64 1, .int .i64 2] 3))
            refine hKK.out _ _ (CC.out.cell) (fun hH => ?_)
            clear hKK KK
            try simp only [Act.put, List.setIfInBounds_toArray, List.set_cons_zero, List.set_cons_succ]
            refine hlReady (rs := [7]) (by kernel_rfl) (by simp) ?_
            refine AllReadyL.cons rfl (fun KK hKK => ?_) AllReadyL.nil
            -- order 4 13 7
            go_simp
            go_at_call 197
            refine (mostA_any _ _ _).mono ?_
            rintro e w7 ⟨xb, rfl, hb, rfl⟩
            refine hKK.out _ _ (CC.out.cell) (fun hH => ?_)
            clear hKK KK
            try simp only [Act.put, List.setIfInBounds_toArray, List.set_cons_zero, List.set_cons_succ]
            refine hlReady (rs := [9]) (by kernel_rfl) (by simp) ?_
            refine AllReadyL.cons rfl (fun KK hKK => ?_) AllReadyL.nil
            -- order 4 13 7 9
            go_simp
            go_at_call 82
            refine (CC.out.pick (by omega) 8 (by omega) (by omega)).mono ?_
            rintro e w8 ⟨xp, p0, p1, rfl, CC, hc8⟩
            have hsz8 := CC.out.cs.size
            have hwp : IntKind.i64.wrap (1 + xp) = 1 + xp := IntWalk.i64_in _ (by omega)
            have hwp2 : IntKind.i64.wrap (100 * (1 + xp)) = 100 * (1 + xp) := IntWalk.i64_in _ (by omega)
            have HG := Lib.hid (hc8.blk HG.out (show w3.drew.heap.size ≠ B from fun e => by have e2 : w3.heap.size = B := e; omega))
            refine hKK.out _ _ (CC.out.cell) (fun hH => ?_)
            clear hKK KK
            try simp only [Act.put, List.setIfInBounds_toArray, List.set_cons_zero, List.set_cons_succ]
            refine hlTake 10 (v := ?v35) rfl (by kernel_rfl) (by kernel_rfl) (by kernel_rfl) (by kernel_rfl) (fun _ _ _ h => h) (by rfl) ?hy35 hH ?rest35
            case hy35 => ((intro w hSw); (try dsimp only at hSw); go_simp); try with_reducible rfl
            try simp only [Act.put, List.setIfInBounds_toArray, List.set_cons_zero, List.set_cons_succ]
            refine hlTake 11 (v := ?v36) rfl (by kernel_rfl) (by kernel_rfl) (by kernel_rfl) (by kernel_rfl) (fun _ _ _ h => h) (by rfl) ?hy36 hH ?rest36
            case hy36 => ((intro w hSw); (try dsimp only at hSw); go_simp); try with_reducible rfl
            try simp only [Act.put, List.setIfInBounds_toArray, List.set_cons_zero, List.set_cons_succ]
            refine hlReady (rs := [14]) (by kernel_rfl) (by simp) ?_
            refine AllReadyL.cons rfl (fun KK hKK => ?_) AllReadyL.nil
            -- order 4 13 7 9 14
            go_simp
            go_at_call 81
            refine (CC.out.among (by omega) HG.out (by first | exact hsz | exact hsz8)).mono ?_
            rintro e w9 ⟨xr, r0, r1, rfl, CC⟩
            refine hKK.out _ _ (CC.out.cell) (fun hH => ?_)
            clear hKK KK
            try simp only [Act.put, List.setIfInBounds_toArray, List.set_cons_zero, List.set_cons_succ]
            refine hlTake 15 (v := ?v37) rfl (by kernel_rfl) (by kernel_rfl) (by kernel_rfl) (by kernel_rfl) (fun _ _ _ h => h) (by rfl) ?hy37 hH ?rest37
            case hy37 => ((intro w hSw); (try dsimp only at hSw); go_simp); try with_reducible rfl
            try simp only [Act.put, List.setIfInBounds_toArray, List.set_cons_zero, List.set_cons_succ]
            refine hlStep 16 rfl (by kernel_rfl) (by kernel_rfl) (fun KK hKK => ?_)
            go_simp
            go_at_call 195
            refine (CC.out.l2Put _ _ _ _ (by unfold smallF; simp only; clear CC; omega) (by omega)).mono ?_
            rintro e w10 ⟨a9, n9, c9, rfl, hp, CC⟩
            have y10a := CC.out.cell
            have y10b := CC.out.frozen
            refine hKK.out _ _ ?_
            clear hKK KK
            try simp only [Act.put, List.setIfInBounds_toArray, List.set_cons_zero, List.set_cons_succ]
            refine hlStep 17 rfl (by kernel_rfl) (by kernel_rfl) (fun KK hKK => ?_)
            go_simp
            refine hKK.out _ _ ?_
            clear hKK KK
            try simp only [Act.put, List.setIfInBounds_toArray, List.set_cons_zero, List.set_cons_succ]
            refine hlStep 18 rfl (by kernel_rfl) (by kernel_rfl) (fun KK hKK => ?_)
            go_simp
            refine hKK.out _ _ ?_
            clear hKK KK
            try simp only [Act.put, List.setIfInBounds_toArray, List.set_cons_zero, List.set_cons_succ]
            refine hlDone (by kernel_rfl) ?_ _
            rotate_left 1
            -- order 13
            go_simp
            have HG := Lib.hid (heap_alloc_new w3.drew (.cells #[.int .i64 0, .int .i64 0, .int .i64 0, .int .i64 1, .int .i64 2] 3))
            have CC := Lib.hid (CC.out.alloc (.cells #[.int .i64 0, .int .i64 0, .int .i64 0, .int .i64 1, .int .i64 2] 3))
            refine hKK.out _ _ (CC.out.cell) (fun hH => ?_)
            clear hKK KK
            try simp only [Act.put, List.setIfInBounds_toArray, List.set_cons_zero, List.set_cons_succ]
            refine hlReady (rs := [4]) (by kernel_rfl) (by simp) ?_
            refine AllReadyL.cons rfl (fun KK hKK => ?_) AllReadyL.nil
            -- order 13 4
            go_simp
            go_at_call 196
            refine (least_any _ _ _).mono ?_
            rintro e w7 ⟨xa, rfl, ha, rfl⟩
            refine hKK.out _ _ (CC.out.cell) (fun hH => ?_)
            clear hKK KK
            try simp only [Act.put, List.setIfInBounds_toArray, List.set_cons_zero, List.set_cons_succ]
            refine hlReady (rs := [7]) (by kernel_rfl) (by simp) ?_
            refine AllReadyL.cons rfl (fun KK hKK => ?_) AllReadyL.nil
            -- order 13 4 7
            go_simp
            go_at_call 197
            refine (mostA_any _ _ _).mono ?_
            rintro e w7 ⟨xb, rfl, hb, rfl⟩
            refine hKK.out _ _ (CC.out.cell) (fun hH => ?_)
            clear hKK KK
            try simp only [Act.put, List.setIfInBounds_toArray, List.set_cons_zero, List.set_cons_succ]
            refine hlReady (rs := [9]) (by kernel_rfl) (by simp) ?_
            refine AllReadyL.cons rfl (fun KK hKK => ?_) AllReadyL.nil
            -- order 13 4 7 9
            go_simp
            go_at_call 82
            refine (CC.out.pick (by omega) 8 (by omega) (by omega)).mono ?_
            rintro e w8 ⟨xp, p0, p1, rfl, CC, hc8⟩
            have hsz8 := CC.out.cs.size
            have hwp : IntKind.i64.wrap (1 + xp) = 1 + xp := IntWalk.i64_in _ (by omega)
            have hwp2 : IntKind.i64.wrap (100 * (1 + xp)) = 100 * (1 + xp) := IntWalk.i64_in _ (by omega)
            have HG := Lib.hid (hc8.blk HG.out (show w3.drew.heap.size ≠ B from fun e => by have e2 : w3.heap.size = B := e; omega))
            refine hKK.out _ _ (CC.out.cell) (fun hH => ?_)
            clear hKK KK
            try simp only [Act.put, List.setIfInBounds_toArray, List.set_cons_zero, List.set_cons_succ]
            refine hlTake 10 (v := ?v38) rfl (by kernel_rfl) (by kernel_rfl) (by kernel_rfl) (by kernel_rfl) (fun _ _ _ h => h) (by rfl) ?hy38 hH ?rest38
            case hy38 => ((intro w hSw); (try dsimp only at hSw); go_simp); try with_reducible rfl
            try simp only [Act.put, List.setIfInBounds_toArray, List.set_cons_zero, List.set_cons_succ]
            refine hlTake 11 (v := ?v39) rfl (by kernel_rfl) (by kernel_rfl) (by kernel_rfl) (by kernel_rfl) (fun _ _ _ h => h) (by rfl) ?hy39 hH ?rest39
            case hy39 => ((intro w hSw); (try dsimp only at hSw); go_simp); try with_reducible rfl
            try simp only [Act.put, List.setIfInBounds_toArray, List.set_cons_zero, List.set_cons_succ]
            refine hlReady (rs := [14]) (by kernel_rfl) (by simp) ?_
            refine AllReadyL.cons rfl (fun KK hKK => ?_) AllReadyL.nil
            -- order 13 4 7 9 14
            go_simp
            go_at_call 81
            refine (CC.out.among (by omega) HG.out (by first | exact hsz | exact hsz8)).mono ?_
            rintro e w9 ⟨xr, r0, r1, rfl, CC⟩
            refine hKK.out _ _ (CC.out.cell) (fun hH => ?_)
            clear hKK KK
            try simp only [Act.put, List.setIfInBounds_toArray, List.set_cons_zero, List.set_cons_succ]
            refine hlTake 15 (v := ?v40) rfl (by kernel_rfl) (by kernel_rfl) (by kernel_rfl) (by kernel_rfl) (fun _ _ _ h => h) (by rfl) ?hy40 hH ?rest40
            case hy40 => ((intro w hSw); (try dsimp only at hSw); go_simp); try with_reducible rfl
            try simp only [Act.put, List.setIfInBounds_toArray, List.set_cons_zero, List.set_cons_succ]
            refine hlStep 16 rfl (by kernel_rfl) (by kernel_rfl) (fun KK hKK => ?_)
            go_simp
            go_at_call 195
            refine (CC.out.l2Put _ _ _ _ (by unfold smallF; simp only; clear CC; omega) (by omega)).mono ?_
            rintro e w10 ⟨a9, n9, c9, rfl, hp, CC⟩
            have y10a := CC.out.cell
            have y10b := CC.out.frozen
            refine hKK.out _ _ ?_
            clear hKK KK
            try simp only [Act.put, List.setIfInBounds_toArray, List.set_cons_zero, List.set_cons_succ]
            refine hlStep 17 rfl (by kernel_rfl) (by kernel_rfl) (fun KK hKK => ?_)
            go_simp
            refine hKK.out _ _ ?_
            clear hKK KK
            try simp only [Act.put, List.setIfInBounds_toArray, List.set_cons_zero, List.set_cons_succ]
            refine hlStep 18 rfl (by kernel_rfl) (by kernel_rfl) (fun KK hKK => ?_)
            go_simp
            refine hKK.out _ _ ?_
            clear hKK KK
            try simp only [Act.put, List.setIfInBounds_toArray, List.set_cons_zero, List.set_cons_succ]
            refine hlDone (by kernel_rfl) ?_ _
            rotate_left 1
            all_goals
              obtain ⟨fs', hl', CC⟩ := hp.out
              have CC := CC.mono (K' := K + 90 - 16 * (r - 1)) (by omega)
              clear y10a y10b hp hsz hsz8 HG
              go_wp2_with fail
              go_roundw
              case rel => exact ⟨r - 1, _, ⟨n.ns, fs'⟩, by omega, by go_num, by show fs'.length + (r - 1) ≤ k + 3; omega, CC⟩
              case measure => simp [intOf]; omega
        · obtain rfl : r = 0 := by omega
          obtain ⟨a2, c2, rfl⟩ := CC.out.d.slices.2
          have y2 := CC.out.cell
          have hB := HC1.out.1.1
          have hbx := CC.out.cs.blk HK1.out (by omega)
          have z0 : wr.cell? ⟨w.heap.size, 0, none⟩ = some (.slice none 0 0) := blkc hbx rfl
          have z1 : wr.cell? ⟨w.heap.size, 1, none⟩ = some (.slice none 0 0) := blkc hbx rfl
          have f0 : wr.frozen? ⟨w.heap.size, 0, none⟩ = false := by simp [World.frozen?, hbx]
          have f1 : wr.frozen? ⟨w.heap.size, 1, none⟩ = false := by simp [World.frozen?, hbx]
          go_wp2_with fail
          subst hNP
          exact bodyPost_ret (v := .agg #[(.slice (some ⟨w.heap.size + 1, 0, none⟩) k 6), .slice a2 n.fs.length c2]) (by simp [results, Tryz.results161, go_sem, z0, z1]) rfl (CC.out.done HC1.out HZ1.out (by omega) ⟨by omega, by obtain ⟨a, c, e⟩ := CC.out.d.slices.1; simp only [Value.slice.injEq] at e; omega⟩)
end Go.Proofs.YtmkkdenhjfjmgaaGreat
