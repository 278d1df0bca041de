/- Joined: XDrg XDrc XDrh XDri XDre XDrj. -/
import Derived.Test.YtmkkdenhjfjmgaaGreatBf16
import Derived.Test.YtmkkdenhjfjmgaaGreatBf15
import Derived.Test.YtmkkdenhjfjmgaaGreatBf08
import Derived.Test.YtmkkdenhjfjmgaaGreatBf11
namespace Go.Proofs.YtmkkdenhjfjmgaaGreat
open Go.RowKit Go.Sort
set_option maxRecDepth 100000

theorem RtP.of {w wr : World} {B K : Nat} {c v : Value} {st : Int} {xs : List Int} (hl : xs.length ≤ 5) (hx : OwR wr (w.heap.size + 2) v xs) (hc : CS w B c (K + 20) wr) :
    RtP w B c K (.returned (.agg #[.int .i64 st, v])) ((wr.setCell ⟨w.heap.size + 1, 0, none⟩ (.int .i64 st)).setCell ⟨w.heap.size + 1, 1, none⟩ v) := by
  refine ⟨st, v, rfl, xs, hl, ?_, (hc.set (Nat.le_succ _) _).set (Nat.le_succ _) _⟩
  have hn : ∀ k, v.ownBlock = some k → k ≠ w.heap.size + 1 := fun k hk => by have := (hx.lt k hk).1; omega
  exact ((hx.oth hn).oth hn).base (by omega)
set_option maxHeartbeats 6400000 in
theorem routed_any (B b0 : Nat) (c : Value) (K : Nat) (u1 u2 : Value) (n : Net) (w : World) (h : Cs w B c K) (hk : K ≤ 3000000000000000) (hd : NtD w b0 u1 u2 n) (hB0 : B < b0) (hf0 : 0 < n.fs.length) :
    Calls Tryz.prog 156 #[ptr B, .agg #[u1, u2]] w (RtP w B c K) := by
  have hBw := h.lt.1
  obtain ⟨⟨a1, c1, rfl⟩, a2, c2, rfl⟩ := hd.slices
  obtain ⟨NP, hNP⟩ : ∃ NP, NP = RtP w B c K := ⟨_, rfl⟩
  rw [← hNP]
  have b1 := (Below.refl w.heap.size w).alloc (Nat.le_refl _) (.cells #[.slice a1 n.ns.length c1, .slice a2 n.fs.length c2] 35)
  have b2 := b1.alloc b1.size (.cells #[.int .i64 0, .slice none 0 0] 90)
  have HC2 := Lib.hid (h.here.below b2)
  have HD2 := Lib.hid (hd.below b2)
  have HX1 := Lib.hid (show ((w.alloc (.cells #[.slice a1 n.ns.length c1, .slice a2 n.fs.length c2] 35)).alloc (.cells #[.int .i64 0, .slice none 0 0] 90)).heap[w.heap.size]? = some (.cells #[.slice a1 n.ns.length c1, .slice a2 n.fs.length c2] 35 (0, 0)) from (heap_alloc_old _ _ (by simp)).trans (heap_alloc_new w _))
  have HX2 := Lib.hid (show ((w.alloc (.cells #[.slice a1 n.ns.length c1, .slice a2 n.fs.length c2] 35)).alloc (.cells #[.int .i64 0, .slice none 0 0] 90)).heap[w.heap.size + 1]? = some (.cells #[.int .i64 0, .slice none 0 0] 90 (0, 0)) from by have := heap_alloc_new (w.alloc (.cells #[.slice a1 n.ns.length c1, .slice a2 n.fs.length c2] 35)) (.cells #[.int .i64 0, .slice none 0 0] 90); simpa using this)
  have HZ2 := Lib.hid (show ((w.alloc (.cells #[.slice a1 n.ns.length c1, .slice a2 n.fs.length c2] 35)).alloc (.cells #[.int .i64 0, .slice none 0 0] 90)).heap.size = w.heap.size + 2 by simp)
  have hw2 : ∃ w2, w2 = (w.alloc (.cells #[.slice a1 n.ns.length c1, .slice a2 n.fs.length c2] 35)).alloc (.cells #[.int .i64 0, .slice none 0 0] 90) := ⟨_, rfl⟩
  have q0 : ((w.alloc (.cells #[.slice a1 n.ns.length c1, .slice a2 n.fs.length c2] 35)).alloc (.cells #[.int .i64 0, .slice none 0 0] 90)).cell? ⟨w.heap.size, 0, none⟩ = some (.slice a1 n.ns.length c1) := blkc HX1.out rfl
  have q1 : ((w.alloc (.cells #[.slice a1 n.ns.length c1, .slice a2 n.fs.length c2] 35)).alloc (.cells #[.int .i64 0, .slice none 0 0] 90)).cell? ⟨w.heap.size, 1, none⟩ = some (.slice a2 n.fs.length c2) := blkc HX1.out rfl
  clear b1 b2 h hd hw2
  go_enter Tryz.func156, Tryz.ntmps156
  go_wp2_with fail
  generalize (w.alloc (.cells #[.slice a1 n.ns.length c1, .slice a2 n.fs.length c2] 35)).alloc (.cells #[.int .i64 0, .slice none 0 0] 90) = w2 at *
  refine (route_any B b0 c K _ _ n w2 HC2.out.st hk HD2.out hB0).mono ?_
  rintro e w3 ⟨st, v, rfl, xs, hl, hx, hc3⟩
  have HC3 := Lib.hid (HC2.out.call hc3)
  have HX := Lib.hid hx
  have hs3 := hc3.size
  have hz2 := HZ2.out
  have x1 := hc3.blk HX1.out (by omega)
  have x2 := hc3.blk HX2.out (by omega)
  have HD3 := Lib.hid (HD2.out.cs hc3 hB0)
  obtain ⟨ax, cx, nx, HNX, rfl, -, -, -⟩ := hx.own.rd.opn
  obtain ⟨bx, bc, blt, bf⟩ := box_facts w3 #[.int .i64 st, .slice ax nx cx] 90
  have p0 := bc 0 _ rfl
  have p1 := bc 1 _ rfl
  have HBX := Lib.hid bx
  have l3 : w.heap.size + 1 < w3.heap.size := by omega
  have x1 := Lib.hid ((heap_alloc_old w3 (.cells #[.int .i64 st, .slice ax nx cx] 90) (by omega)).trans x1)
  have x2 := Lib.hid ((heap_alloc_old w3 (.cells #[.int .i64 st, .slice ax nx cx] 90) (by omega)).trans x2)
  have t1 := blkc x1.out (show _ = some (Value.slice a2 n.fs.length c2) from rfl) (j := 1)
  have z0 := blkc x2.out (show _ = some (Value.int .i64 0) from rfl) (j := 0)
  have z1 := blkc x2.out (show _ = some (Value.slice none 0 0) from rfl) (j := 1)
  have f0 : (w3.alloc (.cells #[.int .i64 st, .slice ax nx cx] 90)).frozen? ⟨w.heap.size + 1, 0, none⟩ = false := by simp only [World.frozen?, x2.out]; rfl
  have f1 : (w3.alloc (.cells #[.int .i64 st, .slice ax nx cx] 90)).frozen? ⟨w.heap.size + 1, 1, none⟩ = false := by simp only [World.frozen?, x2.out]; rfl
  clear bx bc bf hc3 hx q0 q1 HX1 HX2 HC2 HD2
  have HZ4 := Lib.hid (show w3.heap.size < (w3.alloc (.cells #[.int .i64 st, .slice ax nx cx] 90)).heap.size by simp)
  have HX4 := Lib.hid ((HX.out.below HBX.out).base (show w.heap.size + 2 ≤ w2.heap.size by omega))
  have HC4 := Lib.hid (HC3.out.below HBX.out)
  have HD4 := Lib.hid (HD3.out.below HBX.out)
  go_upto_region 2 with fail
  generalize w3.alloc (.cells #[.int .i64 st, .slice ax nx cx] 90) = w4 at *
  clear HBX HX HC3 HD3
  by_cases hn : nx = 0
  · subst hn
    obtain ⟨a2', m2', c2', e2, HM2, -, -, ha2⟩ := flt_opn (m := 4) (enc := fibE) (fun _ => rfl) (by omega) nilB HD4.out.fs.rd
    obtain ⟨rfl, rfl, rfl⟩ : a2 = a2' ∧ n.fs.length = m2' ∧ c2 = c2' := by cases e2; exact ⟨rfl, rfl, rfl⟩
    obtain ⟨b, off, rfl, hb, hcc⟩ := ha2 hf0
    have y0 := hcc 0 hf0 0 _ rfl
    have hf0I : (0 : Int) < (n.fs.length : Int) := by omega
    rw [Nat.zero_mul, Nat.add_zero] at y0
    generalize (n.fs[0]?.getD nilB).a = fa at *
    clear hcc e2
    have x5 : (w4.alloc (.cells #[.int .i64 0] 3)).heap[w.heap.size + 1]? = some (.cells #[.int .i64 0, .slice none 0 0] 90 (0, 0)) := (heap_alloc_old _ _ (Array.getElem?_eq_some_iff.1 x2.out).1).trans x2.out
    have z0a := blkc x5 (show _ = some (Value.int .i64 0) from rfl) (j := 0)
    have z1a := blkc x5 (show _ = some (Value.slice none 0 0) from rfl) (j := 1)
    have f0a : (w4.alloc (.cells #[.int .i64 0] 3)).frozen? ⟨w.heap.size + 1, 0, none⟩ = false := by simp only [World.frozen?, x5]; rfl
    have f1a : (w4.alloc (.cells #[.int .i64 0] 3)).frozen? ⟨w.heap.size + 1, 1, none⟩ = false := by simp only [World.frozen?, x5]; rfl
    clear x5
    go_wp2_with fail
    subst hNP
    exact bodyPost_ret (v := .agg #[.int .i64 fa, .slice (some ⟨w4.heap.size, 0, none⟩) 1 1]) (by simp [results, Tryz.results156, go_sem, z0a, z1a]) rfl (RtP.of (xs := [0]) (by simp) (OwR.lit1 (w := w4) 0 (by have := HZ4.out; omega)) (HC4.out.alloc _))
  · have hnI : ¬ (nx : Int) = 0 := by omega
    go_wp2_with fail
    subst hNP
    exact bodyPost_ret (v := .agg #[.int .i64 st, .slice ax nx cx]) (by simp [results, Tryz.results156, go_sem, z0, z1]) rfl (RtP.of hl HX4.out HC4.out)
end Go.Proofs.YtmkkdenhjfjmgaaGreat
namespace Go.Proofs.YtmkkdenhjfjmgaaGreat
open Go.RowKit Go.Sort
set_option maxRecDepth 100000

/-- The row of fibers has been appended to; it is stored into the network's variable. -/
theorem Nb.app {w wr w' : World} {B K bN : Nat} {c u1 u2 v' : Value} {n : Net} {fs' : List Fib} (h : Nb w wr B c K bN u1 u2 n) (hr : w'.ownsRow w.heap.size 148 4 v' fs'.length (fbs fs')) (hg : wr.grownBy w' u2.ownBlock) (hl : v'.ownBlock = u2.ownBlock ∨ v'.ownBlock = some wr.heap.size) (hs : ∀ f ∈ fs', smallF f) (hl2 : fs'.length ≤ 40) :
    Nb w (w'.setCell ⟨bN, 1, none⟩ v') B c K bN u1 v' ⟨n.ns, fs'⟩ := by
  have lbN := (Array.getElem?_eq_some_iff.1 h.box).1
  have hbx : w'.heap[bN]? = some (.cells #[u1, u2] 35 (0, 0)) := (hg.block bN lbN fun e => h.ne.2 e.symm).trans h.box
  have hne : v'.ownBlock ≠ some bN := fun e => by
    rcases hl with hl | hl
    · exact h.ne.2 (hl.symm.trans e)
    · rw [hl] at e; have := Option.some.inj e; omega
  have hap : Apt u1 v' := fun q hq e => by
    rcases hl with hl | hl
    · exact h.d.ap q hq (hl.symm.trans e)
    · have := (h.d.ns.lt q hq).2
      rw [hl] at e; have := Option.some.inj e; omega
  have hcs : CS w B c K w' := h.cs.grown hg fun g e => (h.d.fs.lt g e).1
  refine ⟨hcs.set h.hb v', heap_setCell_same w' bN 1 _ _ v' hbx, ⟨ownsRow_kept h.d.ns fun g hg' => ?_, ownsRow_kept hr fun g hg' => ?_, hap, hs, h.d.nz, h.d.nl, hl2⟩, h.hb, h.ne.1, hne⟩
  · rw [heap_setCell_other w' ⟨bN, 1, none⟩ g v' fun e => h.ne.1 (by rw [hg']; exact congrArg some e)]
    exact hg.block g (h.d.ns.lt g hg').2 fun e => h.d.ap g hg' e.symm
  · exact heap_setCell_other w' ⟨bN, 1, none⟩ g v' fun e => hne (by rw [hg']; exact congrArg some e)
/-- The variable is laid. -/
theorem Nb.box0 {w wr : World} {B K : Nat} {c u1 u2 : Value} {n : Net} (hc : CS w B c K wr) (hd : NtD wr w.heap.size u1 u2 n) : Nb w (wr.alloc (.cells #[u1, u2] 35)) B c K wr.heap.size u1 u2 n :=
  ⟨hc.alloc _, heap_alloc_new _ _, hd.below ((Below.refl _ _).alloc (Nat.le_refl _) _), hc.size, fun e => absurd (hd.ns.lt _ e).2 (Nat.lt_irrefl _), fun e => absurd (hd.fs.lt _ e).2 (Nat.lt_irrefl _)⟩
/-- The post with a bound of its own, and something of the network. -/
def NtQ (Z : Net → Prop) (m : Nat) (w : World) (B : Nat) (c : Value) (K : Nat) (e : Ending) (w' : World) : Prop := ∃ u1 u2 n, e = .returned (.agg #[u1, u2]) ∧ Z n ∧ NtD w' w.heap.size u1 u2 n ∧ CS w B c (K + m) w'
theorem Nb.doneQ {Z : Net → Prop} {m : Nat} {w w1 wr : World} {B K K' bN : Nat} {c u1 u2 : Value} {n : Net} (h : Nb w1 wr B c K' bN u1 u2 n) (h1 : CS w B c K w1) (hs : w1.heap.size = w.heap.size + 1) (hk : K' ≤ K + m) (hz : Z n) :
    NtQ Z m w B c K (.returned (.agg #[u1, u2])) ((wr.setCell ⟨w.heap.size, 0, none⟩ u1).setCell ⟨w.heap.size, 1, none⟩ u2) := by
  refine ⟨u1, u2, n, rfl, hz, (h.d.base (by omega)).kept fun g _ hb => ?_, (((h1.call h.cs).mono hk).set (Nat.le_refl _) u1).set (Nat.le_refl _) u2⟩
  have := (h.d.lt g hb).1
  rw [heap_setCell_other _ _ _ _ (show g ≠ w.heap.size by omega), heap_setCell_other _ _ _ _ (show g ≠ w.heap.size by omega)]
set_option maxHeartbeats 6400000 in
theorem linked_any (B : Nat) (c : Value) (K : Nat) (w : World) (h : Cs w B c K) (hk : K ≤ 3000000000000000) :
    Calls Tryz.prog 155 #[ptr B] w (NtQ (fun n => 0 < n.fs.length ∧ n.fs.length ≤ 9) 100 w B c K) := by
  have b1 := (Below.refl w.heap.size w).alloc (Nat.le_refl _) (.cells #[.slice none 0 0, .slice none 0 0] 35)
  have k1 := heap_alloc_new w (.cells #[.slice none 0 0, .slice none 0 0] 35)
  have HC1 := Lib.hid (h.here.below b1)
  have HK1 := Lib.hid k1
  have z1 : (w.alloc (.cells #[.slice none 0 0, .slice none 0 0] 35)).heap.size = w.heap.size + 1 := by simp
  have HZ1 := Lib.hid z1
  obtain ⟨NP, hNP⟩ : ∃ NP, NP = NtQ (fun n => 0 < n.fs.length ∧ n.fs.length ≤ 9) 100 w B c K := ⟨_, rfl⟩
  rw [← hNP]
  clear h b1 k1 z1
  go_enter Tryz.func155, Tryz.ntmps155
  go_wp2_with fail
  generalize w.alloc (.cells #[.slice none 0 0, .slice none 0 0] 35) = w1 at *
  refine (network_any B c K w1 HC1.out.st (by omega)).mono ?_
  rintro e w2 ⟨u1, u2, n, rfl, ⟨hl9, hl6⟩, hd, hc2⟩
  have CC := Lib.hid (Nb.box0 hc2 hd)
  obtain ⟨⟨a1, c1, rfl⟩, ⟨a2, c2, rfl⟩⟩ := hd.slices
  have hB := HC1.out.1.1
  clear hd
  by_cases hn : n.fs.length = 0
  · obtain ⟨ns, fs⟩ := n
    obtain rfl : fs = [] := List.eq_nil_of_length_eq_zero hn
    simp only [List.length_nil] at CC hn hl9
    have y1 := CC.out.cell
    have CD := Lib.hid (CC.out.alloc (.cells #[.int .i64 0, .int .i64 1, .int .i64 100, .int .i64 0] 148))
    have HR := Lib.hid CD.out.d.fs
    have hz2 : (w2.alloc (.cells #[.slice a1 ns.length c1, .slice a2 0 c2] 35)).heap.size = w2.heap.size + 1 := by simp
    have HL := Lib.hid (show ((w2.alloc (.cells #[.slice a1 ns.length c1, .slice a2 0 c2] 35)).alloc (.cells #[.int .i64 0, .int .i64 1, .int .i64 100, .int .i64 0] 148)).heap[w2.heap.size + 1]? = some (.cells #[.int .i64 0, .int .i64 1, .int .i64 100, .int .i64 0] 148 (0, 0)) from by rw [← hz2]; exact heap_alloc_new _ _)
    have HFO := Lib.hid (show ∀ u ∈ fibE ⟨0, 1, 100, 0⟩, u.oneCell' = true from fun u hu => by simp [fibE] at hu; rcases hu with rfl | rfl | rfl | rfl <;> rfl)
    have hsz1 : w1.heap.size ≤ ((w2.alloc (.cells #[.slice a1 ns.length c1, .slice a2 0 c2] 35)).alloc (.cells #[.int .i64 0, .int .i64 1, .int .i64 100, .int .i64 0] 148)).heap.size := CD.out.cs.size
    clear hn
    go_wp2_with (at_builtin; refine wpList_catG rfl (.tmp 11) (.tmp 13) 33 148 rfl Tryz.underlying33 (.agg #[.int .i64 0, .int .i64 0, .int .i64 0, .int .i64 0]) 4 32 Tryz.infoFib rfl (by decide) w1.heap.size (.slice a2 0 c2) 0 [] (by rfl) HR.out (some ⟨w2.heap.size + 1, 0, none⟩) 1 _ (fibE ⟨0, 1, 100, 0⟩) (by rfl) rfl (fun e => by cases e) (fun ad e j u hu => by cases e; exact World.news_of_block HL.out j u hu) HFO.out (by unfold maxLen; omega) (by omega) hsz1 ?_; intro v' w5 ho5 hg5 hl5; obtain ⟨a5, c5, n5, rfl⟩ := FibRow.slice (fs := [⟨0, 1, 100, 0⟩]) ho5; have HP := Lib.hid (CD.out.app (fs' := [⟨0, 1, 100, 0⟩]) ho5 hg5 hl5 (fun f hf => by rw [List.mem_singleton.1 hf]; unfold smallF; simp) (by simp)); have y5 := (CD.out.cs.grown hg5 fun q hq => (HR.out.lt q hq).1); have hx5 := (hg5.block w2.heap.size (Array.getElem?_eq_some_iff.1 CD.out.box).1 fun e => CD.out.ne.2 e.symm).trans CD.out.box; have y5a := blkc hx5 (show _ = some _ from rfl) (j := 0); have y5b := blkc hx5 (show _ = some _ from rfl) (j := 1); have f5 : w5.frozen? ⟨w2.heap.size, 1, none⟩ = false := (by simp only [World.frozen?, hx5]; rfl); have hbx := y5.blk HK1.out (by omega); have z0 := blkc hbx (show _ = some (Value.slice none 0 0) from rfl) (j := 0); have z1 := blkc hbx (show _ = some (Value.slice none 0 0) from rfl) (j := 1); have f0 : w5.frozen? ⟨w.heap.size, 0, none⟩ = false := (by simp only [World.frozen?, hbx]; rfl); have f1 : w5.frozen? ⟨w.heap.size, 1, none⟩ = false := (by simp only [World.frozen?, hbx]; rfl); have hne1 : w.heap.size < w2.heap.size := (by have := hc2.size; have := HZ1.out; omega); have hne := Nat.ne_of_lt hne1; have hne' := Nat.ne_of_gt hne1; clear ho5 hg5 hl5)
    subst hNP
    exact bodyPost_ret (v := .agg #[.slice a1 ns.length c1, .slice a5 n5 c5]) (by simp [results, Tryz.results155, go_sem, z0, z1, hne, hne']) rfl (HP.out.doneQ HC1.out HZ1.out (by omega) ⟨by simp, by simp⟩)
  · have hnI : ¬ (n.fs.length : Int) = 0 := by omega
    have y2 := CC.out.cell
    have y1 : (w2.alloc (.cells #[.slice a1 n.ns.length c1, .slice a2 n.fs.length c2] 35)).cell? ⟨w2.heap.size, 0, none⟩ = some (.slice a1 n.ns.length c1) := blkc CC.out.box rfl
    have hbx := CC.out.cs.blk HK1.out (by omega)
    have z0 := blkc hbx (show _ = some (Value.slice none 0 0) from rfl) (j := 0)
    have z1 := blkc hbx (show _ = some (Value.slice none 0 0) from rfl) (j := 1)
    have f0 : (w2.alloc (.cells #[.slice a1 n.ns.length c1, .slice a2 n.fs.length c2] 35)).frozen? ⟨w.heap.size, 0, none⟩ = false := by simp only [World.frozen?, hbx]; rfl
    have f1 : (w2.alloc (.cells #[.slice a1 n.ns.length c1, .slice a2 n.fs.length c2] 35)).frozen? ⟨w.heap.size, 1, none⟩ = false := by simp only [World.frozen?, hbx]; rfl
    go_wp2_with fail
    subst hNP
    exact bodyPost_ret (v := .agg #[.slice a1 n.ns.length c1, .slice a2 n.fs.length c2]) (by simp [results, Tryz.results155, go_sem, z0, z1]) rfl (CC.out.doneQ HC1.out HZ1.out (by omega) ⟨by omega, by omega⟩)
end Go.Proofs.YtmkkdenhjfjmgaaGreat
namespace Go.Proofs.YtmkkdenhjfjmgaaGreat
open Go.RowKit Go.Sort
set_option maxRecDepth 100000

theorem Tryz.infoStrD : (Tryz.prog.info? 9).map (fun i => (i.zero, i.size, i.bytes)) = some (some (.string ⟨#[]⟩), 1, 16) := by kernel_rfl
/-- An own row as what is appended. -/
theorem row_src {w : World} {base m c size : Nat} {e : TypeId} {ao : Option Addr} {xs : List Value} (h : w.ownsRow base e size (.slice ao m c) m xs) :
    (ao = none → m = 0 ∧ c = 0) ∧ xs.length = m * size ∧ ∀ w', Below w.heap.size w w' → ∀ ad, ao = some ad → ∀ j u, xs[j]? = some u → w'.cell? (ad.add j) = some u := by
  refine ⟨fun e => ?_, h.1, fun w' hb ad e j u hu => ?_⟩
  · rcases h.2 with ⟨h1, h2⟩ | ⟨g, cap, cur, h1, _⟩
    · cases h1; exact ⟨rfl, rfl⟩
    · rw [e] at h1; cases h1
  · subst e
    rcases h.2 with ⟨h1, h2⟩ | ⟨g, cap, cur, h1, h2, h3, _⟩
    · cases h1
    · cases h1
      have hc := World.ownsRow.cells h (g := g) rfl j u hu
      exact (hb.cell (World.block_lt_of_cell? w _ hc)).trans hc
theorem str_one {ss : List ByteArray} : ∀ u ∈ ss.map Value.string, u.oneCell' = true := fun u hu => by
  obtain ⟨s, -, rfl⟩ := List.mem_map.1 hu; rfl
section
variable {W w5 : World} {X : Obj} {T : TypeId} {m : Nat}
theorem mk_kept3 (g : ((W.drew.alloc X).alloc (.cells #[] T)).grownBy w5 (some W.heap.size)) : w5.ownsRow W.heap.size T m (.slice (some ⟨W.heap.size + 1, 0, none⟩) 0 0) 0 [] :=
  row_kept0 row_made3 fun q hq => g.block q (World.ownsRow.lt (row_made3 (X := X) (T := T) (m := m)) q hq).2 fun e => by
    have h1 : W.heap.size + 1 = q := Option.some.inj hq
    have h2 := Option.some.inj e
    omega
theorem mk_kept2 (g : ((W.drew.alloc (.cells #[] T)).alloc X).grownBy w5 (some (W.heap.size + 1))) : w5.ownsRow W.heap.size T m (.slice (some ⟨W.heap.size, 0, none⟩) 0 0) 0 [] :=
  row_kept0 row_made2 fun q hq => g.block q (World.ownsRow.lt (row_made2 (X := X) (T := T) (m := m)) q hq).2 fun e => by
    have h1 : W.heap.size = q := Option.some.inj hq
    have h2 := Option.some.inj e
    omega
end
theorem two_rows {w5 wA w10 : World} {base s3 b3 b7 m1 n1 : Nat} {T1 : TypeId} {us1 : List Value} {v5 v10 : Value} (o5 : w5.ownsRow base T1 m1 v5 n1 us1) (hA : Below w5.heap.size w5 wA) (g10 : wA.grownBy w10 (some b7)) (l10 : v10.ownBlock = some b7 ∨ v10.ownBlock = some wA.heap.size) (l5 : v5.ownBlock = some b3 ∨ v5.ownBlock = some s3) (hd : (b3 ≠ b7 ∧ s3 ≠ b7) ∨ w5.heap.size ≤ b7) : w10.ownsRow base T1 m1 v5 n1 us1 ∧ Apt v5 v10 := by
  have hlt := fun q hq => (World.ownsRow.lt o5 q hq).2
  have hne : ∀ q, v5.ownBlock = some q → q ≠ b7 := fun q hq => by
    have h1 := hlt q hq
    rcases hd with ⟨h2, h3⟩ | h2
    · rcases l5 with l | l
      · rw [l] at hq; have := Option.some.inj hq; omega
      · rw [l] at hq; have := Option.some.inj hq; omega
    · omega
  refine ⟨row_kept0 o5 fun q hq => (g10.block q (Nat.lt_of_lt_of_le (hlt q hq) hA.size) fun e => hne q hq (Option.some.inj e)).trans (hA.block q (hlt q hq)), fun q hq e => ?_⟩
  rcases l10 with l | l
  · rw [l] at e; exact hne q hq (Option.some.inj e).symm
  · rw [l] at e
    have h1 := Option.some.inj e
    have h2 := hlt q hq
    have h3 := hA.size
    omega
theorem OwnNtP.of {w w2 w10 : World} {n : Net} {v5 v10 : Value} (hd : NtD w10 w2.heap.size v5 v10 n) (hb : Below w2.heap.size w2 w10) (hb0 : Below w.heap.size w w2) (hz : w2.heap.size = w.heap.size + 2) : ∃ v1 v2, Ending.returned (.agg #[v5, v10]) = .returned (.agg #[v1, v2]) ∧ NtD ((w10.setCell ⟨w.heap.size + 1, 0, none⟩ v5).setCell ⟨w.heap.size + 1, 1, none⟩ v10) w.heap.size v1 v2 n ∧ Below w.heap.size w ((w10.setCell ⟨w.heap.size + 1, 0, none⟩ v5).setCell ⟨w.heap.size + 1, 1, none⟩ v10) := by
  refine ⟨v5, v10, rfl, (hd.base (by omega)).kept fun g _ hg => ?_, ((hb0.trans (hb.mono hb0.size)).setCell (p := ⟨w.heap.size + 1, 0, none⟩) (Nat.le_succ _) v5).setCell (p := ⟨w.heap.size + 1, 1, none⟩) (Nat.le_succ _) v10⟩
  have := (hd.lt g hg).1
  rw [heap_setCell_other _ _ _ _ (show g ≠ w.heap.size + 1 by omega), heap_setCell_other _ _ _ _ (show g ≠ w.heap.size + 1 by omega)]
def OwnNtP (n : Net) (w : World) (e : Ending) (w' : World) : Prop := ∃ v1 v2, e = .returned (.agg #[v1, v2]) ∧ NtD w' w.heap.size v1 v2 n ∧ Below w.heap.size w w'
set_option maxHeartbeats 6400000 in
theorem l2OwnD_any (b0 : Nat) (u1 u2 : Value) (n : Net) (w : World) (hd : NtD w b0 u1 u2 n) :
    Calls Tryz.prog 210 #[.agg #[u1, u2]] w (OwnNtP n w) := by
  obtain ⟨⟨a1, c1, rfl⟩, a2, c2, rfl⟩ := hd.slices
  obtain ⟨NP, hNP⟩ : ∃ NP, NP = OwnNtP n w := ⟨_, rfl⟩
  rw [← hNP]
  have HS1 := Lib.hid (row_src hd.ns)
  have HS2 := Lib.hid (row_src hd.fs)
  have HD := Lib.hid hd
  have b1 := (Below.refl w.heap.size w).alloc (Nat.le_refl _) (.cells #[.slice a1 n.ns.length c1, .slice a2 n.fs.length c2] 35)
  have b2 := b1.alloc b1.size (.cells #[.slice none 0 0, .slice none 0 0] 35)
  have HB2 := Lib.hid b2
  have HX1 := Lib.hid (show ((w.alloc (.cells #[.slice a1 n.ns.length c1, .slice a2 n.fs.length c2] 35)).alloc (.cells #[.slice none 0 0, .slice none 0 0] 35)).heap[w.heap.size]? = some (.cells #[.slice a1 n.ns.length c1, .slice a2 n.fs.length c2] 35 (0, 0)) from (heap_alloc_old _ _ (by simp)).trans (heap_alloc_new w _))
  have HX2 := Lib.hid (show ((w.alloc (.cells #[.slice a1 n.ns.length c1, .slice a2 n.fs.length c2] 35)).alloc (.cells #[.slice none 0 0, .slice none 0 0] 35)).heap[w.heap.size + 1]? = some (.cells #[.slice none 0 0, .slice none 0 0] 35 (0, 0)) from by have := heap_alloc_new (w.alloc (.cells #[.slice a1 n.ns.length c1, .slice a2 n.fs.length c2] 35)) (.cells #[.slice none 0 0, .slice none 0 0] 35); simpa using this)
  have HZ2 := Lib.hid (show ((w.alloc (.cells #[.slice a1 n.ns.length c1, .slice a2 n.fs.length c2] 35)).alloc (.cells #[.slice none 0 0, .slice none 0 0] 35)).heap.size = w.heap.size + 2 by simp)
  clear b1 b2 hd
  go_enter Tryz.func210, Tryz.ntmps210
  go_upto_region 1 with fail
  generalize (w.alloc (.cells #[.slice a1 n.ns.length c1, .slice a2 n.fs.length c2] 35)).alloc (.cells #[.slice none 0 0, .slice none 0 0] 35) = w2 at *
  have hlt1 : w.heap.size < w2.heap.size := by have := HZ2.out; omega
  have hlt2 : w.heap.size + 1 < w2.heap.size := by have := HZ2.out; omega
  have hsm1 : n.ns.length ≤ 16 := HD.out.nl.2
  have hsm2 : n.fs.length ≤ 40 := HD.out.fl
  have HS := Lib.hid (fun (w' : World) (hb : Below w2.heap.size w2 w') => show w'.cell? ⟨w.heap.size, 0, none⟩ = some (.slice a1 n.ns.length c1) ∧ w'.cell? ⟨w.heap.size, 1, none⟩ = some (.slice a2 n.fs.length c2) from
    ⟨(hb.cell (p := ⟨w.heap.size, 0, none⟩) hlt1).trans (blkc HX1.out rfl), (hb.cell (p := ⟨w.heap.size, 1, none⟩) hlt1).trans (blkc HX1.out rfl)⟩)
  have HC1 := Lib.hid (fun (w' : World) (hb : Below w2.heap.size w2 w') => HS1.out.2.2 w' (HB2.out.trans (hb.mono HB2.out.size)))
  have HC2 := Lib.hid (fun (w' : World) (hb : Below w2.heap.size w2 w') => HS2.out.2.2 w' (HB2.out.trans (hb.mono HB2.out.size)))
  have HN1 := Lib.hid HS1.out.1
  have HN2 := Lib.hid HS2.out.1
  have HL1 := Lib.hid HS1.out.2.1
  have HL2 := Lib.hid HS2.out.2.1
  have HST := Lib.hid (fun (w' : World) (hb : Below w2.heap.size w2 w') (a b : Value) => show ((w'.setCell ⟨w.heap.size + 1, 0, none⟩ a).setCell ⟨w.heap.size + 1, 1, none⟩ b).cell? ⟨w.heap.size, 0, none⟩ = some (.slice a1 n.ns.length c1) ∧ ((w'.setCell ⟨w.heap.size + 1, 0, none⟩ a).setCell ⟨w.heap.size + 1, 1, none⟩ b).cell? ⟨w.heap.size, 1, none⟩ = some (.slice a2 n.fs.length c2) from by
    obtain ⟨h1, h2⟩ := HS.out w' hb
    refine ⟨?_, ?_⟩
    · rw [World.cell?_setCell_other _ _ _ _ (by simp), World.cell?_setCell_other _ _ _ _ (by simp)]; exact h1
    · rw [World.cell?_setCell_other _ _ _ _ (by simp), World.cell?_setCell_other _ _ _ _ (by simp)]; exact h2)
  have hb0 := (Below.refl w2.heap.size w2).drew
  go_region_held3 (fun w' => w'.cell? ⟨w.heap.size, 0, none⟩ = some (.slice a1 n.ns.length c1) ∧ w'.cell? ⟨w.heap.size, 1, none⟩ = some (.slice a2 n.fs.length c2))
    (first | exact HS.out _ hb0 | exact HS.out _ bel1 | exact HS.out _ bel2 | exact HS.out _ B10 | exact HS.out _ B5 | exact HS.out _ (B5.alloc B5.size _) | exact HST.out _ B10 _ _)
    (first
      | ((refine step_of_list rfl ?_); (with_reducible show wpList _ _ _ (⟨some 6, _, _, _, _, _⟩ :: _) _ _); (go_loud (refine wpList_catG rfl (.tmp 3) (.tmp 5) 22 9 rfl Tryz.underlying22 (.string ⟨#[]⟩) 1 16 Tryz.infoStrD rfl (by decide) w2.heap.size (.slice (some ⟨_, 0, none⟩) 0 0) 0 [] (by rfl) (by first | exact row_made1 | exact row_made2 | exact row_made3) a1 n.ns.length c1 _ (by rfl) HL1.out HN1.out (HC1.out _ (by first | exact bel1 | exact bel2)) str_one (by unfold maxLen; omega) (by omega) (by first | exact bel1.size | exact bel2.size) ?_)); (intro v5 w5 o5 g5 l5); (obtain ⟨e5, f5, rfl⟩ := row_form0 o5); (have B5 : Below w2.heap.size w2 w5 := Below.grown (by first | exact bel1 | exact bel2) g5 (by first | exact bel1.size | exact bel2.size) (fun q hq => (by have hq2 := Option.some.inj hq; rw [← hq2]; first | exact Nat.le_refl _ | exact Nat.le_succ _))); (have NN5 := fun c h1 h2 => g5.block c h1 h2); (unfold wpList); (refine ⟨rfl, ?_⟩))
      | ((refine step_of_list rfl ?_); (with_reducible show wpList _ _ _ (⟨some 10, _, _, _, _, _⟩ :: _) _ _); (go_loud (refine wpList_catG rfl (.tmp 7) (.tmp 9) 33 148 rfl Tryz.underlying33 (.agg #[.int .i64 0, .int .i64 0, .int .i64 0, .int .i64 0]) 4 32 Tryz.infoFib rfl (by decide) w2.heap.size (.slice (some ⟨_, 0, none⟩) 0 0) 0 [] (by rfl) (by first | exact World.ownsRow_made (base := w2.heap.size) w5 #[] 0 B5.size (Nat.zero_le _) (by simp) | exact mk_kept3 g5 | exact mk_kept2 g5) a2 n.fs.length c2 _ (by rfl) HL2.out HN2.out (HC2.out _ (by first | exact B5 | exact B5.alloc B5.size _)) fbs_one (by unfold maxLen; omega) (by omega) (by first | exact B5.size | exact size_alloc B5.size) ?_)); (intro v10 w10 o10 g10 l10); (obtain ⟨e10, f10, rfl⟩ := row_form0 o10); (have B10 : Below w2.heap.size w2 w10 := Below.grown (by first | exact B5 | exact B5.alloc B5.size _) g10 (by first | exact B5.size | exact size_alloc B5.size) (fun q hq => (by have hq2 := Option.some.inj hq; rw [← hq2]; first | exact Nat.le_refl _ | exact Nat.le_succ _ | exact B5.size))); (have x10 := kept_o' HX2.out B10); (have z0 := blkc x10 (show _ = some (Value.slice none 0 0) from rfl) (j := 0)); (have z1 := blkc x10 (show _ = some (Value.slice none 0 0) from rfl) (j := 1)); (have f0 : w10.frozen? ⟨w.heap.size + 1, 0, none⟩ = false := (by simp only [World.frozen?, x10]; rfl)); (have f1 : w10.frozen? ⟨w.heap.size + 1, 1, none⟩ = false := (by simp only [World.frozen?, x10]; rfl)); (unfold wpList); (refine ⟨rfl, ?_⟩)))
  all_goals
    have H := two_rows o5 (by first | exact Below.refl _ _ | exact (Below.refl _ _).alloc (Nat.le_refl _) _) g10 l10 l5 (by first | exact .inr (Nat.le_refl _) | (left; constructor <;> simp <;> omega) | (left; constructor <;> simp))
    have HN := Lib.hid (show NtD w10 w2.heap.size (.slice e5 n.ns.length f5) (.slice e10 n.fs.length f10) n from ⟨⟨by rw [List.length_map, Nat.mul_one], by have := H.1.2; simpa using this⟩, ⟨by rw [fbs_len], by have := o10.2; simpa using this⟩, by have := H.2; simpa only [Nat.zero_add] using this, HD.out.sm, HD.out.nz, HD.out.nl, HD.out.fl⟩)
    have HB10 := Lib.hid B10
    clear H o5 o10 g5 g10 l5 l10 B5 B10 NN5
    go_wp2_with fail
    subst hNP
    exact bodyPost_ret (v := .agg #[.slice e5 n.ns.length f5, .slice e10 n.fs.length f10]) (by simp [results, Tryz.results210, go_sem, z0, z1]) rfl (OwnNtP.of HN.out HB10.out HB2.out HZ2.out)
end Go.Proofs.YtmkkdenhjfjmgaaGreat
namespace Go.Proofs.YtmkkdenhjfjmgaaGreat
open Go.RowKit Go.Sort
set_option maxRecDepth 100000

def OwnRtP (st : Int) (xs : List Int) (w : World) (e : Ending) (w' : World) : Prop := ∃ v', e = .returned (.agg #[.int .i64 st, v']) ∧ OwR w' w.heap.size v' xs ∧ Below w.heap.size w w'
set_option maxHeartbeats 6400000 in
theorem l4Own_any (st : Int) (v : Value) (xs : List Int) (w : World) (h : Rd w v xs) (hl : xs.length ≤ 900000) :
    Calls Tryz.prog 211 #[.agg #[.int .i64 st, v]] w (OwnRtP st xs w) := by
  obtain ⟨NP, hNP⟩ : ∃ NP, NP = OwnRtP st xs w := ⟨_, rfl⟩
  rw [← hNP]
  have HOW := Lib.hid (fun w' (hb : Below w.heap.size w w') => l1OwnE_any v xs w' (h.belowAll hb) hl)
  obtain ⟨ax, cx, nx, HNX, rfl, -, -, -⟩ := h.opn
  have b1 := (Below.refl w.heap.size w).alloc (Nat.le_refl _) (.cells #[.int .i64 st, .slice ax nx cx] 90)
  have b2 := b1.alloc b1.size (.cells #[.int .i64 0, .slice none 0 0] 90)
  have HB2 := Lib.hid b2
  have HX1 := Lib.hid (show ((w.alloc (.cells #[.int .i64 st, .slice ax nx cx] 90)).alloc (.cells #[.int .i64 0, .slice none 0 0] 90)).heap[w.heap.size]? = some (.cells #[.int .i64 st, .slice ax nx cx] 90 (0, 0)) from (heap_alloc_old _ _ (by simp)).trans (heap_alloc_new w _))
  have HX2 := Lib.hid (show ((w.alloc (.cells #[.int .i64 st, .slice ax nx cx] 90)).alloc (.cells #[.int .i64 0, .slice none 0 0] 90)).heap[w.heap.size + 1]? = some (.cells #[.int .i64 0, .slice none 0 0] 90 (0, 0)) from by have := heap_alloc_new (w.alloc (.cells #[.int .i64 st, .slice ax nx cx] 90)) (.cells #[.int .i64 0, .slice none 0 0] 90); simpa using this)
  have HZ2 := Lib.hid (show ((w.alloc (.cells #[.int .i64 st, .slice ax nx cx] 90)).alloc (.cells #[.int .i64 0, .slice none 0 0] 90)).heap.size = w.heap.size + 2 by simp)
  clear b1 b2 h
  go_enter Tryz.func211, Tryz.ntmps211
  go_upto_region 1 with fail
  generalize (w.alloc (.cells #[.int .i64 st, .slice ax nx cx] 90)).alloc (.cells #[.int .i64 0, .slice none 0 0] 90) = w2 at *
  have hlt1 : w.heap.size < w2.heap.size := by have := HZ2.out; omega
  have HS := Lib.hid (fun (w' : World) (hb : Below w2.heap.size w2 w') => show w'.cell? ⟨w.heap.size, 0, none⟩ = some (.int .i64 st) ∧ w'.cell? ⟨w.heap.size, 1, none⟩ = some (.slice ax nx cx) from
    ⟨(hb.cell (p := ⟨w.heap.size, 0, none⟩) hlt1).trans (blkc HX1.out rfl), (hb.cell (p := ⟨w.heap.size, 1, none⟩) hlt1).trans (blkc HX1.out rfl)⟩)
  have HST := Lib.hid (fun (w' : World) (hb : Below w2.heap.size w2 w') (a b : Value) => show ((w'.setCell ⟨w.heap.size + 1, 0, none⟩ a).setCell ⟨w.heap.size + 1, 1, none⟩ b).cell? ⟨w.heap.size, 0, none⟩ = some (.int .i64 st) ∧ ((w'.setCell ⟨w.heap.size + 1, 0, none⟩ a).setCell ⟨w.heap.size + 1, 1, none⟩ b).cell? ⟨w.heap.size, 1, none⟩ = some (.slice ax nx cx) from by
    obtain ⟨h1, h2⟩ := HS.out w' hb
    refine ⟨?_, ?_⟩
    · rw [World.cell?_setCell_other _ _ _ _ (by simp), World.cell?_setCell_other _ _ _ _ (by simp)]; exact h1
    · rw [World.cell?_setCell_other _ _ _ _ (by simp), World.cell?_setCell_other _ _ _ _ (by simp)]; exact h2)
  have hb0 := (Below.refl w2.heap.size w2).drew
  have HO2 := Lib.hid (HOW.out w2.drew (HB2.out.trans (hb0.mono HB2.out.size)))
  go_region_held3 (fun w' => w'.cell? ⟨w.heap.size, 0, none⟩ = some (.int .i64 st) ∧ w'.cell? ⟨w.heap.size, 1, none⟩ = some (.slice ax nx cx))
    (first | exact HS.out _ hb0 | exact HS.out _ B5 | exact HST.out _ B5 _ _)
    (first
      | (go_at_call 163; (with_reducible refine HO2.out.mono ?_); rintro e w5 ⟨v5, rfl, o5, b5⟩; (obtain ⟨e5, f5, rfl⟩ := row_form0 o5); (have B5 : Below w2.heap.size w2 w5 := hb0.trans (b5.mono hb0.size)); (have x10 := kept_o' HX2.out B5); (have z0 := blkc x10 (show _ = some (Value.int .i64 0) from rfl) (j := 0)); (have z1 := blkc x10 (show _ = some (Value.slice none 0 0) from rfl) (j := 1)); (have f0 : w5.frozen? ⟨w.heap.size + 1, 0, none⟩ = false := (by simp only [World.frozen?, x10]; rfl)); (have f1 : w5.frozen? ⟨w.heap.size + 1, 1, none⟩ = false := (by simp only [World.frozen?, x10]; rfl))))
  all_goals
    have HB5 := Lib.hid B5
    have HO5 := Lib.hid (show OwR w5 w2.heap.size _ xs from o5)
    clear b5 o5 B5
    go_wp2_with fail
    subst hNP
    have hz := HZ2.out
    have hn : ∀ k, (Value.slice e5 xs.length f5).ownBlock = some k → k ≠ w.heap.size + 1 := fun k hk => by have := (HO5.out.lt k hk).1; omega
    exact bodyPost_ret (v := .agg #[.int .i64 st, .slice e5 xs.length f5]) (by simp [results, Tryz.results211, go_sem, z0, z1]) rfl ⟨_, rfl, (((HO5.out.oth hn).oth hn).base (by omega)), ((HB2.out.trans (HB5.out.mono HB2.out.size)).setCell (p := ⟨w.heap.size + 1, 0, none⟩) (Nat.le_succ _) _).setCell (p := ⟨w.heap.size + 1, 1, none⟩) (Nat.le_succ _) _⟩
def CpP (x : Lgt) (w : World) (e : Ending) (w' : World) : Prop := ∃ v', e = .returned (.agg #[.int .i64 x.id, .int .i64 x.st, v', .int .i64 x.fi, .int .i64 x.ct]) ∧ OwR w' w.heap.size v' x.fb ∧ Below w.heap.size w w'
set_option maxHeartbeats 6400000 in
theorem l9Copy_any (x : Lgt) (v : Value) (w : World) (h : Rd w v x.fb) (hl : x.fb.length ≤ 900000) :
    Calls Tryz.prog 193 #[.agg #[.int .i64 x.id, .int .i64 x.st, v, .int .i64 x.fi, .int .i64 x.ct]] w (CpP x w) := by
  obtain ⟨NP, hNP⟩ : ∃ NP, NP = CpP x w := ⟨_, rfl⟩
  rw [← hNP]
  have HOW := Lib.hid (fun w' (hb : Below w.heap.size w w') => l4Own_any x.st v x.fb w' (h.belowAll hb) hl)
  obtain ⟨ax, cx, nx, HNX, rfl, -, -, -⟩ := h.opn
  have b1 := (Below.refl w.heap.size w).alloc (Nat.le_refl _) (.cells #[.int .i64 x.id, .int .i64 x.st, .slice ax nx cx, .int .i64 x.fi, .int .i64 x.ct] 94)
  have b2 := b1.alloc b1.size (.cells #[.int .i64 0, .int .i64 0, .slice none 0 0, .int .i64 0, .int .i64 0] 94)
  have HB2 := Lib.hid b2
  have HX1 := Lib.hid (show ((w.alloc (.cells #[.int .i64 x.id, .int .i64 x.st, .slice ax nx cx, .int .i64 x.fi, .int .i64 x.ct] 94)).alloc (.cells #[.int .i64 0, .int .i64 0, .slice none 0 0, .int .i64 0, .int .i64 0] 94)).heap[w.heap.size]? = some (.cells #[.int .i64 x.id, .int .i64 x.st, .slice ax nx cx, .int .i64 x.fi, .int .i64 x.ct] 94 (0, 0)) from (heap_alloc_old _ _ (by simp)).trans (heap_alloc_new w _))
  have HX2 := Lib.hid (show ((w.alloc (.cells #[.int .i64 x.id, .int .i64 x.st, .slice ax nx cx, .int .i64 x.fi, .int .i64 x.ct] 94)).alloc (.cells #[.int .i64 0, .int .i64 0, .slice none 0 0, .int .i64 0, .int .i64 0] 94)).heap[w.heap.size + 1]? = some (.cells #[.int .i64 0, .int .i64 0, .slice none 0 0, .int .i64 0, .int .i64 0] 94 (0, 0)) from by have := heap_alloc_new (w.alloc (.cells #[.int .i64 x.id, .int .i64 x.st, .slice ax nx cx, .int .i64 x.fi, .int .i64 x.ct] 94)) (.cells #[.int .i64 0, .int .i64 0, .slice none 0 0, .int .i64 0, .int .i64 0] 94); simpa using this)
  have HZ2 := Lib.hid (show ((w.alloc (.cells #[.int .i64 x.id, .int .i64 x.st, .slice ax nx cx, .int .i64 x.fi, .int .i64 x.ct] 94)).alloc (.cells #[.int .i64 0, .int .i64 0, .slice none 0 0, .int .i64 0, .int .i64 0] 94)).heap.size = w.heap.size + 2 by simp)
  clear b1 b2 h
  go_enter Tryz.func193, Tryz.ntmps193
  go_upto_region 1 with fail
  generalize ((w.alloc (.cells #[.int .i64 x.id, .int .i64 x.st, .slice ax nx cx, .int .i64 x.fi, .int .i64 x.ct] 94)).alloc (.cells #[.int .i64 0, .int .i64 0, .slice none 0 0, .int .i64 0, .int .i64 0] 94)) = w2 at *
  have hlt1 : w.heap.size < w2.heap.size := by have := HZ2.out; omega
  have HS := Lib.hid (fun (w' : World) (hb : Below w2.heap.size w2 w') => show w'.cell? ⟨w.heap.size, 0, none⟩ = some (.int .i64 x.id) ∧ w'.cell? ⟨w.heap.size, 1, none⟩ = some (.int .i64 x.st) ∧ w'.cell? ⟨w.heap.size, 2, none⟩ = some (.slice ax nx cx) ∧ w'.cell? ⟨w.heap.size, 3, none⟩ = some (.int .i64 x.fi) ∧ w'.cell? ⟨w.heap.size, 4, none⟩ = some (.int .i64 x.ct) from
    ⟨(hb.cell (p := ⟨w.heap.size, 0, none⟩) hlt1).trans (blkc HX1.out rfl), (hb.cell (p := ⟨w.heap.size, 1, none⟩) hlt1).trans (blkc HX1.out rfl), (hb.cell (p := ⟨w.heap.size, 2, none⟩) hlt1).trans (blkc HX1.out rfl), (hb.cell (p := ⟨w.heap.size, 3, none⟩) hlt1).trans (blkc HX1.out rfl), (hb.cell (p := ⟨w.heap.size, 4, none⟩) hlt1).trans (blkc HX1.out rfl)⟩)
  have HST := Lib.hid (fun (w' : World) (hb : Below w2.heap.size w2 w') (a0 a1 a2 a3 a4 : Value) => show (((((w'.setCell ⟨w.heap.size + 1, 0, none⟩ a0).setCell ⟨w.heap.size + 1, 1, none⟩ a1).setCell ⟨w.heap.size + 1, 2, none⟩ a2).setCell ⟨w.heap.size + 1, 3, none⟩ a3).setCell ⟨w.heap.size + 1, 4, none⟩ a4).cell? ⟨w.heap.size, 0, none⟩ = some (.int .i64 x.id) ∧ (((((w'.setCell ⟨w.heap.size + 1, 0, none⟩ a0).setCell ⟨w.heap.size + 1, 1, none⟩ a1).setCell ⟨w.heap.size + 1, 2, none⟩ a2).setCell ⟨w.heap.size + 1, 3, none⟩ a3).setCell ⟨w.heap.size + 1, 4, none⟩ a4).cell? ⟨w.heap.size, 1, none⟩ = some (.int .i64 x.st) ∧ (((((w'.setCell ⟨w.heap.size + 1, 0, none⟩ a0).setCell ⟨w.heap.size + 1, 1, none⟩ a1).setCell ⟨w.heap.size + 1, 2, none⟩ a2).setCell ⟨w.heap.size + 1, 3, none⟩ a3).setCell ⟨w.heap.size + 1, 4, none⟩ a4).cell? ⟨w.heap.size, 2, none⟩ = some (.slice ax nx cx) ∧ (((((w'.setCell ⟨w.heap.size + 1, 0, none⟩ a0).setCell ⟨w.heap.size + 1, 1, none⟩ a1).setCell ⟨w.heap.size + 1, 2, none⟩ a2).setCell ⟨w.heap.size + 1, 3, none⟩ a3).setCell ⟨w.heap.size + 1, 4, none⟩ a4).cell? ⟨w.heap.size, 3, none⟩ = some (.int .i64 x.fi) ∧ (((((w'.setCell ⟨w.heap.size + 1, 0, none⟩ a0).setCell ⟨w.heap.size + 1, 1, none⟩ a1).setCell ⟨w.heap.size + 1, 2, none⟩ a2).setCell ⟨w.heap.size + 1, 3, none⟩ a3).setCell ⟨w.heap.size + 1, 4, none⟩ a4).cell? ⟨w.heap.size, 4, none⟩ = some (.int .i64 x.ct) from by
    obtain ⟨h1, h2, h3, h4, h5⟩ := HS.out w' hb
    refine ⟨?_, ?_, ?_, ?_, ?_⟩
    · rw [World.cell?_setCell_other _ _ _ _ (by simp), World.cell?_setCell_other _ _ _ _ (by simp), World.cell?_setCell_other _ _ _ _ (by simp), World.cell?_setCell_other _ _ _ _ (by simp), World.cell?_setCell_other _ _ _ _ (by simp)]; exact h1
    · rw [World.cell?_setCell_other _ _ _ _ (by simp), World.cell?_setCell_other _ _ _ _ (by simp), World.cell?_setCell_other _ _ _ _ (by simp), World.cell?_setCell_other _ _ _ _ (by simp), World.cell?_setCell_other _ _ _ _ (by simp)]; exact h2
    · rw [World.cell?_setCell_other _ _ _ _ (by simp), World.cell?_setCell_other _ _ _ _ (by simp), World.cell?_setCell_other _ _ _ _ (by simp), World.cell?_setCell_other _ _ _ _ (by simp), World.cell?_setCell_other _ _ _ _ (by simp)]; exact h3
    · rw [World.cell?_setCell_other _ _ _ _ (by simp), World.cell?_setCell_other _ _ _ _ (by simp), World.cell?_setCell_other _ _ _ _ (by simp), World.cell?_setCell_other _ _ _ _ (by simp), World.cell?_setCell_other _ _ _ _ (by simp)]; exact h4
    · rw [World.cell?_setCell_other _ _ _ _ (by simp), World.cell?_setCell_other _ _ _ _ (by simp), World.cell?_setCell_other _ _ _ _ (by simp), World.cell?_setCell_other _ _ _ _ (by simp), World.cell?_setCell_other _ _ _ _ (by simp)]; exact h5)
  have hb0 := (Below.refl w2.heap.size w2).drew
  have HO2 := Lib.hid (HOW.out w2.drew (HB2.out.trans (hb0.mono HB2.out.size)))
  go_region_held3 (fun w' => w'.cell? ⟨w.heap.size, 0, none⟩ = some (.int .i64 x.id) ∧ w'.cell? ⟨w.heap.size, 1, none⟩ = some (.int .i64 x.st) ∧ w'.cell? ⟨w.heap.size, 2, none⟩ = some (.slice ax nx cx) ∧ w'.cell? ⟨w.heap.size, 3, none⟩ = some (.int .i64 x.fi) ∧ w'.cell? ⟨w.heap.size, 4, none⟩ = some (.int .i64 x.ct))
    (first | exact HS.out _ hb0 | exact HS.out _ B5 | exact HST.out _ B5 _ _ _ _ _)
    (first
      | (go_at_call 211; (with_reducible refine HO2.out.mono ?_); rintro e w5 ⟨v5, rfl, o5, b5⟩; (obtain ⟨e5, f5, rfl⟩ := row_form0 o5); (have B5 : Below w2.heap.size w2 w5 := hb0.trans (b5.mono hb0.size)); (have x10 := kept_o' HX2.out B5); (have z0 := blkc x10 (show _ = some (Value.int .i64 0) from rfl) (j := 0)); (have f0 : w5.frozen? ⟨w.heap.size + 1, 0, none⟩ = false := (by simp only [World.frozen?, x10]; rfl)); (have z1 := blkc x10 (show _ = some (Value.int .i64 0) from rfl) (j := 1)); (have f1 : w5.frozen? ⟨w.heap.size + 1, 1, none⟩ = false := (by simp only [World.frozen?, x10]; rfl)); (have z2 := blkc x10 (show _ = some (Value.slice none 0 0) from rfl) (j := 2)); (have f2 : w5.frozen? ⟨w.heap.size + 1, 2, none⟩ = false := (by simp only [World.frozen?, x10]; rfl)); (have z3 := blkc x10 (show _ = some (Value.int .i64 0) from rfl) (j := 3)); (have f3 : w5.frozen? ⟨w.heap.size + 1, 3, none⟩ = false := (by simp only [World.frozen?, x10]; rfl)); (have z4 := blkc x10 (show _ = some (Value.int .i64 0) from rfl) (j := 4)); (have f4 : w5.frozen? ⟨w.heap.size + 1, 4, none⟩ = false := (by simp only [World.frozen?, x10]; rfl))))
  all_goals
    have HB5 := Lib.hid B5
    have HO5 := Lib.hid (show OwR w5 w2.heap.size _ x.fb from o5)
    clear b5 o5 B5
    go_wp2_with fail
    subst hNP
    have hz := HZ2.out
    have hn : ∀ k, (Value.slice e5 x.fb.length f5).ownBlock = some k → k ≠ w.heap.size + 1 := fun k hk => by have := (HO5.out.lt k hk).1; omega
    exact bodyPost_ret (v := .agg #[.int .i64 x.id, .int .i64 x.st, .slice e5 x.fb.length f5, .int .i64 x.fi, .int .i64 x.ct]) (by simp [results, Tryz.results193, go_sem, z0, z1, z2, z3, z4]) rfl ⟨_, rfl, ((((((HO5.out.oth hn).oth hn).oth hn).oth hn).oth hn).base (by omega)), ((((((HB2.out.trans (HB5.out.mono HB2.out.size)).setCell (p := ⟨w.heap.size + 1, 0, none⟩) (Nat.le_succ _) _).setCell (p := ⟨w.heap.size + 1, 1, none⟩) (Nat.le_succ _) _).setCell (p := ⟨w.heap.size + 1, 2, none⟩) (Nat.le_succ _) _).setCell (p := ⟨w.heap.size + 1, 3, none⟩) (Nat.le_succ _) _).setCell (p := ⟨w.heap.size + 1, 4, none⟩) (Nat.le_succ _) _)⟩
end Go.Proofs.YtmkkdenhjfjmgaaGreat
namespace Go.Proofs.YtmkkdenhjfjmgaaGreat
open Go.RowKit Go.Sort
set_option maxRecDepth 100000

set_option maxHeartbeats 3200000 in
theorem l9UsedA_any (v : Value) (p : Pln) (f : Int) (w : World) (h : PlnR w v p) :
    Calls Tryz.prog 191 #[v, .int .i64 f] w fun e w' => ∃ m : Int, e = .returned (.int .i64 m) ∧ Below w.heap.size w w' := by
  obtain ⟨u1, u2, u3, rfl, r1, r2, r3, hsm⟩ := h
  have hnet : NetR w (.agg #[u1, u2]) p.n := ⟨u1, u2, rfl, r1, r2, hsm⟩
  obtain ⟨⟨a1, m1, c1, rfl⟩, a2, m2, c2, rfl⟩ := slice_of_net hnet
  obtain ⟨a3, m3, c3, rfl, HN3, hc3, hm3, ha3⟩ := lgt_opn r3
  have HA := Lib.hid ha3
  clear ha3 r1 r2 r3 hsm hnet
  obtain ⟨bx, bc, blt, -⟩ := box_facts w #[.slice a1 m1 c1, .slice a2 m2 c2, .slice a3 m3 c3] 38
  have q2 := bc 2 _ rfl
  have HBX := Lib.hid bx
  clear bx bc
  go_enter Tryz.func191, Tryz.ntmps191
  go_wp2_with fail
  generalize w.alloc (.cells #[.slice a1 m1 c1, .slice a2 m2 c2, .slice a3 m3 c3] 38) = w1 at *
  go_loopw [5, 6] (fun s5 i wr => ∃ (k : Nat) (m : Int), k ≤ m3 ∧ i = .int .i64 k ∧ s5 = .int .i64 m ∧ Hid (Below w1.heap.size w1 wr)) (fun _ i _ => m3 - (intOf i).toNat)
  case atStart => exact ⟨0, 0, Nat.zero_le _, rfl, rfl, Below.refl _ _⟩
  case round =>
    obtain ⟨k, m, hk, rfl, rfl, HB⟩ := hrel
    have t2 := (HB.out.cell (p := ⟨w.heap.size, 2, none⟩) blt).trans q2
    have HBW := Lib.hid (HBX.out.trans (HB.out.mono HBX.out.size))
    by_cases hlt : k < m3
    · have hltI : (k : Int) < (m3 : Int) := by omega
      have hwk : IntKind.i64.wrap ((k : Int) + 1) = (k : Int) + 1 := IntWalk.i64_in _ (by omega)
      obtain ⟨b, off, rfl, hbs, hcs⟩ := HA.out (by omega)
      obtain ⟨u, x0, x1, x2, x3, x4, hxu⟩ := hcs k hlt
      have y2 := (HBW.out.cell (p := ⟨b, off + k * 5 + 2, none⟩) hbs).trans x2
      have y3 := (HBW.out.cell (p := ⟨b, off + k * 5 + 3, none⟩) hbs).trans x3
      have y4 := (HBW.out.cell (p := ⟨b, off + k * 5 + 4, none⟩) hbs).trans x4
      have HS := Lib.hid (l1Has_any u (p.ls[k]?.getD nilL).fb f wr (hxu.belowAll HBW.out))
      generalize p.ls[k]?.getD nilL = x at *
      cases hc : x.fb.contains f
      · rw [hc] at HS
        clear hc
        go_wp2_with (first | (go_at_call 97; refine HS.out.mono ?_; rintro e w5 ⟨rfl, rfl⟩))
        go_roundw
        case rel => exact ⟨k + 1, m, by omega, by go_num, rfl, HB.out⟩
        case measure => simp [intOf]; omega
      · rw [hc] at HS
        clear hc
        go_wp2_with (first | (go_at_call 97; refine HS.out.mono ?_; rintro e w5 ⟨rfl, rfl⟩) | (go_at_call 189; refine (l8BitsA_any _ _ _).mono ?_; rintro e w6 ⟨m6, rfl, b6⟩))
        have HB6 := Lib.hid (HB.out.trans (b6.mono HB.out.size))
        go_roundw
        case rel => exact ⟨k + 1, _, by omega, by go_num, rfl, HB6.out⟩
        case measure => simp [intOf]; omega
    · have hltI : ¬ (k : Int) < (m3 : Int) := by omega
      go_wp2_with fail
      go_ret
      exact ⟨⟨_, rfl⟩, HBW.out⟩
set_option maxHeartbeats 3200000 in
theorem l9AlongA_any (v vf : Value) (p : Pln) (st : Int) (fb : List Int) (w : World) (h : PlnR w v p) (hf : Rd w vf fb) :
    Calls Tryz.prog 158 #[v, .agg #[.int .i64 st, vf]] w fun e w' => ∃ m : Int, e = .returned (.int .i64 m) ∧ Below w.heap.size w w' := by
  have HU := Lib.hid (fun f w' (hb : Below w.heap.size w w') => l9UsedA_any v p f w' (h.behind hb))
  obtain ⟨u1, u2, u3, rfl, r1, r2, r3, hsm⟩ := h
  have hnet : NetR w (.agg #[u1, u2]) p.n := ⟨u1, u2, rfl, r1, r2, hsm⟩
  obtain ⟨⟨a1, m1, c1, rfl⟩, a2, m2, c2, rfl⟩ := slice_of_net hnet
  obtain ⟨a3, m3, c3, rfl, HN3, hc3, hm3, -⟩ := lgt_opn r3
  obtain ⟨af, cf, nf, HNF, rfl, hcf, hnf, haf⟩ := hf.opn
  have HA := Lib.hid haf
  clear haf r1 r2 r3 hsm hnet hf
  obtain ⟨bx, bc, blt, -⟩ := box_facts w #[.slice a1 m1 c1, .slice a2 m2 c2, .slice a3 m3 c3] 38
  have q0 := bc 0 _ rfl
  have q1 := bc 1 _ rfl
  have q2 := bc 2 _ rfl
  have HBX := Lib.hid bx
  clear bx bc
  generalize hw1 : w.alloc (.cells #[.slice a1 m1 c1, .slice a2 m2 c2, .slice a3 m3 c3] 38) = w1 at *
  have hz1 : w1.heap.size = w.heap.size + 1 := by rw [← hw1]; simp
  obtain ⟨bx, bc, blt3, -⟩ := box_facts w1 #[.int .i64 st, .slice af nf cf] 90
  have p1 := bc 1 _ rfl
  have q0 := (bx.cell (p := ⟨w.heap.size, 0, none⟩) blt).trans q0
  have q1 := (bx.cell (p := ⟨w.heap.size, 1, none⟩) blt).trans q1
  have q2 := (bx.cell (p := ⟨w.heap.size, 2, none⟩) blt).trans q2
  have HBY := Lib.hid (HBX.out.trans (bx.mono HBX.out.size))
  have hbl : w.heap.size < (w1.alloc (.cells #[.int .i64 st, .slice af nf cf] 90)).heap.size := by simp; omega
  clear bx bc
  go_enter Tryz.func158, Tryz.ntmps158
  go_wp2_with fail
  generalize w1.alloc (.cells #[.int .i64 st, .slice af nf cf] 90) = w2 at *
  rw [hz1] at blt3 p1
  clear hw1
  go_loopw [5, 6] (fun s5 i wr => ∃ (k : Nat) (m : Int), k ≤ nf ∧ i = .int .i64 k ∧ s5 = .int .i64 m ∧ Hid (Below w2.heap.size w2 wr)) (fun _ i _ => nf - (intOf i).toNat)
  case atStart => exact ⟨0, 0, Nat.zero_le _, rfl, rfl, Below.refl _ _⟩
  case round =>
    obtain ⟨k, m, hk, rfl, rfl, HB⟩ := hrel
    have t0 := (HB.out.cell (p := ⟨w.heap.size, 0, none⟩) hbl).trans q0
    have t1 := (HB.out.cell (p := ⟨w.heap.size, 1, none⟩) hbl).trans q1
    have t2 := (HB.out.cell (p := ⟨w.heap.size, 2, none⟩) hbl).trans q2
    have s1 := (HB.out.cell (p := ⟨w.heap.size + 1, 1, none⟩) blt3).trans p1
    have HBW := Lib.hid (HBY.out.trans (HB.out.mono HBY.out.size))
    by_cases hlt : k < nf
    · have hltI : (k : Int) < (nf : Int) := by omega
      have hwk : IntKind.i64.wrap ((k : Int) + 1) = (k : Int) + 1 := IntWalk.i64_in _ (by omega)
      obtain ⟨b, off, rfl, hcs⟩ := HA.out (by omega)
      obtain ⟨hbs, hcs⟩ := hcs
      have hb2 := (HBW.out.size)
      have hkl : w.heap.size < wr.heap.size := Nat.lt_of_lt_of_le hbl HB.out.size
      have x1 := (HBW.out.cell (p := ⟨b, off + k, none⟩) hbs).trans (hcs k hlt)
      generalize fb[k]?.getD 0 = f at *
      have HS := Lib.hid (fun (w' : World) (hb : Below wr.heap.size wr w') => show Below wr.heap.size wr w' ∧ w'.cell? ⟨w.heap.size, 0, none⟩ = some (.slice a1 m1 c1) ∧ w'.cell? ⟨w.heap.size, 1, none⟩ = some (.slice a2 m2 c2) ∧ w'.cell? ⟨w.heap.size, 2, none⟩ = some (.slice a3 m3 c3) ∧ w'.cell? ⟨w.heap.size + 1, 1, none⟩ = some (.slice (some ⟨b, off, none⟩) nf cf) ∧ w'.cell? ⟨b, off + k, none⟩ = some (.int .i64 f) from
        ⟨hb, (hb.cell (p := ⟨w.heap.size, 0, none⟩) hkl).trans t0, (hb.cell (p := ⟨w.heap.size, 1, none⟩) hkl).trans t1, (hb.cell (p := ⟨w.heap.size, 2, none⟩) hkl).trans t2, (hb.cell (p := ⟨w.heap.size + 1, 1, none⟩) (Nat.lt_of_lt_of_le blt3 HB.out.size)).trans s1, (hb.cell (p := ⟨b, off + k, none⟩) (Nat.lt_of_lt_of_le hbs HBW.out.size)).trans x1⟩)
      have HUR := Lib.hid (fun w' (hb : Below wr.heap.size wr w') => HU.out f w' (HBW.out.trans (hb.mono HBW.out.size)))
      have hb0 := (Below.refl wr.heap.size wr).drew
      go_wp2_with fail
      clear t0 t1 t2 s1 x1 hcs
      go_region_held3 (fun w' => Below wr.heap.size wr w' ∧ w'.cell? ⟨w.heap.size, 0, none⟩ = some (.slice a1 m1 c1) ∧ w'.cell? ⟨w.heap.size, 1, none⟩ = some (.slice a2 m2 c2) ∧ w'.cell? ⟨w.heap.size, 2, none⟩ = some (.slice a3 m3 c3) ∧ w'.cell? ⟨w.heap.size + 1, 1, none⟩ = some (.slice (some ⟨b, off, none⟩) nf cf) ∧ w'.cell? ⟨b, off + k, none⟩ = some (.int .i64 f))
        (first | exact HS.out _ (by assumption))
        (first | (go_at_call 191; (with_reducible refine (HUR.out _ hb0).mono ?_); rintro e w7 ⟨m7, rfl, b7⟩; have B7 := hb0.trans (b7.mono hb0.size)))
      all_goals
        have HB7 := Lib.hid (HB.out.trans (B7.mono HB.out.size))
        clear b7 B7
        go_wp2_with fail
        go_roundw
        case rel => exact ⟨k + 1, _, by omega, by go_num, rfl, HB7.out⟩
        case measure => simp [intOf]; omega
    · have hltI : ¬ (k : Int) < (nf : Int) := by omega
      go_wp2_with fail
      go_ret
      exact ⟨⟨_, rfl⟩, HBW.out⟩
end Go.Proofs.YtmkkdenhjfjmgaaGreat
namespace Go.Proofs.YtmkkdenhjfjmgaaGreat
open Go.RowKit Go.Sort
set_option maxRecDepth 100000

/-- The cells of lights, each with the value of its fibers. -/
def ltc (ps : List (Lgt × Value)) : List Value := ps.flatMap fun p => [.int .i64 p.1.id, .int .i64 p.1.st, p.2, .int .i64 p.1.fi, .int .i64 p.1.ct]
theorem ltc_len (ps : List (Lgt × Value)) : (ltc ps).length = ps.length * 5 := by
  unfold ltc
  induction ps with
  | nil => rfl
  | cons p ps ih => rw [List.flatMap_cons, List.length_append, ih, List.length_cons]; simp; omega
theorem ltc_app (a b : List (Lgt × Value)) : ltc (a ++ b) = ltc a ++ ltc b := by unfold ltc; rw [List.flatMap_append]
/-- A row of lights of the call's own; the rows of fibers read, and lie elsewhere. -/
structure LtRow (w : World) (base : Nat) (v : Value) (ps : List (Lgt × Value)) : Prop where
  row : w.ownsRow base 94 5 v ps.length (ltc ps)
  els : ∀ p ∈ ps, OwR w base p.2 p.1.fb ∧ p.1.fb.length ≤ 1000 ∧ Apt p.2 v
theorem LtRow.kept {w w' : World} {base : Nat} {v : Value} {ps : List (Lgt × Value)} (h : LtRow w base v ps) (hk : ∀ g, base ≤ g → g < w.heap.size → w'.heap[g]? = w.heap[g]?) : LtRow w' base v ps :=
  ⟨row_kept0 h.row fun g hg => hk g (h.row.lt g hg).1 (h.row.lt g hg).2, fun p hp => ⟨(h.els p hp).1.kept fun g hg => hk g ((h.els p hp).1.lt g hg).1 ((h.els p hp).1.lt g hg).2, (h.els p hp).2⟩⟩
theorem LtRow.below {w w' : World} {base : Nat} {v : Value} {ps : List (Lgt × Value)} (h : LtRow w base v ps) (hb : Below w.heap.size w w') : LtRow w' base v ps := h.kept fun g _ hg => hb.block g hg
theorem LtRow.cs {w1 w2 : World} {base B K : Nat} {c v : Value} {ps : List (Lgt × Value)} (h : LtRow w1 base v ps) (hB : B < base) (hc : CS w1 B c K w2) : LtRow w2 base v ps :=
  h.kept fun g h1 h2 => hc.2.2.block g h2 fun e => by have := Option.some.inj e; omega
theorem LtRow.base {w : World} {b b' : Nat} {v : Value} {ps : List (Lgt × Value)} (h : LtRow w b v ps) (hb : b' ≤ b) : LtRow w b' v ps :=
  ⟨⟨h.row.1, h.row.2.imp id fun ⟨g, cap, cur, k1, k2, k3⟩ => ⟨g, cap, cur, k1, Nat.le_trans hb k2, k3⟩⟩, fun p hp => ⟨(h.els p hp).1.base hb, (h.els p hp).2⟩⟩
theorem ltc_at (ps : List (Lgt × Value)) (i r : Nat) (hr : r < 5) : (ltc ps)[i * 5 + r]? = (ps[i]?).bind fun p => [Value.int .i64 p.1.id, .int .i64 p.1.st, p.2, .int .i64 p.1.fi, .int .i64 p.1.ct][r]? := by
  unfold ltc
  induction ps generalizing i with
  | nil => simp
  | cons p ps ih =>
    rw [List.flatMap_cons]
    cases i with
    | zero => rw [Nat.zero_mul, Nat.zero_add, List.getElem?_append_left (by simp; omega)]; rfl
    | succ i =>
      rw [List.getElem?_append_right (by simp; omega)]
      have : (i + 1) * 5 + r - [Value.int .i64 p.1.id, .int .i64 p.1.st, p.2, .int .i64 p.1.fi, .int .i64 p.1.ct].length = i * 5 + r := by simp; omega
      rw [this, ih]; rfl
theorem LtRow.rd {w : World} {base : Nat} {v : Value} {ps : List (Lgt × Value)} (h : LtRow w base v ps) : Rdt w (rws 5 lgtD (ps.map Prod.fst)) v := by
  have hl := h.row.1
  rcases h.row.2 with ⟨rfl, h0⟩ | ⟨g, cap, cur, rfl, q1, q2, q3, q4, q5, q6⟩
  · have : ps = [] := List.eq_nil_of_length_eq_zero h0
    subst this
    exact .nil 5
  · have hcells := World.ownsRow.cells h.row (g := g) rfl
    have hlen : ((ps.map Prod.fst).flatMap lgtD).length = ps.length * 5 := by rw [rws_len (m := 5) (fun _ => rfl)]; simp
    refine .mk (us := ltc ps) hlen (by rw [ltc_len]; exact hlen.symm) q3 q4 (Array.getElem?_eq_some_iff.1 q2).1 (fun j u hj => ?_) (fun j d u h1 h2 => ?_)
    · have := hcells j u hj
      rwa [addr_add] at this
    · have hj : j < ps.length * 5 := by rw [← ltc_len]; exact (List.getElem?_eq_some_iff.1 h2).1
      obtain ⟨i, r, hr, rfl⟩ : ∃ i r, r < 5 ∧ j = i * 5 + r := ⟨j / 5, j % 5, by omega, by omega⟩
      have hi : i < ps.length := by omega
      rw [ltc_at ps i r hr, List.getElem?_eq_getElem hi] at h2
      rw [flat_at (show ∀ z, (lgtD z).length = 5 from fun _ => rfl) _ i r hr, List.getElem?_map, List.getElem?_eq_getElem hi] at h1
      have he := h.els _ (List.getElem_mem hi)
      generalize ps[i] = p at *
      match r, hr with
      | 0, _ => simp [lgtD] at h1 h2; subst h1; subst h2; exact .leaf _
      | 1, _ => simp [lgtD] at h1 h2; subst h1; subst h2; exact .leaf _
      | 2, _ => simp [lgtD] at h1 h2; subst h1; subst h2; exact (Own.odt he.1.own).rd
      | 3, _ => simp [lgtD] at h1 h2; subst h1; subst h2; exact .leaf _
      | 4, _ => simp [lgtD] at h1 h2; subst h1; subst h2; exact .leaf _
end Go.Proofs.YtmkkdenhjfjmgaaGreat
