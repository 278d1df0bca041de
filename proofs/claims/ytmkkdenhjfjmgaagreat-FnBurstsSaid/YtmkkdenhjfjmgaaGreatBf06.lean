/- Joined: XDra XRow XPlnP. -/
import Derived.Test.YtmkkdenhjfjmgaaGreatBf01
import Derived.Test.YtmkkdenhjfjmgaaGreatBf03
import Derived.Test.YtmkkdenhjfjmgaaGreatBf05
import Derived.Lib.QuietBelow
import Derived.Test.YtmkkdenhjfjmgaaGreatBf04
namespace Go.Proofs.YtmkkdenhjfjmgaaGreat
open Go.RowKit Go.Sort
set_option maxRecDepth 100000

theorem Tryz.infoFib : (Tryz.prog.info? 148).map (fun i => (i.zero, i.size, i.bytes)) = some (some (.agg #[.int .i64 0, .int .i64 0, .int .i64 0, .int .i64 0]), 4, 32) := by kernel_rfl
/-- The cells of a list of fibers. -/
def fbs (fs : List Fib) : List Value := fs.flatMap fibE
theorem fbs_len (fs : List Fib) : (fbs fs).length = fs.length * 4 := by
  unfold fbs
  induction fs with
  | nil => rfl
  | cons f fs ih => rw [List.flatMap_cons, List.length_append, ih, List.length_cons]; simp [fibE]; omega
theorem fbs_app (a b : List Fib) : fbs (a ++ b) = fbs a ++ fbs b := by unfold fbs; rw [List.flatMap_append]
theorem fbs_one {fs : List Fib} : ∀ u ∈ fbs fs, u.oneCell' = true := fun u hu => by
  unfold fbs at hu
  obtain ⟨f, -, h⟩ := List.mem_flatMap.1 hu
  simp [fibE] at h
  rcases h with rfl | rfl | rfl | rfl <;> rfl
theorem fbs_drop (fs : List Fib) (k : Nat) : fbs (fs.drop k) = (fbs fs).drop (k * 4) := by
  by_cases hk : k ≤ fs.length
  · have h : fbs fs = fbs (fs.take k) ++ fbs (fs.drop k) := by rw [← fbs_app, List.take_append_drop]
    have hl : (fbs (fs.take k)).length = k * 4 := by rw [fbs_len, List.length_take]; omega
    rw [h, List.drop_left' hl]
  · rw [List.drop_of_length_le (by omega), List.drop_of_length_le (by rw [fbs_len]; omega)]; rfl
theorem fbs_take (fs : List Fib) (k : Nat) : fbs (fs.take k) = (fbs fs).take (k * 4) := by
  by_cases hk : k ≤ fs.length
  · have h : fbs fs = fbs (fs.take k) ++ fbs (fs.drop k) := by rw [← fbs_app, List.take_append_drop]
    have hl : (fbs (fs.take k)).length = k * 4 := by rw [fbs_len, List.length_take]; omega
    rw [h, List.take_left' hl]
  · rw [List.take_of_length_le (by omega), List.take_of_length_le (by rw [fbs_len]; omega)]
theorem fbs_cell {w : World} {b off n : Nat} {fs : List Fib} (h : ∀ i, i < n → ∀ r u, (fibE (fs[i]?.getD nilB))[r]? = some u → w.cell? ⟨b, off + i * 4 + r, none⟩ = some u) (hn : fs.length = n) : ∀ j u, (fbs fs)[j]? = some u → w.cell? ⟨b, off + j, none⟩ = some u := fun j u hj => by
  have hl : j < n * 4 := by have := (List.getElem?_eq_some_iff.1 hj).1; rw [fbs_len] at this; omega
  obtain ⟨i, r, hr, rfl⟩ : ∃ i r, r < 4 ∧ j = i * 4 + r := ⟨j / 4, j % 4, by omega, by omega⟩
  have hi : i < fs.length := by omega
  have h1 : fbs (fs.drop i) = fibE (fs[i]?.getD nilB) ++ fbs (fs.drop (i + 1)) := by
    rw [List.drop_eq_getElem_cons hi, List.getElem?_eq_getElem hi]; rfl
  rw [← List.getElem?_drop, ← fbs_drop, h1, List.getElem?_append_left (by simp [fibE]; omega)] at hj
  have := h i (by omega) r u hj
  rwa [Nat.add_assoc] at this
/-- append of a part of a row of structs that may be empty to an own row. -/
theorem wpList_catG {P : Program} {ops : Array Oper} {rest : List Oper} {o : Oper} {a : Act} {Q : Exit → Act → World → Prop} {w : World} (hgd : o.guard = none) (s x : Operand) (T e : TypeId)
    (ho : o.op = .call { callee := .builtin .append, args := #[s, x], argTypes := #[T, T] }) (ht : P.underlying T = some (.slice e)) (z : Value) (size bytes : Nat)
    (hinfo : (P.info? e).map (fun i => (i.zero, i.size, i.bytes)) = some (some z, size, bytes)) (hzs : z.cells.size = size) (hsz : 0 < size)
    (base : Nat) (v : Value) (n : Nat) (xs : List Value) (hs : a.eval s = v) (hown : w.ownsRow base e size v n xs)
    (ao : Option Addr) (m c : Nat) (ys : List Value) (hx : a.eval x = .slice ao m c) (hm : ys.length = m * size) (hy : ao = none → m = 0 ∧ c = 0) (hc : ∀ ad, ao = some ad → ∀ j u, ys[j]? = some u → w.cell? (ad.add j) = some u) (h1 : ∀ u ∈ ys, u.oneCell' = true) (hn : n + m ≤ maxLen) (hby : (n + m) * bytes ≤ 140737488355328) (hbase : base ≤ w.heap.size)
    (h : ∀ v' w', w'.ownsRow base e size v' (n + m) (xs ++ ys) → w.grownBy w' v.ownBlock → (v'.ownBlock = v.ownBlock ∨ v'.ownBlock = some w.heap.size) → wpList P ops Q rest (a.put o.dst v') w') :
    wpList P ops Q (o :: rest) a w := by
  obtain ⟨i0, hi, hz0, hz1, hz2⟩ := info_parts hinfo
  rcases ao with _ | ad
  · obtain ⟨rfl, rfl⟩ := hy rfl
    have : ys = [] := List.eq_nil_of_length_eq_zero (by simpa using hm)
    subst this
    refine wpList_append_own_none hgd s x T ho base e i0 size ht hi v n xs hs hown hx ?_
    exact h v w (by simpa using hown) ⟨rfl, rfl, rfl, Nat.le_refl _, fun _ _ _ => rfl⟩ (.inl rfl)
  · refine wpList_append_own_at _ hgd s x T ho base e i0 z size bytes ht hi hz0 hz1 hz2 hzs hsz v n xs hs hown ad m c ys hx hm (hc ad rfl) h1 hn hby hbase ?_
    intro v' w' g1 g2 _ g4
    exact h v' w' g1 g2 g4
theorem addr_add (b off j : Nat) : (⟨b, off, none⟩ : Addr).add j = ⟨b, off + j, none⟩ := by unfold Addr.add; split <;> simp_all
section
variable {w : World} {X Y : Obj} {T : TypeId} {m : Nat}
theorem row_made1 : (w.drew.alloc (.cells #[] T)).ownsRow w.heap.size T m (.slice (some ⟨w.heap.size, 0, none⟩) 0 0) 0 [] := World.ownsRow_made w.drew #[] 0 (Nat.le_refl _) (Nat.zero_le _) (by simp)
theorem row_made2 : ((w.drew.alloc (.cells #[] T)).alloc X).ownsRow w.heap.size T m (.slice (some ⟨w.heap.size, 0, none⟩) 0 0) 0 [] := row_made1.alloc _
theorem row_made3 : ((w.drew.alloc X).alloc (.cells #[] T)).ownsRow w.heap.size T m (.slice (some ⟨w.heap.size + 1, 0, none⟩) 0 0) 0 [] := by
  have := World.ownsRow_made (base := w.heap.size) (e := T) (size := m) (w.drew.alloc X) #[] 0 (by simp) (Nat.zero_le _) (by simp)
  simpa using this
end
/-- An own row of fibers. -/
def FibRow (w : World) (base : Nat) (v : Value) (fs : List Fib) : Prop := w.ownsRow base 148 4 v fs.length (fbs fs)
theorem FibRow.rd {w : World} {base : Nat} {v : Value} {fs : List Fib} (h : FibRow w base v fs) : Rdt w (flt 4 fibE fs) v := by
  have hl := h.1
  rcases h.2 with ⟨rfl, h0⟩ | ⟨g, cap, cur, rfl, q1, q2, q3, q4, q5, q6⟩
  · have : fs = [] := List.eq_nil_of_length_eq_zero h0
    subst this
    exact .nil 4
  · have hcells := World.ownsRow.cells h (g := g) rfl
    refine .mk (us := fbs fs) (by rw [fltC_len (m := 4) (fun _ => rfl)]) (by rw [fbs_len, fltC_len (m := 4) (fun _ => rfl)]) q3 q4 (Array.getElem?_eq_some_iff.1 q2).1 (fun j u hj => ?_) (fun j d u h1 h2 => ?_)
    · have := hcells j u hj
      rwa [addr_add] at this
    · have : fltC fibE fs = (fbs fs).map Dt.leaf := by unfold fltC fbs; rw [List.map_flatMap]
      rw [this, List.getElem?_map, h2] at h1
      simp at h1
      rw [← h1]
      exact .leaf u
theorem FibRow.below {w w' : World} {base : Nat} {v : Value} {fs : List Fib} (h : FibRow w base v fs) (hb : Below w.heap.size w w') : FibRow w' base v fs := by
  refine ⟨h.1, ?_⟩
  rcases h.2 with q | ⟨g, cap, cur, rfl, q1, q2, q3⟩
  · exact .inl q
  · exact .inr ⟨g, cap, cur, rfl, q1, by rw [hb.block g (Array.getElem?_eq_some_iff.1 q2).1]; exact q2, q3⟩
theorem FibRow.ne {w : World} {base : Nat} {v : Value} {fs : List Fib} (h : FibRow w base v fs) (h0 : 0 < fs.length) : v ≠ .slice none 0 0 := fun e => by
  rcases h.2 with ⟨_, h1⟩ | ⟨g, cap, cur, h1, _⟩
  · omega
  · rw [e] at h1; cases h1
theorem FibRow.slice {w : World} {base : Nat} {v : Value} {fs : List Fib} (h : FibRow w base v fs) : ∃ a c n, v = .slice a n c := by
  rcases h.2 with ⟨e, _⟩ | ⟨g, cap, cur, h1, _⟩
  · exact ⟨_, _, _, e⟩
  · exact ⟨_, _, _, h1⟩
theorem take_get {xs : List Value} {k j : Nat} {u : Value} (h : (xs.take k)[j]? = some u) : xs[j]? = some u := by
  rw [List.getElem?_take] at h
  split at h
  · exact h
  · cases h
/-- What l2Put hands back: a row with one fiber more. -/
def PutF (base : Nat) (m : Nat) (w : World) (v' : Value) (w' : World) : Prop := ∃ fs' : List Fib, FibRow w' base v' fs' ∧ fs'.length = m + 1 ∧ (∀ f ∈ fs', smallF f) ∧ v' ≠ .slice none 0 0 ∧ Below base w w'
set_option maxHeartbeats 6400000 in
theorem l2Put_any (v : Value) (fs : List Fib) (f : Fib) (w : World) (h : Rdt w (flt 4 fibE fs) v) (hs : ∀ g ∈ fs, smallF g) (hf : smallF f) (hl : fs.length ≤ 1000) :
    Calls Tryz.prog 195 #[v, fibV f] w fun e w' => ∃ v', e = .returned v' ∧ PutF w.heap.size fs.length w v' w' := by
  obtain ⟨a, m, cap, rfl, HM, hmc, hm63, ha⟩ := flt_opn (m := 4) (enc := fibE) (fun _ => rfl) (by omega) nilB h
  have HA := Lib.hid ha
  have HB := Lib.hid (fun (k : Nat) w' (hk : k < fs.length) => l2Before_any (fs[k]?.getD nilB) f w' (by rw [List.getElem?_eq_getElem hk]; exact hs _ (List.getElem_mem hk)) hf)
  have HAN := Lib.hid (show (a = none ∧ m = 0 ∧ cap = 0) ∨ ∃ g off, a = some ⟨g, off, none⟩ from by
    unfold flt at h
    generalize fltC fibE fs = ds at h
    cases h with
    | nil size => exact .inl ⟨rfl, rfl, rfl⟩
    | mk => exact .inr ⟨_, _, rfl⟩)
  have HABS := Lib.hid (show ∀ b off, a = some ⟨b, off, none⟩ → b < w.heap.size ∧ Hid (∀ i, i < m → ∀ r u, (fibE (fs[i]?.getD nilB))[r]? = some u → w.cell? ⟨b, off + i * 4 + r, none⟩ = some u) from fun b off e => by
    refine ⟨?_, fun i hi => ?_⟩
    · subst e
      unfold flt at h
      generalize fltC fibE fs = ds at h
      cases h with
      | mk _ _ _ _ hb _ _ => exact hb
    · obtain ⟨b', off', e', -, hc⟩ := ha (by omega)
      rw [e] at e'
      cases e'
      exact hc i hi)
  have HS := Lib.hid hs
  have HF := Lib.hid hf
  have hm1 : m ≤ 1000 := by have := HM.out; omega
  rw [HM.out] at HB ⊢
  obtain ⟨bx, bc, blt, -⟩ := box_facts w #[.int .i64 f.a, .int .i64 f.b, .int .i64 f.l, .int .i64 f.r] 148
  have q0 := bc 0 _ rfl
  have q1 := bc 1 _ rfl
  have q2 := bc 2 _ rfl
  have q3 := bc 3 _ rfl
  have HBX := Lib.hid bx
  unfold fibV
  clear h ha hs hf bx bc
  go_enter Tryz.func195, Tryz.ntmps195
  go_wp2_with fail
  generalize w.alloc (.cells #[.int .i64 f.a, .int .i64 f.b, .int .i64 f.l, .int .i64 f.r] 148) = w1 at *
  go_loopw [5] (fun i wr => ∃ k : Nat, k ≤ m ∧ i = .int .i64 k ∧ Hid (Below w1.heap.size w1 wr)) (fun i _ => m - (intOf i).toNat)
  case atStart => exact ⟨0, Nat.zero_le _, rfl, Below.refl _ _⟩
  case round =>
    obtain ⟨k, hk, rfl, HBR⟩ := hrel
    have t0 := (HBR.out.cell (p := ⟨w.heap.size, 0, none⟩) blt).trans q0
    have t1 := (HBR.out.cell (p := ⟨w.heap.size, 1, none⟩) blt).trans q1
    have t2 := (HBR.out.cell (p := ⟨w.heap.size, 2, none⟩) blt).trans q2
    have t3 := (HBR.out.cell (p := ⟨w.heap.size, 3, none⟩) blt).trans q3
    have HBW := Lib.hid (HBX.out.trans (HBR.out.mono HBX.out.size))
    by_cases hlt : k < m
    · have hltI : (k : Int) < (m : Int) := by omega
      obtain ⟨b, off, rfl, hbs, hcs⟩ := HA.out (by omega)
      have x0 := (HBW.out.cell (p := ⟨b, off + k * 4 + 0, none⟩) hbs).trans (hcs k hlt 0 _ rfl)
      have x1 := (HBW.out.cell (p := ⟨b, off + k * 4 + 1, none⟩) hbs).trans (hcs k hlt 1 _ rfl)
      have x2 := (HBW.out.cell (p := ⟨b, off + k * 4 + 2, none⟩) hbs).trans (hcs k hlt 2 _ rfl)
      have x3 := (HBW.out.cell (p := ⟨b, off + k * 4 + 3, none⟩) hbs).trans (hcs k hlt 3 _ rfl)
      rw [Nat.add_zero] at x0
      have HK := Lib.hid (fun w' => HB.out k w' hlt)
      have HCSS := Lib.hid hcs
      clear hcs
      generalize fs[k]?.getD nilB = y at *
      obtain ⟨ya, yb, yl, yr⟩ := y
      simp only at x0 x1 x2 x3
      have j0 := rg t0
      have j1 := rg t1
      have j2 := rg t2
      have j3 := rg t3
      have i0 := rg x0
      have i1 := rg x1
      have i2 := rg x2
      have i3 := rg x3
      unfold fibV at HK
      cases hle : decide (befF ⟨ya, yb, yl, yr⟩ f ≤ 0)
      · generalize befF ⟨ya, yb, yl, yr⟩ f = r at *
        have hleI : ¬ r ≤ 0 := by simpa using hle
        go_wp2
        clear t0 t1 t2 t3 x0 x1 x2 x3
        refine wp_region_quiet_below (by kernel_rfl) (by kernel_rfl) ?_
        repeat (go_big_quiet_step (first | (go_at_call 186; exact Calls.regrown_of (HK.out _))))
        refine wpQuiet_nil ?_
        rintro _ ⟨⟨dq, osq⟩, rfl⟩
        have hbX' := below_regrown wr dq osq
        have HXX := Lib.hid (HBW.out.trans (hbX'.mono HBW.out.size))
        have s0 := j0 dq osq
        have s1 := j1 dq osq
        have s2 := j2 dq osq
        have s3 := j3 dq osq
        generalize grow (redrawn wr dq) osq = wX at *
        have hlX := World.block_lt_of_cell? _ _ s0
        have hbX : b < wX.heap.size := Nat.lt_of_lt_of_le hbs HXX.out.size
        have HCX := Lib.hid (show ∀ j u, (fbs fs)[j]? = some u → wX.cell? ⟨b, off + j, none⟩ = some u from fbs_cell (fun i hi r u hu => (HXX.out.cell (p := ⟨b, off + i * 4 + r, none⟩) hbs).trans (HCSS.out i hi r u hu)) HM.out)
        clear j0 j1 j2 j3 i0 i1 i2 i3 hbX'
        go_wp2
        have HTL := Lib.hid (show (fbs (fs.take k)).length = k * 4 by rw [fbs_len, List.length_take, HM.out]; congr 1; omega)
        have HDL := Lib.hid (show (fbs (fs.drop k)).length = (m - k) * 4 by rw [fbs_len, List.length_drop, HM.out])
        have HTK := Lib.hid (fun (W : World) (hW : Below wX.heap.size wX W) => show ∀ ad, some (⟨b, off, none⟩ : Addr) = some ad → ∀ j u, (fbs (fs.take k))[j]? = some u → W.cell? (ad.add j) = some u from fun ad e j u hu => by
          cases e
          rw [addr_add]
          exact (hW.cell hbX).trans (HCX.out j u (take_get (by rw [← fbs_take]; exact hu))))
        have HDK := Lib.hid (fun (W : World) (hW : Below wX.heap.size wX W) => show ∀ ad, some (⟨b, off + k * 4, none⟩ : Addr) = some ad → ∀ j u, (fbs (fs.drop k))[j]? = some u → W.cell? (ad.add j) = some u from fun ad e j u hu => by
          cases e
          rw [addr_add]
          rw [fbs_drop, List.getElem?_drop] at hu
          exact (hW.cell hbX).trans (by rw [Nat.add_assoc]; exact HCX.out _ u hu))
        have HO1 := Lib.hid (@fbs_one (fs.take k))
        have HO3 := Lib.hid (@fbs_one (fs.drop k))
        have hkc : ¬ cap = k := by omega
        have i1 : (0 : Int) ≤ (k : Int) := by omega
        have i2 : (k : Int) ≤ (cap : Int) := by omega
        have i3 : k ≤ cap := by omega
        have i4 : (k : Int) ≤ (m : Int) := by omega
        have hck : ¬ cap - k = 0 := by omega
        have hbx : ∀ j, j < 4 → ∀ W : World, Below wX.heap.size wX W → W.cell? ⟨w.heap.size, j, none⟩ = wX.cell? ⟨w.heap.size, j, none⟩ := fun j _ W hW => hW.cell (p := ⟨w.heap.size, j, none⟩) hlX
        have y0a := (hbx 0 (by omega) wX.drew (Below.refl _ _).drew).trans s0
        have y0b := (hbx 0 (by omega) (wX.drew.alloc (.cells #[] 148)) bel1).trans s0
        have y1a := (hbx 1 (by omega) wX.drew (Below.refl _ _).drew).trans s1
        have y1b := (hbx 1 (by omega) (wX.drew.alloc (.cells #[] 148)) bel1).trans s1
        have y2a := (hbx 2 (by omega) wX.drew (Below.refl _ _).drew).trans s2
        have y2b := (hbx 2 (by omega) (wX.drew.alloc (.cells #[] 148)) bel1).trans s2
        have y3a := (hbx 3 (by omega) wX.drew (Below.refl _ _).drew).trans s3
        have y3b := (hbx 3 (by omega) (wX.drew.alloc (.cells #[] 148)) bel1).trans s3
        have HBK := Lib.hid hbx
        have y0k := s0
        have y1k := s1
        have y2k := s2
        have y3k := s3
        have HLN := Lib.hid (fun (W : World) => show ∀ ad, some (⟨W.heap.size, 0, none⟩ : Addr) = some ad → ∀ j u, (fibE f)[j]? = some u → (W.alloc (.cells #[.int .i64 f.a, .int .i64 f.b, .int .i64 f.l, .int .i64 f.r] 148)).cell? (ad.add j) = some u from fun ad e j u hu => by cases e; exact World.news_of_block (heap_alloc_new W _) j u hu)
        have HL2 := Lib.hid (show ((wX.drew.alloc (.cells #[] 148)).alloc (.cells #[.int .i64 f.a, .int .i64 f.b, .int .i64 f.l, .int .i64 f.r] 148)).heap[wX.heap.size + 1]? = some (.cells #[.int .i64 f.a, .int .i64 f.b, .int .i64 f.l, .int .i64 f.r] 148) from by have := heap_alloc_new (wX.drew.alloc (.cells #[] 148)) (.cells #[.int .i64 f.a, .int .i64 f.b, .int .i64 f.l, .int .i64 f.r] 148); simpa using this)
        have HL3 := Lib.hid (show ((wX.drew.alloc (.cells #[.int .i64 f.a, .int .i64 f.b, .int .i64 f.l, .int .i64 f.r] 148)).alloc (.cells #[] 148)).heap[wX.heap.size]? = some (.cells #[.int .i64 f.a, .int .i64 f.b, .int .i64 f.l, .int .i64 f.r] 148) from (heap_alloc_old _ _ (by simp)).trans (heap_alloc_new wX.drew (.cells #[.int .i64 f.a, .int .i64 f.b, .int .i64 f.l, .int .i64 f.r] 148)))
        have HLF := Lib.hid (fun (W : World) (B : Nat) (hB : W.heap[B]? = some (.cells #[.int .i64 f.a, .int .i64 f.b, .int .i64 f.l, .int .i64 f.r] 148)) => show ∀ ad, some (⟨B, 0, none⟩ : Addr) = some ad → ∀ j u, (fibE f)[j]? = some u → W.cell? (ad.add j) = some u from fun ad e j u hu => by cases e; exact World.news_of_block hB j u hu)
        have HFO := Lib.hid (show ∀ u ∈ fibE f, u.oneCell' = true from fun u hu => by simp [fibE] at hu; rcases hu with rfl | rfl | rfl | rfl <;> rfl)
        clear HA hbx s0 s1 s2 s3 HCX
        generalize hT : fbs (fs.take k) = ts at *
        generalize hD : fbs (fs.drop k) = ds at *
        have HT := Lib.hid hT
        have HD := Lib.hid hD
        clear hT hD
        go_wp2
        go_region_law (first
          | ((refine step_of_list rfl ?_); (with_reducible show wpList _ _ _ (⟨some 25, _, _, _, _, _⟩ :: _) _ _); (go_loud (refine wpList_catG rfl (.tmp 21) (.tmp 24) 33 148 rfl Tryz.underlying33 (.agg #[.int .i64 0, .int .i64 0, .int .i64 0, .int .i64 0]) 4 32 Tryz.infoFib rfl (by decide) wX.heap.size (.slice (some ⟨_, 0, none⟩) 0 0) 0 [] (by rfl) (by first | exact row_made1 | exact row_made2 | exact row_made3) (some ⟨b, off, none⟩) k _ ts (by rfl) HTL.out (fun e => by cases e) (HTK.out _ (by first | exact bel1 | exact bel2)) HO1.out (by unfold maxLen; omega) (by omega) (by first | exact bel1.size | exact bel2.size) ?_)); (intro v1 w1 o1 g1 l1); (have B1 : Below wX.heap.size wX w1 := Below.grown (by first | exact bel1 | exact bel2) g1 (by first | exact bel1.size | exact bel2.size) (fun q hq => (by have hq2 := Option.some.inj hq; rw [← hq2]; first | exact Nat.le_refl _ | exact Nat.le_succ _))); (have NN1 := fun c h1 h2 => g1.block c h1 h2); (have z0 := (HBK.out 0 (by omega) _ B1).trans y0k); (have z1 := (HBK.out 1 (by omega) _ B1).trans y1k); (have z2 := (HBK.out 2 (by omega) _ B1).trans y2k); (have z3 := (HBK.out 3 (by omega) _ B1).trans y3k); (unfold wpList); (refine ⟨rfl, ?_⟩))
          | ((refine step_of_list rfl ?_); (with_reducible show wpList _ _ _ (⟨some 28, _, _, _, _, _⟩ :: _) _ _); (go_loud (refine wpList_catG rfl (.tmp 25) (.tmp 27) 33 148 rfl Tryz.underlying33 (.agg #[.int .i64 0, .int .i64 0, .int .i64 0, .int .i64 0]) 4 32 Tryz.infoFib rfl (by decide) wX.heap.size v1 (0 + k) _ (by rfl) (by first | exact o1 | exact o1.alloc _) _ 1 _ (fibE f) (by rfl) rfl (fun e => by cases e) (by first | exact HLN.out _ | exact HLF.out _ _ ((NN1 _ lt2 ne2).trans HL2.out) | exact HLF.out _ _ ((NN1 _ lt3 ne3).trans HL3.out)) HFO.out (by unfold maxLen; omega) (by omega) (by first | exact B1.size | exact size_alloc B1.size) ?_)); (intro v2 w2 o2 g2 l2); (have B2 : Below wX.heap.size wX w2 := Below.grown (by first | exact B1 | exact B1.alloc B1.size _) g2 (by first | exact B1.size | exact size_alloc B1.size) (fun q hq => (o1.lt q hq).1)); (unfold wpList); (refine ⟨rfl, ?_⟩))
          | ((refine step_of_list rfl ?_); (with_reducible show wpList _ _ _ (⟨some 32, _, _, _, _, _⟩ :: _) _ _); (go_loud (refine wpList_catG rfl (.tmp 28) (.tmp 31) 33 148 rfl Tryz.underlying33 (.agg #[.int .i64 0, .int .i64 0, .int .i64 0, .int .i64 0]) 4 32 Tryz.infoFib rfl (by decide) wX.heap.size v2 (0 + k + 1) _ (by rfl) o2 (some ⟨b, off + k * 4, none⟩) (m - k) _ ds (by rfl) HDL.out (fun e => by cases e) (HDK.out _ B2) HO3.out (by unfold maxLen; omega) (by omega) B2.size ?_)); (intro v3 w3 o3 g3 l3); (have B3 : Below wX.heap.size wX w3 := Below.grown B2 g3 B2.size (fun q hq => (o2.lt q hq).1)); (unfold wpList); (refine ⟨rfl, ?_⟩)))
        all_goals
          have O3 := Lib.hid o3
          have HB3 := Lib.hid B3
          clear o3 B3 o1 g1 l1 o2 g2 l2 g3 l3 B1 B2 NN1
          have hlen : (fs.take k ++ [f] ++ fs.drop k).length = m + 1 := by rw [List.length_append, List.length_append, List.length_take, List.length_drop, HM.out]; simp; omega
          have HROW := Lib.hid (show FibRow w3 w.heap.size v3 (fs.take k ++ [f] ++ fs.drop k) from by
            have hr : FibRow w3 wX.heap.size v3 (fs.take k ++ [f] ++ fs.drop k) := by
              unfold FibRow
              rw [hlen, fbs_app, fbs_app, HT.out, HD.out, show m + 1 = 0 + k + 1 + (m - k) by omega]
              exact O3.out
            exact ⟨hr.1, hr.2.imp id fun ⟨g, cap, cur, h1, h2, h3⟩ => ⟨g, cap, cur, h1, Nat.le_trans HXX.out.size h2, h3⟩⟩)
          have HSM := Lib.hid (show ∀ g ∈ (fs.take k ++ [f] ++ fs.drop k), smallF g from fun g hg => by
              rcases List.mem_append.1 hg with h | h
              · rcases List.mem_append.1 h with h | h
                · exact HS.out g (List.mem_of_mem_take h)
                · rw [List.mem_singleton.1 h]; exact HF.out
              · exact HS.out g (List.mem_of_mem_drop h))
          have HLN2 := Lib.hid hlen
          have hne := HROW.out.ne (by rw [hlen]; omega)
          have HNE := Lib.hid hne
          clear hlen hne
          obtain ⟨a9, c9, n9, rfl⟩ := HROW.out.slice
          go_wp2
          go_ret
          exact ⟨_, rfl, _, HROW.out, HLN2.out, HSM.out, HNE.out, HXX.out.trans (HB3.out.mono HXX.out.size)⟩
      · generalize befF ⟨ya, yb, yl, yr⟩ f = r at *
        have hleI : r ≤ 0 := by simpa using hle
        go_wp2
        clear t0 t1 t2 t3 x0 x1 x2 x3
        refine wp_region_quiet_below (by kernel_rfl) (by kernel_rfl) ?_
        repeat (go_big_quiet_step (first | (go_at_call 186; exact Calls.regrown_of (HK.out _))))
        refine wpQuiet_nil ?_
        rintro _ ⟨⟨dq, osq⟩, rfl⟩
        have HBQ := Lib.hid (HBR.out.trans ((below_regrown wr dq osq).mono HBR.out.size))
        go_wp2
        go_roundw
        case rel => exact ⟨k + 1, by omega, by go_num, HBQ.out⟩
        case measure => simp [intOf]; omega
    · obtain rfl : m = k := by omega
      have hXX := HBW.out
      obtain ⟨wX, hwX⟩ : ∃ wX, wX = wr := ⟨_, rfl⟩
      subst hwX
      have HXX := Lib.hid hXX
      have hlX := World.block_lt_of_cell? _ _ t0
      have s0 := t0
      have s1 := t1
      have s2 := t2
      have s3 := t3
      clear hXX t0 t1 t2 t3
      rcases HAN.out with ⟨rfl, rfl, rfl⟩ | ⟨b, off, rfl⟩
      · have j0 := rg s0
        have j1 := rg s1
        have j2 := rg s2
        have j3 := rg s3
        go_wp2
        refine wp_region_quiet_below (by kernel_rfl) (by kernel_rfl) ?_
        repeat (go_big_quiet_step (fail))
        refine wpQuiet_nil ?_
        rintro _ ⟨⟨dq, osq⟩, rfl⟩
        have hbX' := below_regrown wX dq osq
        have HXX := Lib.hid (HXX.out.trans (hbX'.mono HXX.out.size))
        have s0 := j0 dq osq
        have s1 := j1 dq osq
        have s2 := j2 dq osq
        have s3 := j3 dq osq
        generalize grow (redrawn wX dq) osq = wX at *
        have hlX := World.block_lt_of_cell? _ _ s0
        clear j0 j1 j2 j3 hbX'
        go_wp2
        have HFE := Lib.hid (show fs = [] from List.eq_nil_of_length_eq_zero HM.out)
        have i6 : ¬ (0 : Int) < (0 : Int) := by omega
        have hbx : ∀ j, j < 4 → ∀ W : World, Below wX.heap.size wX W → W.cell? ⟨w.heap.size, j, none⟩ = wX.cell? ⟨w.heap.size, j, none⟩ := fun j _ W hW => hW.cell (p := ⟨w.heap.size, j, none⟩) hlX
        have y0a := (hbx 0 (by omega) wX.drew (Below.refl _ _).drew).trans s0
        have y0b := (hbx 0 (by omega) (wX.drew.alloc (.cells #[] 148)) bel1).trans s0
        have y1a := (hbx 1 (by omega) wX.drew (Below.refl _ _).drew).trans s1
        have y1b := (hbx 1 (by omega) (wX.drew.alloc (.cells #[] 148)) bel1).trans s1
        have y2a := (hbx 2 (by omega) wX.drew (Below.refl _ _).drew).trans s2
        have y2b := (hbx 2 (by omega) (wX.drew.alloc (.cells #[] 148)) bel1).trans s2
        have y3a := (hbx 3 (by omega) wX.drew (Below.refl _ _).drew).trans s3
        have y3b := (hbx 3 (by omega) (wX.drew.alloc (.cells #[] 148)) bel1).trans s3
        have HBK := Lib.hid hbx
        have y0k := s0
        have y1k := s1
        have y2k := s2
        have y3k := s3
        have HLN := Lib.hid (fun (W : World) => show ∀ ad, some (⟨W.heap.size, 0, none⟩ : Addr) = some ad → ∀ j u, (fibE f)[j]? = some u → (W.alloc (.cells #[.int .i64 f.a, .int .i64 f.b, .int .i64 f.l, .int .i64 f.r] 148)).cell? (ad.add j) = some u from fun ad e j u hu => by cases e; exact World.news_of_block (heap_alloc_new W _) j u hu)
        have HL2 := Lib.hid (show ((wX.drew.alloc (.cells #[] 148)).alloc (.cells #[.int .i64 f.a, .int .i64 f.b, .int .i64 f.l, .int .i64 f.r] 148)).heap[wX.heap.size + 1]? = some (.cells #[.int .i64 f.a, .int .i64 f.b, .int .i64 f.l, .int .i64 f.r] 148) from by have := heap_alloc_new (wX.drew.alloc (.cells #[] 148)) (.cells #[.int .i64 f.a, .int .i64 f.b, .int .i64 f.l, .int .i64 f.r] 148); simpa using this)
        have HL3 := Lib.hid (show ((wX.drew.alloc (.cells #[.int .i64 f.a, .int .i64 f.b, .int .i64 f.l, .int .i64 f.r] 148)).alloc (.cells #[] 148)).heap[wX.heap.size]? = some (.cells #[.int .i64 f.a, .int .i64 f.b, .int .i64 f.l, .int .i64 f.r] 148) from (heap_alloc_old _ _ (by simp)).trans (heap_alloc_new wX.drew (.cells #[.int .i64 f.a, .int .i64 f.b, .int .i64 f.l, .int .i64 f.r] 148)))
        have HLF := Lib.hid (fun (W : World) (B : Nat) (hB : W.heap[B]? = some (.cells #[.int .i64 f.a, .int .i64 f.b, .int .i64 f.l, .int .i64 f.r] 148)) => show ∀ ad, some (⟨B, 0, none⟩ : Addr) = some ad → ∀ j u, (fibE f)[j]? = some u → W.cell? (ad.add j) = some u from fun ad e j u hu => by cases e; exact World.news_of_block hB j u hu)
        have HFO := Lib.hid (show ∀ u ∈ fibE f, u.oneCell' = true from fun u hu => by simp [fibE] at hu; rcases hu with rfl | rfl | rfl | rfl <;> rfl)
        clear HA hbx s0 s1 s2 s3
        go_wp2
        go_region_law (first
          | ((refine step_of_list rfl ?_); (with_reducible show wpList _ _ _ (⟨some 25, _, _, _, _, _⟩ :: _) _ _); (go_loud (refine wpList_catG rfl (.tmp 21) (.tmp 24) 33 148 rfl Tryz.underlying33 (.agg #[.int .i64 0, .int .i64 0, .int .i64 0, .int .i64 0]) 4 32 Tryz.infoFib rfl (by decide) wX.heap.size (.slice (some ⟨_, 0, none⟩) 0 0) 0 [] (by rfl) (by first | exact row_made1 | exact row_made2 | exact row_made3) none 0 0 [] (by rfl) rfl (fun _ => ⟨rfl, rfl⟩) (fun ad e => by cases e) (fun u hu => by cases hu) (by unfold maxLen; omega) (by omega) (by first | exact bel1.size | exact bel2.size) ?_)); (intro v1 w1 o1 g1 l1); (have B1 : Below wX.heap.size wX w1 := Below.grown (by first | exact bel1 | exact bel2) g1 (by first | exact bel1.size | exact bel2.size) (fun q hq => (by have hq2 := Option.some.inj hq; rw [← hq2]; first | exact Nat.le_refl _ | exact Nat.le_succ _))); (have NN1 := fun c h1 h2 => g1.block c h1 h2); (have z0 := (HBK.out 0 (by omega) _ B1).trans y0k); (have z1 := (HBK.out 1 (by omega) _ B1).trans y1k); (have z2 := (HBK.out 2 (by omega) _ B1).trans y2k); (have z3 := (HBK.out 3 (by omega) _ B1).trans y3k); (unfold wpList); (refine ⟨rfl, ?_⟩))
          | ((refine step_of_list rfl ?_); (with_reducible show wpList _ _ _ (⟨some 28, _, _, _, _, _⟩ :: _) _ _); (go_loud (refine wpList_catG rfl (.tmp 25) (.tmp 27) 33 148 rfl Tryz.underlying33 (.agg #[.int .i64 0, .int .i64 0, .int .i64 0, .int .i64 0]) 4 32 Tryz.infoFib rfl (by decide) wX.heap.size v1 (0 + 0) _ (by rfl) (by first | exact o1 | exact o1.alloc _) _ 1 _ (fibE f) (by rfl) rfl (fun e => by cases e) (by first | exact HLN.out _ | exact HLF.out _ _ ((NN1 _ lt2 ne2).trans HL2.out) | exact HLF.out _ _ ((NN1 _ lt3 ne3).trans HL3.out)) HFO.out (by unfold maxLen; omega) (by omega) (by first | exact B1.size | exact size_alloc B1.size) ?_)); (intro v2 w2 o2 g2 l2); (have B2 : Below wX.heap.size wX w2 := Below.grown (by first | exact B1 | exact B1.alloc B1.size _) g2 (by first | exact B1.size | exact size_alloc B1.size) (fun q hq => (o1.lt q hq).1)); (unfold wpList); (refine ⟨rfl, ?_⟩))
          | ((refine step_of_list rfl ?_); (with_reducible show wpList _ _ _ (⟨some 32, _, _, _, _, _⟩ :: _) _ _); (go_loud (refine wpList_catG rfl (.tmp 28) (.tmp 31) 33 148 rfl Tryz.underlying33 (.agg #[.int .i64 0, .int .i64 0, .int .i64 0, .int .i64 0]) 4 32 Tryz.infoFib rfl (by decide) wX.heap.size v2 (0 + 0 + 1) _ (by rfl) o2 none 0 0 [] (by rfl) rfl (fun _ => ⟨rfl, rfl⟩) (fun ad e => by cases e) (fun u hu => by cases hu) (by unfold maxLen; omega) (by omega) B2.size ?_)); (intro v3 w3 o3 g3 l3); (have B3 : Below wX.heap.size wX w3 := Below.grown B2 g3 B2.size (fun q hq => (o2.lt q hq).1)); (unfold wpList); (refine ⟨rfl, ?_⟩)))
        all_goals
          have O3 := Lib.hid o3
          have HB3 := Lib.hid B3
          clear o3 B3 o1 g1 l1 o2 g2 l2 g3 l3 B1 B2 NN1
          have hlen : ([f]).length = 0 + 1 := rfl
          have HROW := Lib.hid (show FibRow w3 w.heap.size v3 ([f]) from by
            have hr : FibRow w3 wX.heap.size v3 ([f]) := by
              unfold FibRow
              exact O3.out
            exact ⟨hr.1, hr.2.imp id fun ⟨g, cap, cur, h1, h2, h3⟩ => ⟨g, cap, cur, h1, Nat.le_trans HXX.out.size h2, h3⟩⟩)
          have HSM := Lib.hid (show ∀ g ∈ ([f]), smallF g from fun g hg => by rw [List.mem_singleton.1 hg]; exact HF.out)
          have HLN2 := Lib.hid hlen
          have hne := HROW.out.ne (by rw [hlen]; omega)
          have HNE := Lib.hid hne
          clear hlen hne
          obtain ⟨a9, c9, n9, rfl⟩ := HROW.out.slice
          go_wp2
          go_ret
          exact ⟨_, rfl, _, HROW.out, HLN2.out, HSM.out, HNE.out, HXX.out.trans (HB3.out.mono HXX.out.size)⟩
      · by_cases hcm : cap = m
        · have hmI : ¬ (m : Int) < (m : Int) := by omega
          have j0 := rg s0
          have j1 := rg s1
          have j2 := rg s2
          have j3 := rg s3
          obtain ⟨hbs, HCSS⟩ : b < w.heap.size ∧ Hid (∀ i, i < m → ∀ r u, (fibE (fs[i]?.getD nilB))[r]? = some u → w.cell? ⟨b, off + i * 4 + r, none⟩ = some u) := HABS.out b off rfl
          go_wp2
          refine wp_region_quiet_below (by kernel_rfl) (by kernel_rfl) ?_
          repeat (go_big_quiet_step (fail))
          refine wpQuiet_nil ?_
          rintro _ ⟨⟨dq, osq⟩, rfl⟩
          have hbX' := below_regrown wX dq osq
          have HXX := Lib.hid (HXX.out.trans (hbX'.mono HXX.out.size))
          have s0 := j0 dq osq
          have s1 := j1 dq osq
          have s2 := j2 dq osq
          have s3 := j3 dq osq
          generalize grow (redrawn wX dq) osq = wX at *
          have hlX := World.block_lt_of_cell? _ _ s0
          have hbX : b < wX.heap.size := Nat.lt_of_lt_of_le hbs HXX.out.size
          have HCX := Lib.hid (show ∀ j u, (fbs fs)[j]? = some u → wX.cell? ⟨b, off + j, none⟩ = some u from fbs_cell (fun i hi r u hu => (HXX.out.cell (p := ⟨b, off + i * 4 + r, none⟩) hbs).trans (HCSS.out i hi r u hu)) HM.out)
          clear j0 j1 j2 j3 hbX'
          go_wp2
          have HTL := Lib.hid (show (fbs (fs.take m)).length = m * 4 by rw [fbs_len, List.length_take, HM.out]; congr 1; omega)
          have HDL := Lib.hid (show (fbs (fs.drop m)).length = (m - m) * 4 by rw [fbs_len, List.length_drop, HM.out])
          have HTK := Lib.hid (fun (W : World) (hW : Below wX.heap.size wX W) => show ∀ ad, some (⟨b, off, none⟩ : Addr) = some ad → ∀ j u, (fbs (fs.take m))[j]? = some u → W.cell? (ad.add j) = some u from fun ad e j u hu => by
            cases e
            rw [addr_add]
            exact (hW.cell hbX).trans (HCX.out j u (take_get (by rw [← fbs_take]; exact hu))))
          have HDK := Lib.hid (fun (W : World) (hW : Below wX.heap.size wX W) => show ∀ ad, some (⟨b, off + m * 4, none⟩ : Addr) = some ad → ∀ j u, (fbs (fs.drop m))[j]? = some u → W.cell? (ad.add j) = some u from fun ad e j u hu => by
            cases e
            rw [addr_add]
            rw [fbs_drop, List.getElem?_drop] at hu
            exact (hW.cell hbX).trans (by rw [Nat.add_assoc]; exact HCX.out _ u hu))
          have HO1 := Lib.hid (@fbs_one (fs.take m))
          have HO3 := Lib.hid (@fbs_one (fs.drop m))
          have i1 : (0 : Int) ≤ (m : Int) := by omega
          have i5 : ¬ m < m := by omega
          have i6 : ¬ (m : Int) < (m : Int) := by omega
          have hbx : ∀ j, j < 4 → ∀ W : World, Below wX.heap.size wX W → W.cell? ⟨w.heap.size, j, none⟩ = wX.cell? ⟨w.heap.size, j, none⟩ := fun j _ W hW => hW.cell (p := ⟨w.heap.size, j, none⟩) hlX
          have y0a := (hbx 0 (by omega) wX.drew (Below.refl _ _).drew).trans s0
          have y0b := (hbx 0 (by omega) (wX.drew.alloc (.cells #[] 148)) bel1).trans s0
          have y1a := (hbx 1 (by omega) wX.drew (Below.refl _ _).drew).trans s1
          have y1b := (hbx 1 (by omega) (wX.drew.alloc (.cells #[] 148)) bel1).trans s1
          have y2a := (hbx 2 (by omega) wX.drew (Below.refl _ _).drew).trans s2
          have y2b := (hbx 2 (by omega) (wX.drew.alloc (.cells #[] 148)) bel1).trans s2
          have y3a := (hbx 3 (by omega) wX.drew (Below.refl _ _).drew).trans s3
          have y3b := (hbx 3 (by omega) (wX.drew.alloc (.cells #[] 148)) bel1).trans s3
          have HBK := Lib.hid hbx
          have y0k := s0
          have y1k := s1
          have y2k := s2
          have y3k := s3
          have HLN := Lib.hid (fun (W : World) => show ∀ ad, some (⟨W.heap.size, 0, none⟩ : Addr) = some ad → ∀ j u, (fibE f)[j]? = some u → (W.alloc (.cells #[.int .i64 f.a, .int .i64 f.b, .int .i64 f.l, .int .i64 f.r] 148)).cell? (ad.add j) = some u from fun ad e j u hu => by cases e; exact World.news_of_block (heap_alloc_new W _) j u hu)
          have HL2 := Lib.hid (show ((wX.drew.alloc (.cells #[] 148)).alloc (.cells #[.int .i64 f.a, .int .i64 f.b, .int .i64 f.l, .int .i64 f.r] 148)).heap[wX.heap.size + 1]? = some (.cells #[.int .i64 f.a, .int .i64 f.b, .int .i64 f.l, .int .i64 f.r] 148) from by have := heap_alloc_new (wX.drew.alloc (.cells #[] 148)) (.cells #[.int .i64 f.a, .int .i64 f.b, .int .i64 f.l, .int .i64 f.r] 148); simpa using this)
          have HL3 := Lib.hid (show ((wX.drew.alloc (.cells #[.int .i64 f.a, .int .i64 f.b, .int .i64 f.l, .int .i64 f.r] 148)).alloc (.cells #[] 148)).heap[wX.heap.size]? = some (.cells #[.int .i64 f.a, .int .i64 f.b, .int .i64 f.l, .int .i64 f.r] 148) from (heap_alloc_old _ _ (by simp)).trans (heap_alloc_new wX.drew (.cells #[.int .i64 f.a, .int .i64 f.b, .int .i64 f.l, .int .i64 f.r] 148)))
          have HLF := Lib.hid (fun (W : World) (B : Nat) (hB : W.heap[B]? = some (.cells #[.int .i64 f.a, .int .i64 f.b, .int .i64 f.l, .int .i64 f.r] 148)) => show ∀ ad, some (⟨B, 0, none⟩ : Addr) = some ad → ∀ j u, (fibE f)[j]? = some u → W.cell? (ad.add j) = some u from fun ad e j u hu => by cases e; exact World.news_of_block hB j u hu)
          have HFO := Lib.hid (show ∀ u ∈ fibE f, u.oneCell' = true from fun u hu => by simp [fibE] at hu; rcases hu with rfl | rfl | rfl | rfl <;> rfl)
          obtain rfl : m = cap := hcm.symm
          clear HA hbx s0 s1 s2 s3 HCX
          generalize hT : fbs (fs.take m) = ts at *
          generalize hD : fbs (fs.drop m) = ds at *
          have HT := Lib.hid hT
          have HD := Lib.hid hD
          clear hT hD
          go_wp2
          go_region_law (first
            | ((refine step_of_list rfl ?_); (with_reducible show wpList _ _ _ (⟨some 25, _, _, _, _, _⟩ :: _) _ _); (go_loud (refine wpList_catG rfl (.tmp 21) (.tmp 24) 33 148 rfl Tryz.underlying33 (.agg #[.int .i64 0, .int .i64 0, .int .i64 0, .int .i64 0]) 4 32 Tryz.infoFib rfl (by decide) wX.heap.size (.slice (some ⟨_, 0, none⟩) 0 0) 0 [] (by rfl) (by first | exact row_made1 | exact row_made2 | exact row_made3) (some ⟨b, off, none⟩) m _ ts (by rfl) HTL.out (fun e => by cases e) (HTK.out _ (by first | exact bel1 | exact bel2)) HO1.out (by unfold maxLen; omega) (by omega) (by first | exact bel1.size | exact bel2.size) ?_)); (intro v1 w1 o1 g1 l1); (have B1 : Below wX.heap.size wX w1 := Below.grown (by first | exact bel1 | exact bel2) g1 (by first | exact bel1.size | exact bel2.size) (fun q hq => (by have hq2 := Option.some.inj hq; rw [← hq2]; first | exact Nat.le_refl _ | exact Nat.le_succ _))); (have NN1 := fun c h1 h2 => g1.block c h1 h2); (have z0 := (HBK.out 0 (by omega) _ B1).trans y0k); (have z1 := (HBK.out 1 (by omega) _ B1).trans y1k); (have z2 := (HBK.out 2 (by omega) _ B1).trans y2k); (have z3 := (HBK.out 3 (by omega) _ B1).trans y3k); (unfold wpList); (refine ⟨rfl, ?_⟩))
            | ((refine step_of_list rfl ?_); (with_reducible show wpList _ _ _ (⟨some 28, _, _, _, _, _⟩ :: _) _ _); (go_loud (refine wpList_catG rfl (.tmp 25) (.tmp 27) 33 148 rfl Tryz.underlying33 (.agg #[.int .i64 0, .int .i64 0, .int .i64 0, .int .i64 0]) 4 32 Tryz.infoFib rfl (by decide) wX.heap.size v1 (0 + m) _ (by rfl) (by first | exact o1 | exact o1.alloc _) _ 1 _ (fibE f) (by rfl) rfl (fun e => by cases e) (by first | exact HLN.out _ | exact HLF.out _ _ ((NN1 _ lt2 ne2).trans HL2.out) | exact HLF.out _ _ ((NN1 _ lt3 ne3).trans HL3.out)) HFO.out (by unfold maxLen; omega) (by omega) (by first | exact B1.size | exact size_alloc B1.size) ?_)); (intro v2 w2 o2 g2 l2); (have B2 : Below wX.heap.size wX w2 := Below.grown (by first | exact B1 | exact B1.alloc B1.size _) g2 (by first | exact B1.size | exact size_alloc B1.size) (fun q hq => (o1.lt q hq).1)); (unfold wpList); (refine ⟨rfl, ?_⟩))
            | ((refine step_of_list rfl ?_); (with_reducible show wpList _ _ _ (⟨some 32, _, _, _, _, _⟩ :: _) _ _); (go_loud (refine wpList_catG rfl (.tmp 28) (.tmp 31) 33 148 rfl Tryz.underlying33 (.agg #[.int .i64 0, .int .i64 0, .int .i64 0, .int .i64 0]) 4 32 Tryz.infoFib rfl (by decide) wX.heap.size v2 (0 + m + 1) _ (by rfl) o2 (some ⟨b, off, none⟩) 0 _ [] (by rfl) rfl (fun e => by cases e) (fun ad e j u hu => by simp at hu) (fun u hu => by cases hu) (by unfold maxLen; omega) (by omega) B2.size ?_)); (intro v3 w3 o3 g3 l3); (have B3 : Below wX.heap.size wX w3 := Below.grown B2 g3 B2.size (fun q hq => (o2.lt q hq).1)); (unfold wpList); (refine ⟨rfl, ?_⟩)))
          all_goals
            have O3 := Lib.hid o3
            have HB3 := Lib.hid B3
            clear o3 B3 o1 g1 l1 o2 g2 l2 g3 l3 B1 B2 NN1
            have hlen : (fs ++ [f]).length = m + 1 := by rw [List.length_append, HM.out]; rfl
            have HROW := Lib.hid (show FibRow w3 w.heap.size v3 (fs ++ [f]) from by
              have hr : FibRow w3 wX.heap.size v3 (fs ++ [f]) := by
                unfold FibRow
                have e : fbs fs = ts := by rw [← HT.out, List.take_of_length_le (Nat.le_of_eq HM.out)]
                rw [hlen, fbs_app, e, show m + 1 = 0 + m + 1 + 0 by omega]
                simpa [fbs] using O3.out
              exact ⟨hr.1, hr.2.imp id fun ⟨g, cap, cur, h1, h2, h3⟩ => ⟨g, cap, cur, h1, Nat.le_trans HXX.out.size h2, h3⟩⟩)
            have HSM := Lib.hid (show ∀ g ∈ (fs ++ [f]), smallF g from fun g hg => by
                rcases List.mem_append.1 hg with h | h
                · exact HS.out g h
                · rw [List.mem_singleton.1 h]; exact HF.out)
            have HLN2 := Lib.hid hlen
            have hne := HROW.out.ne (by rw [hlen]; omega)
            have HNE := Lib.hid hne
            clear hlen hne
            obtain ⟨a9, c9, n9, rfl⟩ := HROW.out.slice
            go_wp2
            go_ret
            exact ⟨_, rfl, _, HROW.out, HLN2.out, HSM.out, HNE.out, HXX.out.trans (HB3.out.mono HXX.out.size)⟩
        · have hmI : ¬ (m : Int) < (m : Int) := by omega
          have j0 := rg s0
          have j1 := rg s1
          have j2 := rg s2
          have j3 := rg s3
          obtain ⟨hbs, HCSS⟩ : b < w.heap.size ∧ Hid (∀ i, i < m → ∀ r u, (fibE (fs[i]?.getD nilB))[r]? = some u → w.cell? ⟨b, off + i * 4 + r, none⟩ = some u) := HABS.out b off rfl
          go_wp2
          refine wp_region_quiet_below (by kernel_rfl) (by kernel_rfl) ?_
          repeat (go_big_quiet_step (fail))
          refine wpQuiet_nil ?_
          rintro _ ⟨⟨dq, osq⟩, rfl⟩
          have hbX' := below_regrown wX dq osq
          have HXX := Lib.hid (HXX.out.trans (hbX'.mono HXX.out.size))
          have s0 := j0 dq osq
          have s1 := j1 dq osq
          have s2 := j2 dq osq
          have s3 := j3 dq osq
          generalize grow (redrawn wX dq) osq = wX at *
          have hlX := World.block_lt_of_cell? _ _ s0
          have hbX : b < wX.heap.size := Nat.lt_of_lt_of_le hbs HXX.out.size
          have HCX := Lib.hid (show ∀ j u, (fbs fs)[j]? = some u → wX.cell? ⟨b, off + j, none⟩ = some u from fbs_cell (fun i hi r u hu => (HXX.out.cell (p := ⟨b, off + i * 4 + r, none⟩) hbs).trans (HCSS.out i hi r u hu)) HM.out)
          clear j0 j1 j2 j3 hbX'
          go_wp2
          have HTL := Lib.hid (show (fbs (fs.take m)).length = m * 4 by rw [fbs_len, List.length_take, HM.out]; congr 1; omega)
          have HDL := Lib.hid (show (fbs (fs.drop m)).length = (m - m) * 4 by rw [fbs_len, List.length_drop, HM.out])
          have HTK := Lib.hid (fun (W : World) (hW : Below wX.heap.size wX W) => show ∀ ad, some (⟨b, off, none⟩ : Addr) = some ad → ∀ j u, (fbs (fs.take m))[j]? = some u → W.cell? (ad.add j) = some u from fun ad e j u hu => by
            cases e
            rw [addr_add]
            exact (hW.cell hbX).trans (HCX.out j u (take_get (by rw [← fbs_take]; exact hu))))
          have HDK := Lib.hid (fun (W : World) (hW : Below wX.heap.size wX W) => show ∀ ad, some (⟨b, off + m * 4, none⟩ : Addr) = some ad → ∀ j u, (fbs (fs.drop m))[j]? = some u → W.cell? (ad.add j) = some u from fun ad e j u hu => by
            cases e
            rw [addr_add]
            rw [fbs_drop, List.getElem?_drop] at hu
            exact (hW.cell hbX).trans (by rw [Nat.add_assoc]; exact HCX.out _ u hu))
          have HO1 := Lib.hid (@fbs_one (fs.take m))
          have HO3 := Lib.hid (@fbs_one (fs.drop m))
          have i1 : (0 : Int) ≤ (m : Int) := by omega
          have i2 : (m : Int) ≤ (cap : Int) := by omega
          have i3 : m ≤ cap := by omega
          have hck : ¬ cap - m = 0 := by omega
          have hcm2 : ¬ cap = m := by omega
          have i5 : ¬ m < m := by omega
          have i6 : ¬ (m : Int) < (m : Int) := by omega
          have hbx : ∀ j, j < 4 → ∀ W : World, Below wX.heap.size wX W → W.cell? ⟨w.heap.size, j, none⟩ = wX.cell? ⟨w.heap.size, j, none⟩ := fun j _ W hW => hW.cell (p := ⟨w.heap.size, j, none⟩) hlX
          have y0a := (hbx 0 (by omega) wX.drew (Below.refl _ _).drew).trans s0
          have y0b := (hbx 0 (by omega) (wX.drew.alloc (.cells #[] 148)) bel1).trans s0
          have y1a := (hbx 1 (by omega) wX.drew (Below.refl _ _).drew).trans s1
          have y1b := (hbx 1 (by omega) (wX.drew.alloc (.cells #[] 148)) bel1).trans s1
          have y2a := (hbx 2 (by omega) wX.drew (Below.refl _ _).drew).trans s2
          have y2b := (hbx 2 (by omega) (wX.drew.alloc (.cells #[] 148)) bel1).trans s2
          have y3a := (hbx 3 (by omega) wX.drew (Below.refl _ _).drew).trans s3
          have y3b := (hbx 3 (by omega) (wX.drew.alloc (.cells #[] 148)) bel1).trans s3
          have HBK := Lib.hid hbx
          have y0k := s0
          have y1k := s1
          have y2k := s2
          have y3k := s3
          have HLN := Lib.hid (fun (W : World) => show ∀ ad, some (⟨W.heap.size, 0, none⟩ : Addr) = some ad → ∀ j u, (fibE f)[j]? = some u → (W.alloc (.cells #[.int .i64 f.a, .int .i64 f.b, .int .i64 f.l, .int .i64 f.r] 148)).cell? (ad.add j) = some u from fun ad e j u hu => by cases e; exact World.news_of_block (heap_alloc_new W _) j u hu)
          have HL2 := Lib.hid (show ((wX.drew.alloc (.cells #[] 148)).alloc (.cells #[.int .i64 f.a, .int .i64 f.b, .int .i64 f.l, .int .i64 f.r] 148)).heap[wX.heap.size + 1]? = some (.cells #[.int .i64 f.a, .int .i64 f.b, .int .i64 f.l, .int .i64 f.r] 148) from by have := heap_alloc_new (wX.drew.alloc (.cells #[] 148)) (.cells #[.int .i64 f.a, .int .i64 f.b, .int .i64 f.l, .int .i64 f.r] 148); simpa using this)
          have HL3 := Lib.hid (show ((wX.drew.alloc (.cells #[.int .i64 f.a, .int .i64 f.b, .int .i64 f.l, .int .i64 f.r] 148)).alloc (.cells #[] 148)).heap[wX.heap.size]? = some (.cells #[.int .i64 f.a, .int .i64 f.b, .int .i64 f.l, .int .i64 f.r] 148) from (heap_alloc_old _ _ (by simp)).trans (heap_alloc_new wX.drew (.cells #[.int .i64 f.a, .int .i64 f.b, .int .i64 f.l, .int .i64 f.r] 148)))
          have HLF := Lib.hid (fun (W : World) (B : Nat) (hB : W.heap[B]? = some (.cells #[.int .i64 f.a, .int .i64 f.b, .int .i64 f.l, .int .i64 f.r] 148)) => show ∀ ad, some (⟨B, 0, none⟩ : Addr) = some ad → ∀ j u, (fibE f)[j]? = some u → W.cell? (ad.add j) = some u from fun ad e j u hu => by cases e; exact World.news_of_block hB j u hu)
          have HFO := Lib.hid (show ∀ u ∈ fibE f, u.oneCell' = true from fun u hu => by simp [fibE] at hu; rcases hu with rfl | rfl | rfl | rfl <;> rfl)
          clear HA hbx s0 s1 s2 s3 HCX
          generalize hT : fbs (fs.take m) = ts at *
          generalize hD : fbs (fs.drop m) = ds at *
          have HT := Lib.hid hT
          have HD := Lib.hid hD
          clear hT hD
          go_wp2
          go_region_law (first
            | ((refine step_of_list rfl ?_); (with_reducible show wpList _ _ _ (⟨some 25, _, _, _, _, _⟩ :: _) _ _); (go_loud (refine wpList_catG rfl (.tmp 21) (.tmp 24) 33 148 rfl Tryz.underlying33 (.agg #[.int .i64 0, .int .i64 0, .int .i64 0, .int .i64 0]) 4 32 Tryz.infoFib rfl (by decide) wX.heap.size (.slice (some ⟨_, 0, none⟩) 0 0) 0 [] (by rfl) (by first | exact row_made1 | exact row_made2 | exact row_made3) (some ⟨b, off, none⟩) m _ ts (by rfl) HTL.out (fun e => by cases e) (HTK.out _ (by first | exact bel1 | exact bel2)) HO1.out (by unfold maxLen; omega) (by omega) (by first | exact bel1.size | exact bel2.size) ?_)); (intro v1 w1 o1 g1 l1); (have B1 : Below wX.heap.size wX w1 := Below.grown (by first | exact bel1 | exact bel2) g1 (by first | exact bel1.size | exact bel2.size) (fun q hq => (by have hq2 := Option.some.inj hq; rw [← hq2]; first | exact Nat.le_refl _ | exact Nat.le_succ _))); (have NN1 := fun c h1 h2 => g1.block c h1 h2); (have z0 := (HBK.out 0 (by omega) _ B1).trans y0k); (have z1 := (HBK.out 1 (by omega) _ B1).trans y1k); (have z2 := (HBK.out 2 (by omega) _ B1).trans y2k); (have z3 := (HBK.out 3 (by omega) _ B1).trans y3k); (unfold wpList); (refine ⟨rfl, ?_⟩))
            | ((refine step_of_list rfl ?_); (with_reducible show wpList _ _ _ (⟨some 28, _, _, _, _, _⟩ :: _) _ _); (go_loud (refine wpList_catG rfl (.tmp 25) (.tmp 27) 33 148 rfl Tryz.underlying33 (.agg #[.int .i64 0, .int .i64 0, .int .i64 0, .int .i64 0]) 4 32 Tryz.infoFib rfl (by decide) wX.heap.size v1 (0 + m) _ (by rfl) (by first | exact o1 | exact o1.alloc _) _ 1 _ (fibE f) (by rfl) rfl (fun e => by cases e) (by first | exact HLN.out _ | exact HLF.out _ _ ((NN1 _ lt2 ne2).trans HL2.out) | exact HLF.out _ _ ((NN1 _ lt3 ne3).trans HL3.out)) HFO.out (by unfold maxLen; omega) (by omega) (by first | exact B1.size | exact size_alloc B1.size) ?_)); (intro v2 w2 o2 g2 l2); (have B2 : Below wX.heap.size wX w2 := Below.grown (by first | exact B1 | exact B1.alloc B1.size _) g2 (by first | exact B1.size | exact size_alloc B1.size) (fun q hq => (o1.lt q hq).1)); (unfold wpList); (refine ⟨rfl, ?_⟩))
            | ((refine step_of_list rfl ?_); (with_reducible show wpList _ _ _ (⟨some 32, _, _, _, _, _⟩ :: _) _ _); (go_loud (refine wpList_catG rfl (.tmp 28) (.tmp 31) 33 148 rfl Tryz.underlying33 (.agg #[.int .i64 0, .int .i64 0, .int .i64 0, .int .i64 0]) 4 32 Tryz.infoFib rfl (by decide) wX.heap.size v2 (0 + m + 1) _ (by rfl) o2 (some ⟨b, off + m * 4, none⟩) 0 _ [] (by rfl) rfl (fun e => by cases e) (fun ad e j u hu => by simp at hu) (fun u hu => by cases hu) (by unfold maxLen; omega) (by omega) B2.size ?_)); (intro v3 w3 o3 g3 l3); (have B3 : Below wX.heap.size wX w3 := Below.grown B2 g3 B2.size (fun q hq => (o2.lt q hq).1)); (unfold wpList); (refine ⟨rfl, ?_⟩)))
          all_goals
            have O3 := Lib.hid o3
            have HB3 := Lib.hid B3
            clear o3 B3 o1 g1 l1 o2 g2 l2 g3 l3 B1 B2 NN1
            have hlen : (fs ++ [f]).length = m + 1 := by rw [List.length_append, HM.out]; rfl
            have HROW := Lib.hid (show FibRow w3 w.heap.size v3 (fs ++ [f]) from by
              have hr : FibRow w3 wX.heap.size v3 (fs ++ [f]) := by
                unfold FibRow
                have e : fbs fs = ts := by rw [← HT.out, List.take_of_length_le (Nat.le_of_eq HM.out)]
                rw [hlen, fbs_app, e, show m + 1 = 0 + m + 1 + 0 by omega]
                simpa [fbs] using O3.out
              exact ⟨hr.1, hr.2.imp id fun ⟨g, cap, cur, h1, h2, h3⟩ => ⟨g, cap, cur, h1, Nat.le_trans HXX.out.size h2, h3⟩⟩)
            have HSM := Lib.hid (show ∀ g ∈ (fs ++ [f]), smallF g from fun g hg => by
                rcases List.mem_append.1 hg with h | h
                · exact HS.out g h
                · rw [List.mem_singleton.1 h]; exact HF.out)
            have HLN2 := Lib.hid hlen
            have hne := HROW.out.ne (by rw [hlen]; omega)
            have HNE := Lib.hid hne
            clear hlen hne
            obtain ⟨a9, c9, n9, rfl⟩ := HROW.out.slice
            go_wp2
            go_ret
            exact ⟨_, rfl, _, HROW.out, HLN2.out, HSM.out, HNE.out, HXX.out.trans (HB3.out.mono HXX.out.size)⟩
end Go.Proofs.YtmkkdenhjfjmgaaGreat
namespace Go.Proofs.YtmkkdenhjfjmgaaGreat
open Go.RowKit

section
variable {α : Type}
def rws (m : Nat) (en : α → List Dt) (zs : List α) : Dt := .rows m (zs.flatMap en)
theorem rws_len {en : α → List Dt} {m : Nat} (hm : ∀ z, (en z).length = m) (zs : List α) : (zs.flatMap en).length = zs.length * m := flat_length hm zs
theorem rws_at {en : α → List Dt} {m : Nat} (hm : ∀ z, (en z).length = m) (nil : α) (zs : List α) {i r : Nat} (hi : i < zs.length) (hr : r < m) : (zs.flatMap en)[i * m + r]? = (en (zs[i]?.getD nil))[r]? := by
  rw [flat_at hm zs i r hr, List.getElem?_eq_getElem hi]; rfl
/-- For a walk: the elements of a slice. -/
theorem rws_opn {en : α → List Dt} {m : Nat} {w : World} {v : Value} {zs : List α} (hm : ∀ z, (en z).length = m) (hm0 : 0 < m) (nil : α) (h : Rdt w (rws m en zs) v) :
    ∃ a n cap, v = .slice a n cap ∧ Hid (zs.length = n) ∧ n ≤ cap ∧ n ≤ 9223372036854775807 ∧
    (0 < n → ∃ b off, a = some ⟨b, off, none⟩ ∧ b < w.heap.size ∧ ∀ i, i < n → ∀ r d, (en (zs[i]?.getD nil))[r]? = some d → ∃ u, w.cell? ⟨b, off + i * m + r, none⟩ = some u ∧ Rdt w d u) := by
  obtain ⟨a, n, cap, hv, HN, h1, h2, h3⟩ := h.opn
  have hn : zs.length = n := by
    have := HN.out
    rw [rws_len hm] at this
    exact Nat.eq_of_mul_eq_mul_right hm0 this
  refine ⟨a, n, cap, hv, hn, h1, h2, fun h0 => ?_⟩
  obtain ⟨b, off, ea, hb, hc⟩ := h3 h0
  refine ⟨b, off, ea, hb, fun i hi r d hd => ?_⟩
  have hr : r < m := by rw [← hm (zs[i]?.getD nil)]; exact (List.getElem?_eq_some_iff.1 hd).1
  obtain ⟨u, k1, k2⟩ := hc (i * m + r) d (by rw [rws_at hm nil zs (by omega) hr]; exact hd)
  exact ⟨u, by rw [Nat.add_assoc]; exact k1, k2⟩
/-- The first k of a slice's elements. -/
theorem rws_take {en : α → List Dt} {m : Nat} {w : World} {a : Option Addr} {n cap k : Nat} {zs : List α} (hm : ∀ z, (en z).length = m) (hm0 : 0 < m) (nil : α) (h : Rdt w (rws m en zs) (.slice a n cap)) (hk : k ≤ n) : Rdt w (rws m en (zs.take k)) (.slice a k cap) := by
  unfold rws at h ⊢
  have hlen := rws_len hm zs
  have hlk := rws_len hm (zs.take k)
  have hat : ∀ j, j < (zs.take k).length * m → ((zs.take k).flatMap en)[j]? = (zs.flatMap en)[j]? := fun j hj => by
    obtain ⟨i, r, hr, rfl⟩ : ∃ i r, r < m ∧ j = i * m + r := ⟨j / m, j % m, Nat.mod_lt _ hm0, by rw [Nat.mul_comm]; exact (Nat.div_add_mod j m).symm⟩
    have hi : i < (zs.take k).length := by
      by_cases e : i < (zs.take k).length
      · exact e
      · have := Nat.mul_le_mul_right m (Nat.le_of_not_lt e); omega
    have hi2 : i < zs.length := by rw [List.length_take] at hi; omega
    have hik : i < k := by rw [List.length_take] at hi; omega
    rw [rws_at hm nil (zs.take k) hi hr, rws_at hm nil zs hi2 hr, List.getElem?_take, if_pos hik]
  generalize zs.flatMap en = ds at *
  generalize (zs.take k).flatMap en = ds' at *
  cases h with
  | nil size =>
    obtain rfl : k = 0 := by omega
    have : ds' = [] := List.eq_nil_of_length_eq_zero (by simpa using hlk)
    rw [this]; exact .nil m
  | @mk size n b off cap ds us hl hu hn hc hb hcell hd =>
    have hzl : zs.length = n := Nat.eq_of_mul_eq_mul_right hm0 (by omega)
    have hkl : (zs.take k).length = k := by rw [List.length_take]; omega
    rw [hkl] at hlk hat
    have hkm := Nat.mul_le_mul_right m hk
    refine .mk (us := us.take (k * m)) hlk (by rw [List.length_take, hlk]; omega) (by omega) hc hb (fun j u hj => ?_) (fun j d u e1 e2 => ?_)
    · rw [List.getElem?_take] at hj
      split at hj
      · exact hcell j u hj
      · cases hj
    · rw [List.getElem?_take] at e2
      split at e2
      · rename_i hjk
        rw [hat j hjk] at e1
        exact hd j d u e1 e2
      · cases e2
end
end Go.Proofs.YtmkkdenhjfjmgaaGreat
namespace Go.Proofs.YtmkkdenhjfjmgaaGreat
open Go.RowKit

/-! ### Routes -/
structure Rou where
  st : Int
  fb : List Int
/-- The node at the other end of a fiber, or -1. -/
def othE (f : Fib) (node : Int) : Int := if node = f.a then f.b else if node = f.b then f.a else -1
/-- The nodes of a route, on from those that have been visited, the last of which is 'at'. -/
def wlk (n : Net) : List Int → Int → List Int → Option (List Int)
  | out, _, [] => some out
  | out, t, i :: is => if inB i 0 ((n.fs.length : Int) - 1) then (if othE (fbA n i.toNat) t < 0 ∨ othE (fbA n i.toNat) t ∈ out then none else wlk n (out ++ [othE (fbA n i.toNat) t]) (othE (fbA n i.toNat) t) is) else none
def rouN (n : Net) (r : Rou) : Option (List Int) := if inB r.st 0 ((n.ns.length : Int) - 1) && !r.fb.isEmpty then wlk n [r.st] r.st r.fb else none
def rouOk (n : Net) (r : Rou) : Bool := (rouN n r).isSome
theorem wlk_step {n : Net} {out : List Int} {t : Int} {xs : List Int} {k : Nat} (hk : k < xs.length) : wlk n out t (xs.drop k) = (if inB (xs[k]?.getD 0) 0 ((n.fs.length : Int) - 1) then (if othE (fbA n (xs[k]?.getD 0).toNat) t < 0 ∨ othE (fbA n (xs[k]?.getD 0).toNat) t ∈ out then none else wlk n (out ++ [othE (fbA n (xs[k]?.getD 0).toNat) t]) (othE (fbA n (xs[k]?.getD 0).toNat) t) (xs.drop (k + 1))) else none) := by
  rw [List.drop_eq_getElem_cons hk, List.getElem?_eq_getElem hk]
  rfl

/-! ### Blocks -/
def blkOk (f c : Int) : Bool := decide (0 ≤ f) && (inB c 1 24 && decide (f ≤ 24 - c))
theorem blkOk_bd {f c : Int} (h : blkOk f c = true) : 0 ≤ f ∧ 1 ≤ c ∧ f + c ≤ 24 := by
  unfold blkOk at h
  simp only [Bool.and_eq_true, decide_eq_true_eq] at h
  have := inB_true h.2.1
  omega
/-- The mask of a block. -/
def mskN (f c : Nat) : Nat := (2 ^ c - 1) * 2 ^ f
/-! ### Lights -/
structure Lgt where
  id : Int
  st : Int
  fb : List Int
  fi : Int
  ct : Int
def nilL : Lgt := ⟨0, 0, [], 0, 0⟩
def lgtD (x : Lgt) : List Dt := [.leaf (.int .i64 x.id), .leaf (.int .i64 x.st), inD x.fb, .leaf (.int .i64 x.fi), .leaf (.int .i64 x.ct)]
def lgtOk (n : Net) (x : Lgt) : Bool := rouOk n ⟨x.st, x.fb⟩ && inB x.id 1 999 && blkOk x.fi x.ct
def meets (xs ys : List Int) : Bool := xs.any fun x => ys.contains x
/-- Do two blocks have a slot in common? -/
def hitB (x y : Lgt) : Bool := decide (x.fi < y.fi + y.ct ∧ y.fi < x.fi + x.ct)
def collB (x y : Lgt) : Bool := hitB x y && meets x.fb y.fb

/-! ### Plans -/
structure Pln where
  n : Net
  ls : List Lgt
abbrev lgA (p : Pln) (i : Nat) : Lgt := p.ls[i]?.getD nilL
def ltOk (p : Pln) (i : Nat) : Bool := lgtOk p.n (lgA p i) && (!(decide (0 < i) && decide ((lgA p i).id ≤ (lgA p (i - 1)).id)) && !((p.ls.take i).any fun y => collB y (lgA p i)))
def plnOk (p : Pln) : Bool := netOk p.n && (decide (p.ls.length ≤ 12) && (List.range p.ls.length).all (ltOk p))
/-- The value reads as the plan. -/
def PlnR (w : World) (v : Value) (p : Pln) : Prop := ∃ u1 u2 u3, v = .agg #[u1, u2, u3] ∧ Rdt w (flt 1 strE p.n.ns) u1 ∧ Rdt w (flt 4 fibE p.n.fs) u2 ∧ Rdt w (rws 5 lgtD p.ls) u3 ∧ ∀ i : Nat, (nmA p.n i).size ≤ 1048576
theorem PlnR.behind {w w' : World} {v : Value} {p : Pln} (h : PlnR w v p) (hb : Below w.heap.size w w') : PlnR w' v p := by
  obtain ⟨u1, u2, u3, e, h1, h2, h3, h4⟩ := h; exact ⟨u1, u2, u3, e, h1.behind hb, h2.behind hb, h3.behind hb, h4⟩
theorem PlnR.net {w : World} {u1 u2 u3 : Value} {p : Pln} (h : PlnR w (.agg #[u1, u2, u3]) p) : NetR w (.agg #[u1, u2]) p.n := by
  obtain ⟨x1, x2, x3, e, h1, h2, _, h4⟩ := h
  simp only [Value.agg.injEq, Array.mk.injEq, List.cons.injEq, and_true] at e
  obtain ⟨rfl, rfl, rfl⟩ := e
  exact ⟨_, _, rfl, h1, h2, h4⟩
end Go.Proofs.YtmkkdenhjfjmgaaGreat
