/- Joined: XConP XConW XFmtW XWlk. -/
import Derived.Test.YtonpcgdnfclidaaGreatDoorBh08
import Derived.Test.YtonpcgdnfclidaaGreatDoorBh10
import Derived.Test.YtonpcgdnfclidaaGreatDoorBh02
import Derived.Test.YtonpcgdnfclidaaGreatDoorBh03
import Derived.Lib.QuietBelow
import Derived.Test.YtonpcgdnfclidaaGreatDoorBh05
namespace Go.Proofs.YtonpcgdnfclidaaGreatDoor
open Go.RowKit Go.Sort
set_option maxRecDepth 100000

structure Con where
  p : Pln
  fm : List Fmt
  d : ByteArray
  e : ByteArray
  n : Int
def conOk (c : Con) : Bool := plnOk c.p && (fmOk c.fm && vlB c.d c.e c.n)
def ConR (w : World) (v : Value) (c : Con) : Prop := ∃ u1 u2 u3 u4, v = .agg #[u1, u2, u3, u4, .string c.d, .string c.e, .int .i64 c.n] ∧ PlnR w (.agg #[u1, u2, u3]) c.p ∧ Rdt w (flt 2 fmE c.fm) u4
def ConW (w : World) (v : Value) (c : Con) : Prop := ∃ u1 u2 u3 u4, v = .agg #[u1, u2, u3, u4, .string c.d, .string c.e, .int .i64 c.n] ∧ PlnW w (.agg #[u1, u2, u3]) c.p ∧ Rwt w (flt 2 fmE c.fm) u4 ∧ c.d.size ≤ maxLen ∧ c.e.size ≤ maxLen
def ConO (w : World) (c : Con) (v : Value) (fp : List Nat) : Prop := ∃ u1 u2 u3 u4 f1 f2, v = .agg #[u1, u2, u3, u4, .string c.d, .string c.e, .int .i64 c.n] ∧ PlnO w c.p (.agg #[u1, u2, u3]) f1 ∧ Odt w (flt 2 fmE c.fm) u4 f2 ∧ fp = f1 ++ f2
theorem ConR.behind {w w' : World} {v : Value} {c : Con} (h : ConR w v c) (hb : Below w.heap.size w w') : ConR w' v c := by
  obtain ⟨u1, u2, u3, u4, e, h1, h2⟩ := h; exact ⟨u1, u2, u3, u4, e, h1.behind hb, h2.behind hb⟩
theorem ConW.behind {w w' : World} {v : Value} {c : Con} (h : ConW w v c) (hb : Below w.heap.size w w') : ConW w' v c := by
  obtain ⟨u1, u2, u3, u4, e, h1, h2, h3⟩ := h; exact ⟨u1, u2, u3, u4, e, h1.behind hb, h2.behind hb, h3⟩
theorem ConO.behind {w w' : World} {v : Value} {c : Con} {fp : List Nat} (h : ConO w c v fp) (hb : Below w.heap.size w w') : ConO w' c v fp := by
  obtain ⟨u1, u2, u3, u4, f1, f2, e, h1, h2, h3⟩ := h; exact ⟨u1, u2, u3, u4, f1, f2, e, h1.behind hb, h2.behind hb, h3⟩
theorem ConO.rd {w : World} {v : Value} {c : Con} {fp : List Nat} (h : ConO w c v fp) (hs : NetSm c.p.n) : ConR w v c := by
  obtain ⟨u1, u2, u3, u4, f1, f2, e, h1, h2, h3⟩ := h; exact ⟨u1, u2, u3, u4, e, h1.rd hs, h2.rd⟩
theorem ConO.lt {w : World} {v : Value} {c : Con} {fp : List Nat} (h : ConO w c v fp) : ∀ k ∈ fp, k < w.heap.size := by
  obtain ⟨u1, u2, u3, u4, f1, f2, e, h1, h2, rfl⟩ := h
  intro k hk
  rcases List.mem_append.1 hk with hk | hk
  · exact h1.lt k hk
  · exact h2.lt k hk
theorem ConO.apart {w w' : World} {c : Con} {v : Value} {fp fq : List Nat} (h : ConO w c v fp) (hw : Wr w w' fq) (hd : ∀ k ∈ fp, k ∉ fq) : ConO w' c v fp := by
  obtain ⟨u1, u2, u3, u4, f1, f2, e, h1, h2, rfl⟩ := h
  exact ⟨u1, u2, u3, u4, f1, f2, e, h1.apart hw (fun k hk => hd k (by simp [hk])), h2.apart hw (fun k hk => hd k (by simp [hk])), rfl⟩
theorem ConO.form {w : World} {c : Con} {v : Value} {fp : List Nat} (h : ConO w c v fp) : ∃ a1 n1 c1 a2 n2 c2 a3 n3 c3 a4 n4 c4, v = .agg #[.slice a1 n1 c1, .slice a2 n2 c2, .slice a3 n3 c3, .slice a4 n4 c4, .string c.d, .string c.e, .int .i64 c.n] := by
  obtain ⟨u1, u2, u3, u4, f1, f2, rfl, h1, h2, _⟩ := h
  obtain ⟨a1, n1, c1, a2, n2, c2, a3, n3, c3, e⟩ := h1.form
  simp only [Value.agg.injEq, Array.mk.injEq, List.cons.injEq, and_true] at e
  obtain ⟨rfl, rfl, rfl⟩ := e
  obtain ⟨a4, n4, c4, rfl⟩ := Rdt.slice (show Rdt w (.rows _ _) u4 from h2.rd)
  exact ⟨_, _, _, _, _, _, _, _, _, _, _, _, rfl⟩
theorem ConR.form {w : World} {c : Con} {v : Value} (h : ConR w v c) : ∃ a1 n1 c1 a2 n2 c2 a3 n3 c3 a4 n4 c4, v = .agg #[.slice a1 n1 c1, .slice a2 n2 c2, .slice a3 n3 c3, .slice a4 n4 c4, .string c.d, .string c.e, .int .i64 c.n] ∧ PlnR w (.agg #[.slice a1 n1 c1, .slice a2 n2 c2, .slice a3 n3 c3]) c.p ∧ Rdt w (flt 2 fmE c.fm) (.slice a4 n4 c4) := by
  obtain ⟨u1, u2, u3, u4, rfl, h1, h2⟩ := h
  obtain ⟨x1, x2, x3, e, r1, r2, r3, hs⟩ := id h1
  simp only [Value.agg.injEq, Array.mk.injEq, List.cons.injEq, and_true] at e
  obtain ⟨rfl, rfl, rfl⟩ := e
  obtain ⟨a1, n1, c1, rfl⟩ := Rdt.slice (show Rdt w (.rows _ _) u1 from r1)
  obtain ⟨a2, n2, c2, rfl⟩ := Rdt.slice (show Rdt w (.rows _ _) u2 from r2)
  obtain ⟨a3, n3, c3, rfl⟩ := Rdt.slice (show Rdt w (.rows _ _) u3 from r3)
  obtain ⟨a4, n4, c4, rfl⟩ := Rdt.slice (show Rdt w (.rows _ _) u4 from h2)
  exact ⟨_, _, _, _, _, _, _, _, _, _, _, _, rfl, h1, h2⟩
theorem ConW.form {w : World} {c : Con} {v : Value} (h : ConW w v c) : ∃ a1 n1 c1 a2 n2 c2 a3 n3 c3 a4 n4 c4, v = .agg #[.slice a1 n1 c1, .slice a2 n2 c2, .slice a3 n3 c3, .slice a4 n4 c4, .string c.d, .string c.e, .int .i64 c.n] ∧ PlnW w (.agg #[.slice a1 n1 c1, .slice a2 n2 c2, .slice a3 n3 c3]) c.p ∧ Rwt w (flt 2 fmE c.fm) (.slice a4 n4 c4) ∧ c.d.size ≤ maxLen ∧ c.e.size ≤ maxLen := by
  obtain ⟨u1, u2, u3, u4, rfl, h1, h2, h3⟩ := h
  obtain ⟨x1, x2, x3, e, r1, r2, r3, hs⟩ := id h1
  simp only [Value.agg.injEq, Array.mk.injEq, List.cons.injEq, and_true] at e
  obtain ⟨rfl, rfl, rfl⟩ := e
  obtain ⟨a1, n1, c1, rfl⟩ := r1.slice
  obtain ⟨a2, n2, c2, rfl⟩ := r2.slice
  obtain ⟨a3, n3, c3, rfl⟩ := r3.slice
  obtain ⟨a4, n4, c4, rfl⟩ := Rwt.slice (show Rwt w (.rows _ _) u4 from h2)
  exact ⟨_, _, _, _, _, _, _, _, _, _, _, _, rfl, h1, h2, h3⟩
theorem Stx.pln {w w' : World} {b : Nat} {new : Array Value} {T : TypeId} {p : Pln} {v : Value} {fp : List Nat} (h : Stx w w' b new T) (ho : PlnO w p v fp) (hb : b ∉ fp) : PlnO w' p v fp := by
  obtain ⟨u1, u2, u3, f1, f2, f3, e, h1, h2, h3, rfl⟩ := ho
  exact ⟨u1, u2, u3, f1, f2, f3, e, h.odt h1 (fun hk => hb (by simp [hk])), h.odt h2 (fun hk => hb (by simp [hk])), h.odt h3 (fun hk => hb (by simp [hk])), rfl⟩

theorem szLog_Q (d p : ByteArray) (n l : Int) (w : World) (hd : d.size ≤ maxLen) (hp : p.size ≤ maxLen) (h0 : 0 ≤ l) (h1 : l ≤ 1048576) :
    Calls Tryz.prog 26 #[.agg #[.string d, .string p, .int .i64 n], .int .i64 l] w (SzQ (d.size + p.size) l w) := by
  unfold maxLen at hd hp
  have hb0 : Below w.heap.size w (w.alloc (.cells #[.string d, .string p, .int .i64 n] 31)) := (Below.refl _ _).alloc (Nat.le_refl _) _
  by_cases c1 : l - (d.size : Int) < 0
  · go_enter Tryz.func26, Tryz.ntmps26
    go_wp2
    go_ret
    exact ⟨-1, rfl, hb0, .inl ⟨rfl, by omega⟩⟩
  · by_cases c2 : l - (d.size : Int) - (p.size : Int) < 0
    · go_enter Tryz.func26, Tryz.ntmps26
      go_wp2
      go_ret
      exact ⟨-1, rfl, hb0, .inl ⟨rfl, by omega⟩⟩
    · go_enter Tryz.func26, Tryz.ntmps26
      go_wp2
      go_ret
      exact ⟨_, rfl, hb0, .inr ⟨by omega, by omega⟩⟩
theorem toLogC_any (d p : ByteArray) (n : Int) (w : World) :
    Calls Tryz.prog 29 #[.agg #[.string d, .string p, .int .i64 n]] w fun e w' =>
      e = .returned (.agg #[.string d, .string p, .int .i64 n]) ∧ Below w.heap.size w w' := by
  go_enter Tryz.func29, Tryz.ntmps29
  go_wp2
  exact bodyPost_ret (v := .agg #[.string d, .string p, .int .i64 n]) (by simp [results, Tryz.results29, go_sem]) rfl ⟨rfl, by refine (((Below.refl _ _).alloc (Nat.le_refl _) _).alloc ?_ _).alloc ?_ _ <;> simp <;> omega⟩
def szC (c : Con) : Nat := szP c.p + (c.fm.length + (c.d.size + c.e.size))
set_option maxHeartbeats 1600000 in
theorem szConsole_any (v : Value) (c : Con) (l : Int) (w : World) (h : ConW w v c) (h0 : 0 ≤ l) (h1 : l ≤ 1048576) :
    Calls Tryz.prog 6 #[v, .int .i64 l] w (SzQ (szC c) l w) := by
  obtain ⟨a1, n1, c1, a2, n2, c2, a3, n3, c3, a4, n4, c4, rfl, hp, hf, hd, he⟩ := h.form
  obtain ⟨p, fm, d, e, n⟩ := c
  obtain ⟨bx, bc, blt, -⟩ := box_facts w #[.slice a1 n1 c1, .slice a2 n2 c2, .slice a3 n3 c3, .slice a4 n4 c4, .string d, .string e, .int .i64 n] 33
  have q3 := bc 3 _ rfl
  have q4 := bc 4 _ rfl
  have q5 := bc 5 _ rfl
  have q6 := bc 6 _ rfl
  have HS1 := Lib.hid (szPlan_any _ p l _ (hp.behind bx) h0 h1)
  have HS2 := Lib.hid (fun l' w' (hb : Below w.heap.size w w') (h0 : 0 ≤ l') (h1 : l' ≤ 1048576) => szFormatS_Q (.slice a4 n4 c4) fm l' w' (hf.behind hb) h0 h1)
  have HS3 := Lib.hid (fun l' w' (h0 : 0 ≤ l') (h1 : l' ≤ 1048576) => szLog_Q d e n l' w' hd he h0 h1)
  have HB := Lib.hid bx
  have HN := Lib.hid (show szC ⟨p, fm, d, e, n⟩ = szP p + (fm.length + (d.size + e.size)) from rfl)
  unfold SzQ at HS1 HS2 HS3 ⊢
  clear h bx bc hp hf hd he
  generalize szC ⟨p, fm, d, e, n⟩ = N at *
  generalize szP p = N1 at *
  generalize fm.length = N2 at *
  generalize d.size + e.size = N3 at *
  go_enter Tryz.func6, Tryz.ntmps6
  go_wp2_with fail
  generalize w.alloc (.cells #[.slice a1 n1 c1, .slice a2 n2 c2, .slice a3 n3 c3, .slice a4 n4 c4, .string d, .string e, .int .i64 n] 33) = w1 at *
  refine HS1.out.mono ?_
  rintro e1 w2 ⟨r, rfl, b2, hr⟩
  have HR := Lib.hid hr
  clear hr
  have p3 := (b2.cell (p := ⟨w.heap.size, 3, none⟩) blt).trans q3
  have p4 := (b2.cell (p := ⟨w.heap.size, 4, none⟩) blt).trans q4
  have p5 := (b2.cell (p := ⟨w.heap.size, 5, none⟩) blt).trans q5
  have p6 := (b2.cell (p := ⟨w.heap.size, 6, none⟩) blt).trans q6
  have hlt2 := Nat.lt_of_lt_of_le blt b2.size
  have HB2 := Lib.hid (HB.out.trans (b2.mono HB.out.size))
  clear b2 q3 q4 q5 q6
  by_cases hneg : r < 0
  · have hb : decide (r < 0) = true := decide_eq_true hneg
    go_wp2
    go_ret
    exact ⟨-1, rfl, HB2.out, .inl ⟨rfl, by have := HN.out; have := HR.out; omega⟩⟩
  have hb : decide (r < 0) = false := decide_eq_false hneg
  have HR2 := Lib.hid (show r = l - N1 ∧ 0 ≤ r by have := HR.out; omega)
  have HS4 := Lib.hid (HS2.out r w2 HB2.out HR2.out.2 (by have := HR2.out; omega))
  go_wp2_with fail
  refine HS4.out.mono ?_
  rintro e1 w3 ⟨r3, rfl, b3, hr3⟩
  have HR3 := Lib.hid hr3
  clear hr3
  have t4 := (b3.cell (p := ⟨w.heap.size, 4, none⟩) hlt2).trans p4
  have t5 := (b3.cell (p := ⟨w.heap.size, 5, none⟩) hlt2).trans p5
  have t6 := (b3.cell (p := ⟨w.heap.size, 6, none⟩) hlt2).trans p6
  have HB3 := Lib.hid (HB2.out.trans (b3.mono HB2.out.size))
  clear b3 p3 p4 p5 p6 hb
  by_cases hneg3 : r3 < 0
  · have hb3 : decide (r3 < 0) = true := decide_eq_true hneg3
    go_wp2
    go_ret
    exact ⟨-1, rfl, HB3.out, .inl ⟨rfl, by have := HN.out; have := HR2.out; have := HR3.out; omega⟩⟩
  have hb3 : decide (r3 < 0) = false := decide_eq_false hneg3
  have HR4 := Lib.hid (show r3 = r - N2 ∧ 0 ≤ r3 by have := HR3.out; omega)
  have HS5 := Lib.hid (HS3.out r3 w3 HR4.out.2 (by have := HR2.out; have := HR4.out; omega))
  go_wp2_with fail
  refine HS5.out.mono ?_
  rintro e1 w4 ⟨r5, rfl, b4, hr5⟩
  have HR5 := Lib.hid hr5
  have HB4 := Lib.hid (HB3.out.trans (b4.mono HB3.out.size))
  clear hr5 b4 t4 t5 t6 hb3
  by_cases hneg5 : r5 < 0
  · have hb5 : decide (r5 < 0) = true := decide_eq_true hneg5
    go_wp2
    go_ret
    exact ⟨-1, rfl, HB4.out, .inl ⟨rfl, by have := HN.out; have := HR2.out; have := HR4.out; have := HR5.out; omega⟩⟩
  have hb5 : decide (r5 < 0) = false := decide_eq_false hneg5
  go_wp2
  go_ret
  exact ⟨r5, rfl, HB4.out, .inr ⟨by have := HN.out; have := HR2.out; have := HR4.out; have := HR5.out; omega, by omega⟩⟩
end Go.Proofs.YtonpcgdnfclidaaGreatDoor
namespace Go.Proofs.YtonpcgdnfclidaaGreatDoor
open Go.RowKit Go.Sort
set_option maxRecDepth 100000

theorem putA_before {i : Nat} : ∀ (us : List Value) (cur : Array Value) (o : Nat), i < o → (putA cur o us)[i]? = cur[i]?
  | [], _, _, _ => rfl
  | u :: us, cur, o, h => by
    rw [putA, putA_before us _ (o + 1) (by omega), Array.getElem?_setIfInBounds, if_neg (by omega)]
theorem putA_at : ∀ (us : List Value) (cur : Array Value) (o j : Nat) (u : Value), us[j]? = some u → o + j < cur.size → (putA cur o us)[o + j]? = some u
  | [], _, _, j, u, h, _ => by simp at h
  | x :: us, cur, o, 0, u, h, hs => by
    simp only [List.getElem?_cons_zero, Option.some.injEq] at h
    subst h
    rw [putA, putA_before us _ (o + 1) (by omega), Array.getElem?_setIfInBounds, if_pos (by omega), if_pos (by omega)]
  | x :: us, cur, o, j + 1, u, h, hs => by
    rw [putA, show o + (j + 1) = (o + 1) + j by omega]
    exact putA_at us _ (o + 1) j u (by simpa using h) (by simp; omega)
theorem blkp {w : World} {b j : Nat} {cur : Array Value} {us : List Value} {T : TypeId} {u : Value} (h : w.heap[b]? = some (.cells (putA cur 0 us) T (0, 0))) (hj : us[j]? = some u) (hs : j < cur.size) : w.cell? ⟨b, j, none⟩ = some u :=
  blkc h (by have := putA_at us cur 0 j u hj (by omega); rwa [Nat.zero_add] at this)
set_option maxHeartbeats 1600000 in
theorem toConsole_any (v : Value) (c : Con) (w : World) (h : ConW w v c) (h1 : c.p.n.ns.length ≤ 1048576) (h2 : c.p.n.fs.length ≤ 1048576) (h3 : c.p.ls.length ≤ 1048576) (h4 : ∀ i : Nat, (lgA c.p i).fb.length ≤ 1048576) (h5 : c.fm.length ≤ 1048576) :
    Calls Tryz.prog 8 #[v] w (ToP (fun w' => ConO w' c) w) := by
  obtain ⟨a1, n1, c1, a2, n2, c2, a3, n3, c3, a4, n4, c4, rfl, hp, hf, hd, he⟩ := h.form
  obtain ⟨p, fm, d, e, n⟩ := c
  obtain ⟨b3, k1, k2, k3, hz⟩ := three_boxes w #[.slice a1 n1 c1, .slice a2 n2 c2, .slice a3 n3 c3, .slice a4 n4 c4, .string d, .string e, .int .i64 n] #[.slice none 0 0, .slice none 0 0, .slice none 0 0, .slice none 0 0, .string ⟨#[]⟩, .string ⟨#[]⟩, .int .i64 0] #[.slice none 0 0, .slice none 0 0, .slice none 0 0, .slice none 0 0, .string ⟨#[]⟩, .string ⟨#[]⟩, .int .i64 0] 33 45 45
  have HB := Lib.hid b3
  have K1 := Lib.hid k1
  have K2 := Lib.hid k2
  have K3 := Lib.hid k3
  have HZ := Lib.hid hz
  have HT1 := Lib.hid (toPlan_any _ p _ (hp.behind b3) h1 h2 h3 h4)
  have HT2 := Lib.hid (fun w' (hb : Below w.heap.size w w') => toFormatS_P (.slice a4 n4 c4) fm w' (hf.behind hb) h5)
  have HT3 := Lib.hid (fun w => toLogC_any d e n w)
  unfold ToP at HT1 ⊢
  clear b3 k1 k2 k3 hz hp hf hd he h
  go_enter Tryz.func8, Tryz.ntmps8
  go_wp2_with fail
  refine HT1.out.mono ?_
  rintro e1 w4 ⟨v4, f1, rfl, o1, o2, o3, b4⟩
  obtain ⟨a5, n5, c5, a6, n6, c6, a7, n7, c7, rfl⟩ := o1.form
  have m1 := kept_o' K1.out b4
  have x3 := blkc m1 (j := 3) (u := .slice a4 n4 c4) rfl
  have M1 := Lib.hid m1
  have M2 := Lib.hid (kept_o' K2.out b4)
  have M3 := Lib.hid (kept_o' K3.out b4)
  have HB4 := Lib.hid (HB.out.trans (b4.mono HB.out.size))
  have P1 := Lib.hid o1
  have HN4 := Lib.hid o2
  have HL4 := Lib.hid (show ∀ k ∈ f1, w.heap.size + 1 + 1 < k ∧ k < w4.heap.size from fun k hk => by
    have h1 := o3 k hk; have := HZ.out; have := o1.lt k hk; omega)
  have hs4 : w.heap.size + 1 + 1 < w4.heap.size := by have := b4.size; have := HZ.out; omega
  clear b4 o1 o2 o3 K1 K2 K3 m1
  go_wp2_with (((show wpList _ _ _ (⟨none, .store 41 _ _, _, _, _, _⟩ :: _) _ _); refine wpList_stx rfl 41 _ _ rfl (w.heap.size + 1 + 1) 0 [.slice a5 n5 c5, .slice a6 n6 c6, .slice a7 n7 c7] rfl rfl M3.out (by simp) (by kernel_rfl) (by simp [Value.oneCell']) ?_; intro w5 hs; have n1 := hs.keep (by omega) M1.out; have N2 := Lib.hid (hs.keep (by omega) M2.out); have N3 := Lib.hid hs.blk; have HB5 := Lib.hid (hs.below w.heap.size w (by omega) HB4.out); have P1 := Lib.hid (hs.pln P1.out (fun hk => by have := HL4.out _ hk; omega)); have HSZ := Lib.hid hs.size; clear x3; have x3 := blkc n1 (j := 3) (u := .slice a4 n4 c4) rfl; have N1 := Lib.hid n1; clear hs n1))
  go_wp2_with fail
  refine (HT2.out _ HB5.out).mono ?_
  rintro e1 w6 ⟨v6, f3, rfl, o6, hn6, g6, b6⟩
  obtain ⟨a8, n8, c8, rfl⟩ := Rdt.slice (show Rdt w6 (.rows _ _) v6 from o6.rd)
  have m1 := kept_o' N1.out b6
  have M1 := Lib.hid m1
  have x4 := blkc m1 (j := 4) (u := .string d) rfl
  have x5 := blkc m1 (j := 5) (u := .string e) rfl
  have x6 := blkc m1 (j := 6) (u := .int .i64 n) rfl
  have M2 := Lib.hid (kept_o' N2.out b6)
  have M3 := Lib.hid (kept_o' N3.out b6)
  have HB6 := Lib.hid (HB5.out.trans (b6.mono HB5.out.size))
  have P1 := Lib.hid (P1.out.behind b6)
  have P3 := Lib.hid o6
  have HN6 := Lib.hid hn6
  have HL6 := Lib.hid (show ∀ k ∈ f3, w4.heap.size ≤ k from fun k hk => by have := g6 k hk; have := HSZ.out; omega)
  clear b6 x3 o6 hn6 g6 m1 N1 N2 N3
  go_wp2_with (((show wpList _ _ _ (⟨none, .store 42 _ _, _, _, _, _⟩ :: _) _ _); refine wpList_st1 rfl 42 _ _ rfl (w.heap.size + 1 + 1) 3 (.slice a8 n8 c8) rfl rfl M3.out (by simp [putA]) (by kernel_rfl) ⟨rfl, rfl⟩ ?_; intro w7 hs; have n1 := hs.keep (by omega) M1.out; have N2 := Lib.hid (hs.keep (by omega) M2.out); have N3 := Lib.hid hs.blk; have HB7 := Lib.hid (hs.below w.heap.size w (by omega) HB6.out); have P1 := Lib.hid (hs.pln P1.out (fun hk => by have := HL4.out _ hk; omega)); have P3 := Lib.hid (hs.odt P3.out (fun hk => by have := HL6.out _ hk; omega)); clear hs x4 x5 x6; have x4 := blkc n1 (j := 4) (u := .string d) rfl; have x5 := blkc n1 (j := 5) (u := .string e) rfl; have x6 := blkc n1 (j := 6) (u := .int .i64 n) rfl; clear n1))
  go_wp2_with fail
  refine (HT3.out _).mono ?_
  rintro e1 w8 ⟨rfl, b8⟩
  have M2 := Lib.hid (kept_o' N2.out b8)
  have M3 := Lib.hid (kept_o' N3.out b8)
  have HB8 := Lib.hid (HB7.out.trans (b8.mono HB7.out.size))
  have P1 := Lib.hid (P1.out.behind b8)
  have P3 := Lib.hid (P3.out.behind b8)
  clear b8 x4 x5 x6 N2 N3
  go_wp2_with (first
    | ((show wpList _ _ _ (⟨none, .store 43 _ _, _, _, _, _⟩ :: _) _ _); refine wpList_stx rfl 43 _ _ rfl (w.heap.size + 1 + 1) 4 [.string d, .string e, .int .i64 n] rfl rfl M3.out (by simp [putA]) (by kernel_rfl) (by simp [Value.oneCell']) ?_; intro w9 hs; have N2 := Lib.hid (hs.keep (by omega) M2.out); have N3 := Lib.hid hs.blk; have HB9 := Lib.hid (hs.below w.heap.size w (by omega) HB8.out); have P1 := Lib.hid (hs.pln P1.out (fun hk => by have := HL4.out _ hk; omega)); have P3 := Lib.hid (hs.odt P3.out (fun hk => by have := HL6.out _ hk; omega)); clear hs)
    | ((show wpList _ _ _ (⟨some _, .load 45 _, _, _, _, _⟩ :: _) _ _); refine wpList_ldx rfl 45 _ rfl (w.heap.size + 1 + 1) 0 rfl [.slice a5 n5 c5, .slice a6 n6 c6, .slice a7 n7 c7, .slice a8 n8 c8, .string d, .string e, .int .i64 n] N3.out rfl _ (by exact Tryz.underlying45) rfl (by kernel_rfl) ?_)
    | ((show wpList _ _ _ (⟨none, .store 45 _ _, _, _, _, _⟩ :: _) _ _); refine wpList_stx rfl 45 _ _ rfl (w.heap.size + 1) 0 [.slice a5 n5 c5, .slice a6 n6 c6, .slice a7 n7 c7, .slice a8 n8 c8, .string d, .string e, .int .i64 n] rfl rfl N2.out (by simp) (by kernel_rfl) (by simp [Value.oneCell']) ?_; intro w10 hs; have n2 := hs.blk; have HB10 := Lib.hid (hs.below w.heap.size w (by omega) HB9.out); have P1 := Lib.hid (hs.pln P1.out (fun hk => by have := HL4.out _ hk; omega)); have P3 := Lib.hid (hs.odt P3.out (fun hk => by have := HL6.out _ hk; omega)); clear hs; have t0 := blkp n2 (j := 0) (u := .slice a5 n5 c5) rfl (by decide); have t1 := blkp n2 (j := 1) (u := .slice a6 n6 c6) rfl (by decide); have t2 := blkp n2 (j := 2) (u := .slice a7 n7 c7) rfl (by decide); have t3 := blkp n2 (j := 3) (u := .slice a8 n8 c8) rfl (by decide); have t4 := blkp n2 (j := 4) (u := .string d) rfl (by decide); have t5 := blkp n2 (j := 5) (u := .string e) rfl (by decide); have t6 := blkp n2 (j := 6) (u := .int .i64 n) rfl (by decide)))
  exact bodyPost_ret (v := .agg #[.slice a5 n5 c5, .slice a6 n6 c6, .slice a7 n7 c7, .slice a8 n8 c8, .string d, .string e, .int .i64 n]) (by simp [results, Tryz.results8, go_sem, t0, t1, t2, t3, t4, t5, t6]) rfl ⟨_, f1 ++ f3, rfl, ⟨_, _, _, _, _, _, rfl, P1.out, P3.out, rfl⟩, List.nodup_append.2 ⟨HN4.out, HN6.out, fun a ha b hb e => by have := HL4.out a ha; have := HL6.out b hb; omega⟩, fun k hk => by
    rcases List.mem_append.1 hk with hk | hk
    · have := HL4.out k hk; omega
    · have := HL6.out k hk; omega, HB10.out⟩
set_option maxHeartbeats 1600000 in
theorem eqConsole_same (va vb : Value) (c : Con) (w : World) (ha : ConR w va c) (hb : ConR w vb c) :
    Calls Tryz.prog 10 #[va, vb] w fun e w' => e = .returned (.bool true) ∧ Below w.heap.size w w' := by
  obtain ⟨a1, n1, c1, a2, n2, c2, a3, n3, c3, a4, n4, c4, rfl, hp, hf⟩ := ha.form
  obtain ⟨a5, n5, c5, a6, n6, c6, a7, n7, c7, a8, n8, c8, rfl, hp2, hf2⟩ := hb.form
  obtain ⟨p, fm, d, e, n⟩ := c
  obtain ⟨x, y, hx, hy⟩ : ∃ x y, x = (.cells #[.slice a1 n1 c1, .slice a2 n2 c2, .slice a3 n3 c3, .slice a4 n4 c4, .string d, .string e, .int .i64 n] 45 : Obj) ∧ y = (.cells #[.slice a5 n5 c5, .slice a6 n6 c6, .slice a7 n7 c7, .slice a8 n8 c8, .string d, .string e, .int .i64 n] 45 : Obj) := ⟨_, _, rfl, rfl⟩
  have h1 := (Below.refl w.heap.size w).alloc (Nat.le_refl _) (.cells #[.slice a1 n1 c1, .slice a2 n2 c2, .slice a3 n3 c3, .slice a4 n4 c4, .string d, .string e, .int .i64 n] 45)
  have h2 := h1.alloc h1.size (.cells #[.slice a5 n5 c5, .slice a6 n6 c6, .slice a7 n7 c7, .slice a8 n8 c8, .string d, .string e, .int .i64 n] 45)
  have k1 := heap_alloc_new w (.cells #[.slice a1 n1 c1, .slice a2 n2 c2, .slice a3 n3 c3, .slice a4 n4 c4, .string d, .string e, .int .i64 n] 45)
  have k1' := (heap_alloc_old _ (.cells #[.slice a5 n5 c5, .slice a6 n6 c6, .slice a7 n7 c7, .slice a8 n8 c8, .string d, .string e, .int .i64 n] 45) (Array.getElem?_eq_some_iff.1 k1).1).trans k1
  have k2 := heap_alloc_new (w.alloc (.cells #[.slice a1 n1 c1, .slice a2 n2 c2, .slice a3 n3 c3, .slice a4 n4 c4, .string d, .string e, .int .i64 n] 45)) (.cells #[.slice a5 n5 c5, .slice a6 n6 c6, .slice a7 n7 c7, .slice a8 n8 c8, .string d, .string e, .int .i64 n] 45)
  rw [show (w.alloc (.cells #[.slice a1 n1 c1, .slice a2 n2 c2, .slice a3 n3 c3, .slice a4 n4 c4, .string d, .string e, .int .i64 n] 45)).heap.size = w.heap.size + 1 by simp] at k2
  have K1 := Lib.hid k1'
  have K2 := Lib.hid k2
  have HE1 := Lib.hid (eqPlan_same _ _ p _ (hp.behind h2) (hp2.behind h2))
  have HE2 := Lib.hid (fun w' (hb : Below w.heap.size w w') => eqFormatS_same _ _ fm w' (hf.behind hb) (hf2.behind hb))
  have HE3 := Lib.hid (fun w => eqLog_any d e n w)
  have HB := Lib.hid h2
  clear h1 h2 hp hf hp2 hf2 ha hb k1 k1' k2 hx hy x y
  go_enter Tryz.func10, Tryz.ntmps10
  go_wp2_with fail
  refine HE1.out.mono ?_
  rintro e1 w2 ⟨rfl, b2⟩
  have M1 := Lib.hid (kept_o' K1.out b2)
  have M2 := Lib.hid (kept_o' K2.out b2)
  have x3 := blkc M1.out (j := 3) (u := .slice a4 n4 c4) rfl
  have y3 := blkc M2.out (j := 3) (u := .slice a8 n8 c8) rfl
  have HB2 := Lib.hid (HB.out.trans (b2.mono HB.out.size))
  clear b2
  go_wp2_with fail
  refine (HE2.out _ HB2.out).mono ?_
  rintro e1 w3 ⟨rfl, b3⟩
  have M1 := Lib.hid (kept_o' M1.out b3)
  have M2 := Lib.hid (kept_o' M2.out b3)
  have HB3 := Lib.hid (HB2.out.trans (b3.mono HB2.out.size))
  clear b3 x3 y3
  have x4 := blkc M1.out (j := 4) (u := .string d) rfl
  have x5 := blkc M1.out (j := 5) (u := .string e) rfl
  have x6 := blkc M1.out (j := 6) (u := .int .i64 n) rfl
  have y4 := blkc M2.out (j := 4) (u := .string d) rfl
  have y5 := blkc M2.out (j := 5) (u := .string e) rfl
  have y6 := blkc M2.out (j := 6) (u := .int .i64 n) rfl
  go_wp2_with fail
  refine (HE3.out _).mono ?_
  rintro e1 w4 ⟨rfl, b4⟩
  have HB4 := Lib.hid (HB3.out.trans (b4.mono HB3.out.size))
  clear b4
  go_wp2
  go_ret
  exact ⟨rfl, HB4.out⟩
end Go.Proofs.YtonpcgdnfclidaaGreatDoor
namespace Go.Proofs.YtonpcgdnfclidaaGreatDoor
open Go.RowKit Go.Sort
set_option maxRecDepth 100000

set_option maxHeartbeats 3200000 in
theorem implFormats_any (v : Value) (zs : List Fmt) (w : World) (h : Rdt w (flt 2 fmE zs) v) :
    Calls Tryz.prog 31 #[v] w fun e w' => e = .returned (.bool (fmOk zs)) ∧ Below w.heap.size w w' := by
  obtain ⟨a0, n0, c0, rfl, HN, hc, hn, ha⟩ := flt_opn (m := 2) (enc := fmE) (fun _ => rfl) (by omega) nilFm h
  have HA := Lib.hid ha
  have HAT := Lib.hid (fun i hi h => @fmOk_at zs i hi h)
  have HAL := Lib.hid (@fmOk_all zs)
  have HLG := Lib.hid (@fmOk_long zs)
  rw [HN.out] at HAT HAL HLG
  have HIN := Lib.hid (fun w => within_any (n0 : Int) 1 6 w)
  clear ha h
  generalize fmOk zs = ok at *
  go_enter Tryz.func31, Tryz.ntmps31
  go_wp2
  go_loopw [3, 4, 7] (fun _ _ i wr => ∃ k : Nat, k ≤ n0 ∧ i = .int .i64 k ∧ Hid (∀ i, i < k → fmAt zs i = true) ∧ Hid (Below w.heap.size w wr)) (fun _ _ i _ => n0 - (intOf i).toNat)
  case atStart => exact ⟨0, Nat.zero_le _, rfl, fun i hi => by omega, Below.refl _ _⟩
  case round =>
    obtain ⟨k, hk, rfl, HK, HB⟩ := hrel
    by_cases hlt : k < n0
    · have hltI : (k : Int) < (n0 : Int) := by omega
      obtain ⟨b, off, rfl, hbs, hcs⟩ := HA.out (by omega)
      have HC := Lib.hid (fun i hi r u hu => (HB.out.cell (p := ⟨b, off + i * 2 + r, none⟩) hbs).trans (hcs i hi r u hu))
      have e0 := HC.out k hlt 0 _ rfl
      have e1 := HC.out k hlt 1 _ rfl
      simp only [Nat.add_zero] at e0
      have HNO := Lib.hid (HAT.out k hlt)
      have HST := Lib.hid (fun h => fm_up HK.out (k := k) h)
      have HV := Lib.hid (show fmAt zs k = (inB (zs[k]?.getD nilFm).c 1 20000 && (inB (zs[k]?.getD nilFm).r 1 1000 && !(decide (0 < k) && (decide ((zs[k - 1]?.getD nilFm).c ≤ (zs[k]?.getD nilFm).c) || decide ((zs[k]?.getD nilFm).r ≤ (zs[k - 1]?.getD nilFm).r))))) from rfl)
      have hbs' := Nat.lt_of_lt_of_le hbs HB.out.size
      generalize zs[k]?.getD nilFm = z at *
      obtain ⟨bx, bc, blt, -⟩ := box_facts wr #[.int .i64 z.c, .int .i64 z.r] 78
      have q0 := bc 0 _ rfl
      have q1 := bc 1 _ rfl
      have HB1 := Lib.hid (HB.out.trans (bx.mono HB.out.size))
      have HC1 := Lib.hid (fun i hi r u hu => (bx.cell (p := ⟨b, off + i * 2 + r, none⟩) hbs').trans (HC.out i hi r u hu))
      clear bx bc
      clear hcs HC
      have HI := Lib.hid (fun w => within_any z.c 1 20000 w)
      have HJ := Lib.hid (fun w => within_any z.r 1 1000 w)
      cases hci : inB z.c 1 20000
      · have HF := Lib.hid (HNO.out (by rw [HV.out, hci]; rfl))
        rw [hci] at HI
        go_wp2
        generalize wr.alloc (.cells #[.int .i64 z.c, .int .i64 z.r] 78) = w2 at *
        have j0 := rg q0
        have j1 := rg q1
        clear q0 q1 e0 e1
        refine wp_region_quiet_below (by kernel_rfl) (by kernel_rfl) ?_
        repeat (go_big_quiet_step (first | (go_at_call 62; first | (with_reducible exact rg_same (HI.out _)) | (with_reducible exact rg_same (HJ.out _)))))
        refine wpQuiet_nil ?_
        rintro _ ⟨⟨dq, osq⟩, rfl⟩
        have b3 := below_regrown w2 dq osq
        generalize grow (redrawn w2 dq) osq = w3 at *
        go_wp2
        go_ret
        exact ⟨by rw [HF.out]; rfl, HB1.out.trans (b3.mono HB1.out.size)⟩
      rw [hci] at HI HV
      cases hri : inB z.r 1 1000
      · have HF := Lib.hid (HNO.out (by rw [HV.out, hri]; rfl))
        rw [hri] at HJ
        go_wp2
        generalize wr.alloc (.cells #[.int .i64 z.c, .int .i64 z.r] 78) = w2 at *
        have j0 := rg q0
        have j1 := rg q1
        clear q0 q1 e0 e1
        refine wp_region_quiet_below (by kernel_rfl) (by kernel_rfl) ?_
        repeat (go_big_quiet_step (first | (go_at_call 62; first | (with_reducible exact rg_same (HI.out _)) | (with_reducible exact rg_same (HJ.out _)))))
        refine wpQuiet_nil ?_
        rintro _ ⟨⟨dq, osq⟩, rfl⟩
        have b3 := below_regrown w2 dq osq
        generalize grow (redrawn w2 dq) osq = w3 at *
        go_wp2
        go_ret
        exact ⟨by rw [HF.out]; rfl, HB1.out.trans (b3.mono HB1.out.size)⟩
      rw [hri] at HJ HV
      clear hci hri
      by_cases hk0 : k = 0
      · have hk0b : decide (0 < k) = false := decide_eq_false (by omega)
        have hk0c : decide (0 < (k : Int)) = false := decide_eq_false (by omega)
        have hk0I : ¬ ((0 : Int) < (k : Int)) := by omega
        have HS := Lib.hid (HST.out (by rw [HV.out, hk0b]; rfl))
        clear hk0
        go_wp2
        generalize wr.alloc (.cells #[.int .i64 z.c, .int .i64 z.r] 78) = w2 at *
        have j0 := rg q0
        have j1 := rg q1
        clear q0 q1 e0 e1
        refine wp_region_quiet_below (by kernel_rfl) (by kernel_rfl) ?_
        repeat (go_big_quiet_step (first | (go_at_call 62; first | (with_reducible exact rg_same (HI.out _)) | (with_reducible exact rg_same (HJ.out _)))))
        refine wpQuiet_nil ?_
        rintro _ ⟨⟨dq, osq⟩, rfl⟩
        have b3 := below_regrown w2 dq osq
        generalize grow (redrawn w2 dq) osq = w3 at *
        clear j0 j1
        go_wp2
        go_roundw
        case rel => exact ⟨k + 1, hlt, by go_num, HS.out, HB1.out.trans (b3.mono HB1.out.size)⟩
        case measure => simp [intOf]; omega
      obtain ⟨k', hk'⟩ : ∃ k', k = k' + 1 := ⟨k - 1, by omega⟩
      have hkk : k - 1 = k' := by omega
      have hk0b : decide (0 < k) = true := decide_eq_true (by omega)
      have hk0c : decide (0 < (k : Int)) = true := decide_eq_true (by omega)
      have hkp : (0 : Int) < (k : Int) := by omega
      have f1w : IntKind.i64.wrap ((k : Int) - 1) = (k' : Int) := by rw [IntWalk.i64_in _ (by omega)]; omega
      have f1x : wrap64 ((k : Int) - 1) = (k' : Int) := by rw [IntWalk.wrap64_in _ (by omega)]; omega
      have f2w : (k' : Int) < (n0 : Int) := by omega
      have f3w : k' < n0 := by omega
      have p0 := HC1.out k' f3w 0 _ rfl
      have p1 := HC1.out k' f3w 1 _ rfl
      simp only [Nat.add_zero] at p0
      rw [hkk, hk0b] at HV
      generalize zs[k']?.getD nilFm = y at *
      clear hk' hkk hk0
      by_cases hdp : y.c ≤ z.c
      · have hdpb : decide (y.c ≤ z.c) = true := decide_eq_true hdp
        have HF := Lib.hid (HNO.out (by rw [HV.out, hdpb]; rfl))
        go_wp2
        generalize wr.alloc (.cells #[.int .i64 z.c, .int .i64 z.r] 78) = w2 at *
        have j0 := rg q0
        have j1 := rg q1
        have j2 := rg p0
        have j3 := rg p1
        clear q0 q1 e0 e1 p0 p1
        refine wp_region_quiet_below (by kernel_rfl) (by kernel_rfl) ?_
        repeat (go_big_quiet_step (first | (go_at_call 62; first | (with_reducible exact rg_same (HI.out _)) | (with_reducible exact rg_same (HJ.out _)))))
        refine wpQuiet_nil ?_
        rintro _ ⟨⟨dq, osq⟩, rfl⟩
        have b3 := below_regrown w2 dq osq
        generalize grow (redrawn w2 dq) osq = w3 at *
        go_wp2
        go_ret
        exact ⟨by rw [HF.out]; rfl, HB1.out.trans (b3.mono HB1.out.size)⟩
      have hdpb : decide (y.c ≤ z.c) = false := decide_eq_false hdp
      by_cases hdq : z.r ≤ y.r
      · have hdqb : decide (z.r ≤ y.r) = true := decide_eq_true hdq
        have HF := Lib.hid (HNO.out (by rw [HV.out, hdpb, hdqb]; rfl))
        go_wp2
        generalize wr.alloc (.cells #[.int .i64 z.c, .int .i64 z.r] 78) = w2 at *
        have j0 := rg q0
        have j1 := rg q1
        have j2 := rg p0
        have j3 := rg p1
        clear q0 q1 e0 e1 p0 p1
        refine wp_region_quiet_below (by kernel_rfl) (by kernel_rfl) ?_
        repeat (go_big_quiet_step (first | (go_at_call 62; first | (with_reducible exact rg_same (HI.out _)) | (with_reducible exact rg_same (HJ.out _)))))
        refine wpQuiet_nil ?_
        rintro _ ⟨⟨dq, osq⟩, rfl⟩
        have b3 := below_regrown w2 dq osq
        generalize grow (redrawn w2 dq) osq = w3 at *
        go_wp2
        go_ret
        exact ⟨by rw [HF.out]; rfl, HB1.out.trans (b3.mono HB1.out.size)⟩
      have hdqb : decide (z.r ≤ y.r) = false := decide_eq_false hdq
      have HS := Lib.hid (HST.out (by rw [HV.out, hdpb, hdqb]; rfl))
      go_wp2
      generalize wr.alloc (.cells #[.int .i64 z.c, .int .i64 z.r] 78) = w2 at *
      have j0 := rg q0
      have j1 := rg q1
      have j2 := rg p0
      have j3 := rg p1
      clear q0 q1 e0 e1 p0 p1
      refine wp_region_quiet_below (by kernel_rfl) (by kernel_rfl) ?_
      repeat (go_big_quiet_step (first | (go_at_call 62; first | (with_reducible exact rg_same (HI.out _)) | (with_reducible exact rg_same (HJ.out _)))))
      refine wpQuiet_nil ?_
      rintro _ ⟨⟨dq, osq⟩, rfl⟩
      have b3 := below_regrown w2 dq osq
      generalize grow (redrawn w2 dq) osq = w3 at *
      clear j0 j1 j2 j3
      go_wp2
      go_roundw
      case rel => exact ⟨k + 1, hlt, by go_num, HS.out, HB1.out.trans (b3.mono HB1.out.size)⟩
      case measure => simp [intOf]; omega
    · obtain rfl : n0 = k := by omega
      have HF := Lib.hid (HAL.out HK.out)
      go_wp2_with (go_at_call 62; refine (HIN.out _).mono ?_; rintro e w' ⟨rfl, rfl⟩)
      go_ret
      exact ⟨by rw [HF.out]; rfl, HB.out⟩
set_option maxHeartbeats 3200000 in
theorem l10Formats_any (v : Value) (zs : List Fmt) (w : World) (h : Rdt w (flt 2 fmE zs) v) :
    Calls Tryz.prog 54 #[v] w fun e w' => e = .returned (.bool (fmOk zs)) ∧ Below w.heap.size w w' := by
  obtain ⟨a0, n0, c0, rfl, HN, hc, hn, ha⟩ := flt_opn (m := 2) (enc := fmE) (fun _ => rfl) (by omega) nilFm h
  have HA := Lib.hid ha
  have HAT := Lib.hid (fun i hi h => @fmOk_at zs i hi h)
  have HAL := Lib.hid (@fmOk_all zs)
  have HLG := Lib.hid (@fmOk_long zs)
  rw [HN.out] at HAT HAL HLG
  have HIN := Lib.hid (fun w => l1In_any (n0 : Int) 1 6 w)
  clear ha h
  generalize fmOk zs = ok at *
  go_enter Tryz.func54, Tryz.ntmps54
  go_wp2
  go_loopw [3] (fun i wr => ∃ k : Nat, k ≤ n0 ∧ k ≤ 7 ∧ i = .int .i64 k ∧ Hid (∀ i, i < k → fmAt zs i = true) ∧ Hid (Below w.heap.size w wr)) (fun i _ => n0 - (intOf i).toNat)
  case atStart => exact ⟨0, Nat.zero_le _, Nat.zero_le _, rfl, fun i hi => by omega, Below.refl _ _⟩
  case round =>
    obtain ⟨k, hk, hk7, rfl, HK, HB⟩ := hrel
    by_cases hlt : k < n0
    · have hltI : (k : Int) < (n0 : Int) := by omega
      by_cases h7 : k ≤ 6
      case neg =>
        have h7I : ¬ ((k : Int) ≤ 6) := by omega
        have h7b : decide ((k : Int) ≤ 6) = false := decide_eq_false h7I
        have h7c : decide (k ≤ 6) = false := decide_eq_false (by omega)
        have HF := Lib.hid (HLG.out (by omega))
        have HNO := Lib.hid (show inB (n0 : Int) 1 6 = false by unfold inB; rw [decide_eq_false (show ¬ (n0 : Int) ≤ 6 by omega)]; simp)
        go_wp2_with (go_at_call 82; refine (HIN.out _).mono ?_; rintro e w' ⟨rfl, rfl⟩; rw [HNO.out])
        go_ret
        exact ⟨by rw [HF.out]; rfl, HB.out⟩
      have h7I : (k : Int) ≤ 6 := by omega
      have h7b : decide ((k : Int) ≤ 6) = true := decide_eq_true h7I
      have h7c : decide (k ≤ 6) = true := decide_eq_true h7
      obtain ⟨b, off, rfl, hbs, hcs⟩ := HA.out (by omega)
      have HC := Lib.hid (fun i hi r u hu => (HB.out.cell (p := ⟨b, off + i * 2 + r, none⟩) hbs).trans (hcs i hi r u hu))
      have e0 := HC.out k hlt 0 _ rfl
      have e1 := HC.out k hlt 1 _ rfl
      simp only [Nat.add_zero] at e0
      have HNO := Lib.hid (HAT.out k hlt)
      have HST := Lib.hid (fun h => fm_up HK.out (k := k) h)
      have HV := Lib.hid (show fmAt zs k = (inB (zs[k]?.getD nilFm).c 1 20000 && (inB (zs[k]?.getD nilFm).r 1 1000 && !(decide (0 < k) && (decide ((zs[k - 1]?.getD nilFm).c ≤ (zs[k]?.getD nilFm).c) || decide ((zs[k]?.getD nilFm).r ≤ (zs[k - 1]?.getD nilFm).r))))) from rfl)
      have hbs' := Nat.lt_of_lt_of_le hbs HB.out.size
      generalize zs[k]?.getD nilFm = z at *
      have HB1 := HB
      have HC1 := HC
      clear hcs HC
      have HI := Lib.hid (fun w => l1In_any z.c 1 20000 w)
      have HJ := Lib.hid (fun w => l1In_any z.r 1 1000 w)
      cases hci : inB z.c 1 20000
      · have HF := Lib.hid (HNO.out (by rw [HV.out, hci]; rfl))
        rw [hci] at HI
        go_wp2
        obtain ⟨w2, hw2⟩ : ∃ w2, w2 = wr := ⟨_, rfl⟩
        subst hw2
        have j0 := rg e0
        have j1 := rg e1
        clear e0 e1
        refine wp_region_quiet_below (by kernel_rfl) (by kernel_rfl) ?_
        repeat (go_big_quiet_step (first | (go_at_call 82; first | (with_reducible exact rg_same (HI.out _)) | (with_reducible exact rg_same (HJ.out _)))))
        refine wpQuiet_nil ?_
        rintro _ ⟨⟨dq, osq⟩, rfl⟩
        have b3 := below_regrown w2 dq osq
        generalize grow (redrawn w2 dq) osq = w3 at *
        go_wp2
        go_ret
        exact ⟨by rw [HF.out]; rfl, HB1.out.trans (b3.mono HB1.out.size)⟩
      rw [hci] at HI HV
      cases hri : inB z.r 1 1000
      · have HF := Lib.hid (HNO.out (by rw [HV.out, hri]; rfl))
        rw [hri] at HJ
        go_wp2
        obtain ⟨w2, hw2⟩ : ∃ w2, w2 = wr := ⟨_, rfl⟩
        subst hw2
        have j0 := rg e0
        have j1 := rg e1
        clear e0 e1
        refine wp_region_quiet_below (by kernel_rfl) (by kernel_rfl) ?_
        repeat (go_big_quiet_step (first | (go_at_call 82; first | (with_reducible exact rg_same (HI.out _)) | (with_reducible exact rg_same (HJ.out _)))))
        refine wpQuiet_nil ?_
        rintro _ ⟨⟨dq, osq⟩, rfl⟩
        have b3 := below_regrown w2 dq osq
        generalize grow (redrawn w2 dq) osq = w3 at *
        go_wp2
        go_ret
        exact ⟨by rw [HF.out]; rfl, HB1.out.trans (b3.mono HB1.out.size)⟩
      rw [hri] at HJ HV
      clear hci hri
      by_cases hk0 : k = 0
      · have hk0b : decide (0 < k) = false := decide_eq_false (by omega)
        have hk0c : decide (0 < (k : Int)) = false := decide_eq_false (by omega)
        have hk0I : ¬ ((0 : Int) < (k : Int)) := by omega
        have HS := Lib.hid (HST.out (by rw [HV.out, hk0b]; rfl))
        clear hk0
        go_wp2
        obtain ⟨w2, hw2⟩ : ∃ w2, w2 = wr := ⟨_, rfl⟩
        subst hw2
        have j0 := rg e0
        have j1 := rg e1
        clear e0 e1
        refine wp_region_quiet_below (by kernel_rfl) (by kernel_rfl) ?_
        repeat (go_big_quiet_step (first | (go_at_call 82; first | (with_reducible exact rg_same (HI.out _)) | (with_reducible exact rg_same (HJ.out _)))))
        refine wpQuiet_nil ?_
        rintro _ ⟨⟨dq, osq⟩, rfl⟩
        have b3 := below_regrown w2 dq osq
        generalize grow (redrawn w2 dq) osq = w3 at *
        clear j0 j1
        go_wp2
        go_roundw
        case rel => exact ⟨k + 1, hlt, by omega, by go_num, HS.out, HB1.out.trans (b3.mono HB1.out.size)⟩
        case measure => simp [intOf]; omega
      obtain ⟨k', hk'⟩ : ∃ k', k = k' + 1 := ⟨k - 1, by omega⟩
      have hkk : k - 1 = k' := by omega
      have hk0b : decide (0 < k) = true := decide_eq_true (by omega)
      have hk0c : decide (0 < (k : Int)) = true := decide_eq_true (by omega)
      have hkp : (0 : Int) < (k : Int) := by omega
      have f1w : IntKind.i64.wrap ((k : Int) - 1) = (k' : Int) := by rw [IntWalk.i64_in _ (by omega)]; omega
      have f1x : wrap64 ((k : Int) - 1) = (k' : Int) := by rw [IntWalk.wrap64_in _ (by omega)]; omega
      have f2w : (k' : Int) < (n0 : Int) := by omega
      have f3w : k' < n0 := by omega
      have p0 := HC1.out k' f3w 0 _ rfl
      have p1 := HC1.out k' f3w 1 _ rfl
      simp only [Nat.add_zero] at p0
      rw [hkk, hk0b] at HV
      generalize zs[k']?.getD nilFm = y at *
      clear hk' hkk hk0
      by_cases hdp : y.c ≤ z.c
      · have hdpb : decide (y.c ≤ z.c) = true := decide_eq_true hdp
        have HF := Lib.hid (HNO.out (by rw [HV.out, hdpb]; rfl))
        go_wp2
        obtain ⟨w2, hw2⟩ : ∃ w2, w2 = wr := ⟨_, rfl⟩
        subst hw2
        have j0 := rg e0
        have j1 := rg e1
        have j2 := rg p0
        have j3 := rg p1
        clear e0 e1 p0 p1
        refine wp_region_quiet_below (by kernel_rfl) (by kernel_rfl) ?_
        repeat (go_big_quiet_step (first | (go_at_call 82; first | (with_reducible exact rg_same (HI.out _)) | (with_reducible exact rg_same (HJ.out _)))))
        refine wpQuiet_nil ?_
        rintro _ ⟨⟨dq, osq⟩, rfl⟩
        have b3 := below_regrown w2 dq osq
        generalize grow (redrawn w2 dq) osq = w3 at *
        go_wp2
        go_ret
        exact ⟨by rw [HF.out]; rfl, HB1.out.trans (b3.mono HB1.out.size)⟩
      have hdpb : decide (y.c ≤ z.c) = false := decide_eq_false hdp
      by_cases hdq : z.r ≤ y.r
      · have hdqb : decide (z.r ≤ y.r) = true := decide_eq_true hdq
        have HF := Lib.hid (HNO.out (by rw [HV.out, hdpb, hdqb]; rfl))
        go_wp2
        obtain ⟨w2, hw2⟩ : ∃ w2, w2 = wr := ⟨_, rfl⟩
        subst hw2
        have j0 := rg e0
        have j1 := rg e1
        have j2 := rg p0
        have j3 := rg p1
        clear e0 e1 p0 p1
        refine wp_region_quiet_below (by kernel_rfl) (by kernel_rfl) ?_
        repeat (go_big_quiet_step (first | (go_at_call 82; first | (with_reducible exact rg_same (HI.out _)) | (with_reducible exact rg_same (HJ.out _)))))
        refine wpQuiet_nil ?_
        rintro _ ⟨⟨dq, osq⟩, rfl⟩
        have b3 := below_regrown w2 dq osq
        generalize grow (redrawn w2 dq) osq = w3 at *
        go_wp2
        go_ret
        exact ⟨by rw [HF.out]; rfl, HB1.out.trans (b3.mono HB1.out.size)⟩
      have hdqb : decide (z.r ≤ y.r) = false := decide_eq_false hdq
      have HS := Lib.hid (HST.out (by rw [HV.out, hdpb, hdqb]; rfl))
      go_wp2
      obtain ⟨w2, hw2⟩ : ∃ w2, w2 = wr := ⟨_, rfl⟩
      subst hw2
      have j0 := rg e0
      have j1 := rg e1
      have j2 := rg p0
      have j3 := rg p1
      clear e0 e1 p0 p1
      refine wp_region_quiet_below (by kernel_rfl) (by kernel_rfl) ?_
      repeat (go_big_quiet_step (first | (go_at_call 82; first | (with_reducible exact rg_same (HI.out _)) | (with_reducible exact rg_same (HJ.out _)))))
      refine wpQuiet_nil ?_
      rintro _ ⟨⟨dq, osq⟩, rfl⟩
      have b3 := below_regrown w2 dq osq
      generalize grow (redrawn w2 dq) osq = w3 at *
      clear j0 j1 j2 j3
      go_wp2
      go_roundw
      case rel => exact ⟨k + 1, hlt, by omega, by go_num, HS.out, HB1.out.trans (b3.mono HB1.out.size)⟩
      case measure => simp [intOf]; omega
    · obtain rfl : n0 = k := by omega
      have HF := Lib.hid (HAL.out HK.out)
      go_wp2_with (go_at_call 82; refine (HIN.out _).mono ?_; rintro e w' ⟨rfl, rfl⟩)
      go_ret
      exact ⟨by rw [HF.out]; rfl, HB.out⟩
end Go.Proofs.YtonpcgdnfclidaaGreatDoor
namespace Go.Proofs.YtonpcgdnfclidaaGreatDoor
open Go.RowKit Go.Sort
set_option maxRecDepth 100000
theorem below_mono2 {w2 wr wx : World} (h : Below wr.heap.size wr wx) (h2 : Below w2.heap.size w2 wr) : Below w2.heap.size w2 wx := h2.trans (h.mono h2.size)
set_option maxHeartbeats 3200000 in
theorem l4Walk_any (u1 u2 v3 : Value) (n : Net) (r : Rou) (w : World) (h : NetR w (.agg #[u1, u2]) n) (hr : Rd w v3 r.fb) (hl : r.fb.length ≤ 1100000) :
    Calls Tryz.prog 139 #[.agg #[u1, u2], .agg #[.int .i64 r.st, v3]] w (VisP (rouN n r) w) := by
  obtain ⟨x1, x2, e, r1, r2, hsm⟩ := h
  simp only [Value.agg.injEq, Array.mk.injEq, List.cons.injEq, and_true] at e
  obtain ⟨rfl, rfl⟩ := e
  obtain ⟨a1, m1, c1, rfl, HN1, hc1, hm1, -⟩ := flt_opn (m := 1) (enc := strE) (fun _ => rfl) (by omega) nilS r1
  obtain ⟨a2, m2, c2, rfl, HN2, hc2, hm2, ha2⟩ := flt_opn (m := 4) (enc := fibE) (fun _ => rfl) (by omega) nilB r2
  obtain ⟨a3, c3, m3, HN3, rfl, hc3, hm3, ha3⟩ := hr.opn
  have HO1 := Lib.hid (@rouN_no1 n r)
  have HO2 := Lib.hid (@rouN_no2 n r)
  have HO3 := Lib.hid (@rouN_go n r)
  rw [HN1.out] at HO1 HO3
  rw [HN3.out] at HO2 HO3
  have HR2 := Lib.hid r2
  have HX := Lib.hid (fun w' a m c (hb : Below w.heap.size w w') (e : rouN n r = none) => @VisP.no (rouN n r) w w' a m c e hb)
  have HY := Lib.hid (fun w' a m c xs (hb : Below w.heap.size w w') (ho : Own w' w.heap.size (.slice a m c) xs) (e : rouN n r = some xs) => @VisP.yes (rouN n r) w w' a m c xs e ho hb)
  have h10 : m3 ≤ 1100000 := by have := HN3.out; omega
  have HA2 := Lib.hid ha2
  have HA3 := Lib.hid ha3
  obtain ⟨bx, bc, blt, -⟩ := box_facts w #[.slice a1 m1 c1, .slice a2 m2 c2] 38
  obtain ⟨by', bd, bmt, -⟩ := box_facts (w.alloc (.cells #[.slice a1 m1 c1, .slice a2 m2 c2] 38)) #[.int .i64 r.st, .slice a3 m3 c3] 94
  have q0 := (by'.cell (p := ⟨w.heap.size, 0, none⟩) blt).trans (bc 0 _ rfl)
  have q1 := (by'.cell (p := ⟨w.heap.size, 1, none⟩) blt).trans (bc 1 _ rfl)
  have q2 := bd 0 _ rfl
  have q3 := bd 1 _ rfl
  have hs1 : (w.alloc (.cells #[.slice a1 m1 c1, .slice a2 m2 c2] 38)).heap.size = w.heap.size + 1 := by simp
  rw [hs1] at q2 q3 bmt
  have HBX := Lib.hid (bx.trans (by'.mono bx.size))
  have blt2 := Nat.lt_of_lt_of_le blt by'.size
  clear bc bd bx by' hs1 ha2 ha3 r1 r2 blt hr
  go_enter Tryz.func139, Tryz.ntmps139
  have hs2 : ((w.alloc (.cells #[.slice a1 m1 c1, .slice a2 m2 c2] 38)).alloc (.cells #[.int .i64 r.st, .slice a3 m3 c3] 94)).heap.size = w.heap.size + 1 + 1 := by simp
  have HO0 := Lib.hid (show Own (((w.alloc (.cells #[.slice a1 m1 c1, .slice a2 m2 c2] 38)).alloc (.cells #[.int .i64 r.st, .slice a3 m3 c3] 94)).alloc (.cells #[.int .i64 r.st] 3)) ((w.alloc (.cells #[.slice a1 m1 c1, .slice a2 m2 c2] 38)).alloc (.cells #[.int .i64 r.st, .slice a3 m3 c3] 94)).heap.size (.slice (some ⟨w.heap.size + 1 + 1, 0, none⟩) 1 1) [r.st] by rw [← hs2]; exact own_one _ r.st 3)
  have HB0 := Lib.hid ((Below.refl ((w.alloc (.cells #[.slice a1 m1 c1, .slice a2 m2 c2] 38)).alloc (.cells #[.int .i64 r.st, .slice a3 m3 c3] 94)).heap.size ((w.alloc (.cells #[.slice a1 m1 c1, .slice a2 m2 c2] 38)).alloc (.cells #[.int .i64 r.st, .slice a3 m3 c3] 94))).alloc (Nat.le_refl _) (.cells #[.int .i64 r.st] 3))
  clear hs2
  have t0 := (HB0.out.cell blt2).trans q0
  have t1 := (HB0.out.cell blt2).trans q1
  have t2 := (HB0.out.cell bmt).trans q2
  have t3 := (HB0.out.cell bmt).trans q3
  cases hin : inB r.st 0 ((m1 : Int) - 1)
  · have HE := Lib.hid (HO1.out hin)
    go_wp2_with (go_at_call 82; refine (l1In_any _ _ _ _).mono ?_; rintro e w' ⟨rfl, rfl⟩; rw [hin])
    go_ret2
    exact HX.out _ _ _ _ (HBX.out.trans (HB0.out.mono HBX.out.size)) HE.out
  by_cases h0 : m3 = 0
  · have HE := Lib.hid (HO2.out h0)
    have b1 : ((m3 : Int) == 0) = true := by rw [beq_iff_eq]; omega
    have b2 : decide ((m3 : Int) = 0) = true := decide_eq_true (by omega)
    clear h0
    go_wp2_with (go_at_call 82; refine (l1In_any _ _ _ _).mono ?_; rintro e w' ⟨rfl, rfl⟩; rw [hin])
    go_ret2
    exact HX.out _ _ _ _ (HBX.out.trans (HB0.out.mono HBX.out.size)) HE.out
  have HE := Lib.hid (HO3.out hin h0)
  have b1 : ((m3 : Int) == 0) = false := by rw [beq_eq_false_iff_ne]; omega
  have b2 : decide ((m3 : Int) = 0) = false := decide_eq_false (by omega)
  clear h0
  go_wp2_with (go_at_call 82; refine (l1In_any _ _ _ _).mono ?_; rintro e w' ⟨rfl, rfl⟩; rw [hin])
  generalize (w.alloc (.cells #[.slice a1 m1 c1, .slice a2 m2 c2] 38)).alloc (.cells #[.int .i64 r.st, .slice a3 m3 c3] 94) = w2 at *
  generalize w2.alloc (.cells #[.int .i64 r.st] 3) = w3 at *
  have blt3 := Nat.lt_of_lt_of_le blt2 HB0.out.size
  have bmt3 := Nat.lt_of_lt_of_le bmt HB0.out.size
  clear b1 b2 hin t0 t1 t2 t3
  go_loopw [6, 7, 8] (fun s6 i _ wr => ∃ (k : Nat) (out : List Int) (t : Int), k ≤ m3 ∧ i = .int .i64 k ∧ Hid (out[k]?.getD 0 = t) ∧ Hid (Own wr w2.heap.size s6 out) ∧ Hid (out.length = k + 1) ∧ Hid (wlk n [r.st] r.st r.fb = wlk n out t (r.fb.drop k)) ∧ Hid (Below w2.heap.size w2 wr)) (fun _ i _ _ => m3 - (intOf i).toNat)
  case atStart => exact ⟨0, [r.st], r.st, Nat.zero_le _, rfl, rfl, HO0.out, rfl, rfl, HB0.out⟩
  case round =>
    obtain ⟨k, out, t, hk, rfl, HLT, HOW, HLN, HW, HB⟩ := hrel
    obtain ⟨aR, cR, nR, HNR, rfl, hcR, hnR, hcl⟩ := HOW.out.rd.opn
    by_cases hlt : k < m3
    · have hltI : (k : Int) < (m3 : Int) := by omega
      have HST := Lib.hid (wlk_step (n := n) (out := out) (t := t) (xs := r.fb) (k := k) (by rw [HN3.out]; exact hlt))
      rw [HN2.out] at HST
      obtain ⟨b, off, rfl, hbs, hcs⟩ := HA3.out (by omega)
      have p0 := (HB.out.cell (p := ⟨w.heap.size, 0, none⟩) blt2).trans q0
      have p1 := (HB.out.cell (p := ⟨w.heap.size, 1, none⟩) blt2).trans q1
      have p2 := (HB.out.cell (p := ⟨w.heap.size + 1, 0, none⟩) bmt).trans q2
      have p3 := (HB.out.cell (p := ⟨w.heap.size + 1, 1, none⟩) bmt).trans q3
      have c0 := (HB.out.cell (p := ⟨b, off + k, none⟩) (Nat.lt_of_lt_of_le hbs HBX.out.size)).trans ((HBX.out.cell (p := ⟨b, off + k, none⟩) hbs).trans (hcs k hlt))
      have hnk : nR = k + 1 := by have := HNR.out; have := HLN.out; omega
      have hkR : k < nR := by omega
      have hkRI : (k : Int) < (nR : Int) := by omega
      have f1w : IntKind.i64.wrap ((nR : Int) - 1) = (k : Int) := by rw [IntWalk.i64_in _ (by omega)]; omega
      obtain ⟨bo, oo, rfl, hbo, hco⟩ := hcl (by omega)
      have k0 := hco k hkR
      rw [HLT.out] at k0
      have f2w : IntKind.i64.wrap ((m2 : Int) - 1) = (m2 : Int) - 1 := IntWalk.i64_in _ (by omega)
      clear hnk hco
      clear hcs
      generalize r.fb[k]?.getD 0 = x at *
      cases hix : inB x 0 ((m2 : Int) - 1)
      · rw [hix] at HST
        have HF := Lib.hid (HE.out.trans (HW.out.trans HST.out))
        have HIN := Lib.hid (fun w => l1In_any x 0 ((m2 : Int) - 1) w)
        rw [hix] at HIN
        clear hix
        go_wp2
        have j1 := rg p1
        have j3 := rg p3
        have jc := rg c0
        clear p0 p1 p2 p3 c0 k0
        refine wp_region_quiet_below (by kernel_rfl) (by kernel_rfl) ?_
        repeat (go_big_quiet_step (first | (go_at_call 82; exact rg_same (HIN.out _))))
        refine wpQuiet_nil ?_
        rintro _ ⟨⟨dq, osq⟩, rfl⟩
        have bq := below_regrown wr dq osq
        generalize grow (redrawn wr dq) osq = w4 at *
        go_wp2
        go_ret2
        exact HX.out _ _ _ _ ((HBX.out.trans (HB.out.mono HBX.out.size)).trans (bq.mono (Nat.le_trans HBX.out.size HB.out.size))) HF.out
      rw [hix] at HST
      obtain ⟨hx0, hx9⟩ := inB_true hix
      obtain ⟨j, rfl⟩ : ∃ j : Nat, x = (j : Int) := ⟨x.toNat, by omega⟩
      have hj : j < m2 := by omega
      have hjI : (j : Int) < (m2 : Int) := by omega
      have HOE := Lib.hid (fun wx (hb : Below wr.heap.size wr wx) => l2Other_any (.slice a1 m1 c1) (.slice a2 m2 c2) n j t wx ((HR2.out.behind HBX.out).behind (below_mono2 hb HB.out)) ⟨_, _, _, rfl⟩ (by rw [HN2.out]; exact hj))
      have HIN := Lib.hid (fun w => l1In_any (j : Int) 0 ((m2 : Int) - 1) w)
      rw [hix] at HIN
      unfold fbA at HOE
      have HST2 := Lib.hid (show wlk n out t (r.fb.drop k) = (if othE (n.fs[j]?.getD nilB) t < 0 ∨ othE (n.fs[j]?.getD nilB) t ∈ out then none else wlk n (out ++ [othE (n.fs[j]?.getD nilB) t]) (othE (n.fs[j]?.getD nilB) t) (r.fb.drop (k + 1))) from HST.out)
      clear HST hx0 hx9 hix
      generalize n.fs[j]?.getD nilB = f at *
      generalize othE f t = o at *
      go_wp2
      have j1 := rg p1
      have j3 := rg p3
      have jc := rg c0
      refine wp_region_quiet_below (by kernel_rfl) (by kernel_rfl) ?_
      repeat (go_big_quiet_step (first | (go_at_call 82; exact rg_same (HIN.out _))))
      refine wpQuiet_nil ?_
      rintro _ ⟨⟨dq, osq⟩, rfl⟩
      have bq := below_regrown wr dq osq
      have p0 := (bq.cell (World.block_lt_of_cell? _ _ p0)).trans p0
      have p1 := j1 dq osq
      have p3 := j3 dq osq
      have c0 := jc dq osq
      have k0 := (bq.cell (World.block_lt_of_cell? _ _ k0)).trans k0
      clear j1 j3 jc
      have HBQ := Lib.hid bq
      generalize grow (redrawn wr dq) osq = wq at *
      go_wp2
      have j0 := rg p0
      have j1 := rg p1
      have j3 := rg p3
      have jc := rg c0
      have jk := rg k0
      have HOQ := Lib.hid (fun d os => HOE.out (grow (redrawn wq d) os) (HBQ.out.trans ((below_regrown wq d os).mono HBQ.out.size)))
      clear p0 p1 p3 c0 k0 bq
      refine wp_region_quiet_below (by kernel_rfl) (by kernel_rfl) ?_
      repeat (go_big_quiet_step (first | (go_at_call 161; exact Calls.regrown_of (HOQ.out _ _))))
      refine wpQuiet_nil ?_
      rintro _ ⟨⟨dq2, osq2⟩, rfl⟩
      have b4 := HBQ.out.trans ((below_regrown wq dq2 osq2).mono HBQ.out.size)
      generalize grow (redrawn wq dq2) osq2 = w4 at *
      clear j0 j1 j3 jc jk
      have HB4 := Lib.hid (HB.out.trans (b4.mono HB.out.size))
      have HOW4 := Lib.hid (HOW.out.belowAll b4)
      have HC4 := Lib.hid (l1Has_any _ out o w4 HOW4.out.rd)
      clear b4 HOE
      by_cases ho : o < 0
      · have HF := Lib.hid (HE.out.trans (HW.out.trans (HST2.out.trans (if_pos (.inl ho)))))
        have hd : decide (o < 0) = true := decide_eq_true ho
        clear ho
        go_wp2
        go_ret2
        exact HX.out _ _ _ _ (HBX.out.trans (HB4.out.mono HBX.out.size)) HF.out
      have hd : decide (o < 0) = false := decide_eq_false ho
      cases hcn : out.contains o
      case true =>
        have HF := Lib.hid (HE.out.trans (HW.out.trans (HST2.out.trans (if_pos (.inr (List.contains_iff_mem.1 hcn))))))
        rw [hcn] at HC4
        clear ho
        go_wp2_with (go_at_call 140; refine (HC4.out).mono ?_; rintro e w' ⟨rfl, rfl⟩)
        go_ret2
        exact HX.out _ _ _ _ (HBX.out.trans (HB4.out.mono HBX.out.size)) HF.out
      have HF := Lib.hid (HW.out.trans (HST2.out.trans (if_neg (fun h => h.elim ho (fun h => by rw [List.contains_iff_mem.2 h] at hcn; cases hcn)))))
      rw [hcn] at HC4
      clear ho hcn
      have HLO := Lib.hid (show out.length ≤ 4000000 by have := HLN.out; omega)
      go_wp2_with (first
        | (go_at_call 140; refine (HC4.out).mono ?_; rintro e w' ⟨rfl, rfl⟩)
        | (at_builtin; go_loud (refine wpList_pushI rfl (.tmp 67) (.tmp 69) 92 rfl Tryz.underlying92 Tryz.infoI w2.heap.size (.slice (some ⟨bo, oo, none⟩) nR cR) out rfl HOW4.out rfl HLO.out HB4.out.size ?_); intro v5 w5 o5 g5 l5; have HO5 := Lib.hid o5; have HB5 := Lib.hid (HB4.out.grown g5 HB4.out.size (fun q hq => (HOW4.out.lt q hq).1)); clear o5 g5 l5))
      go_roundw
      case rel => exact ⟨k + 1, out ++ [o], o, hlt, by go_num, by show (out ++ [o])[k + 1]?.getD 0 = o; rw [List.getElem?_append_right (Nat.le_of_eq HLN.out), HLN.out]; simp, HO5.out, by show (out ++ [o]).length = k + 1 + 1; rw [List.length_append, HLN.out]; rfl, HF.out, HB5.out⟩
      case measure => simp [intOf]; omega
    · obtain rfl : m3 = k := by omega
      have HF := Lib.hid (show rouN n r = some out by rw [HE.out, HW.out, List.drop_of_length_le (Nat.le_of_eq HN3.out)]; rfl)
      have p3 := (HB.out.cell (p := ⟨w.heap.size + 1, 1, none⟩) bmt).trans q3
      go_wp2
      go_ret2
      exact HY.out _ _ _ _ _ (HBX.out.trans (HB.out.mono HBX.out.size)) (HOW.out.mono HBX.out.size) HF.out
end Go.Proofs.YtonpcgdnfclidaaGreatDoor
