/- Joined: XLpc XOpp. -/
import Derived.Test.YtmkkdenhjfjmgaaGreatBz12
import Derived.Test.YtmkkdenhjfjmgaaGreatBz11
namespace Go.Proofs.YtmkkdenhjfjmgaaGreat
open Go.RowKit Go.Sort
set_option maxRecDepth 100000

def mkQ (zs : List Lgt) (k : Nat) : Nat := 4 * k + totL (zs.take k)
def mkLgt (A : Int) (x : Lgt) : Lgt := ⟨A, A + 1, cnt (A + 1 + 1) x.fb.length, A + 1 + 1 + x.fb.length, A + 1 + 1 + x.fb.length + 1⟩
def mkLf (zs : List Lgt) (q : Nat) (i : Nat) : Lgt := mkLgt (((q + mkQ zs i : Nat) : Int)) (zs[i]?.getD nilL)
def mkLs (zs : List Lgt) (q : Nat) : List Lgt := (List.range zs.length).map (mkLf zs q)
theorem mkQ_step {zs : List Lgt} {k : Nat} (h : k < zs.length) : mkQ zs (k + 1) = mkQ zs k + 4 + (zs[k]?.getD nilL).fb.length := by
  unfold mkQ; rw [totL_step h]; omega
theorem mkQ_le {zs : List Lgt} {k : Nat} (h : k ≤ zs.length) : mkQ zs k ≤ 4 * zs.length + totL zs := by
  unfold mkQ; have := totL_le zs k; omega
theorem mkQ_all (zs : List Lgt) : mkQ zs zs.length = 4 * zs.length + totL zs := by unfold mkQ; rw [List.take_length]
theorem markLgt_1 {wr : World} {D : List Lgt} {x : Lgt} {fp : List Nat} {a : Option Addr} {n cap k : Nat} (h : Odt wr (rws 5 lgtD D) (.slice a n cap) fp) (hn : fp.Nodup) (hx : D[k]? = some x) (A B : Int) :
    ∃ g off u f, a = some ⟨g, off, none⟩ ∧ wr.cell? ⟨g, off + k * 5, none⟩ = some (.int .i64 x.id) ∧ wr.frozen? ⟨g, off + k * 5, none⟩ = false ∧
      (wr.setCell ⟨g, off + k * 5, none⟩ (.int .i64 A)).cell? ⟨g, off + k * 5 + 1, none⟩ = some (.int .i64 x.st) ∧ (wr.setCell ⟨g, off + k * 5, none⟩ (.int .i64 A)).frozen? ⟨g, off + k * 5 + 1, none⟩ = false ∧
      ((wr.setCell ⟨g, off + k * 5, none⟩ (.int .i64 A)).setCell ⟨g, off + k * 5 + 1, none⟩ (.int .i64 B)).cell? ⟨g, off + k * 5 + 2, none⟩ = some u ∧
      Odt ((wr.setCell ⟨g, off + k * 5, none⟩ (.int .i64 A)).setCell ⟨g, off + k * 5 + 1, none⟩ (.int .i64 B)) (inD x.fb) u f ∧ (∀ j ∈ f, j ∈ fp) ∧
      Wr wr ((wr.setCell ⟨g, off + k * 5, none⟩ (.int .i64 A)).setCell ⟨g, off + k * 5 + 1, none⟩ (.int .i64 B)) fp ∧
      ∀ (w' : World) (l' : List Int), Odt w' (inD l') u f → Wr ((wr.setCell ⟨g, off + k * 5, none⟩ (.int .i64 A)).setCell ⟨g, off + k * 5 + 1, none⟩ (.int .i64 B)) w' f → Odt w' (rws 5 lgtD (D.set k ⟨A, B, l', x.fi, x.ct⟩)) (.slice a n cap) fp := by
  have hm : ∀ z, (lgtD z).length = 5 := fun _ => rfl
  have hk : k < D.length := (List.getElem?_eq_some_iff.1 hx).1
  obtain ⟨g, off, rfl, c0, f0, o1, w1⟩ := h.rwsLeaf hm (by omega) hn 0 x ⟨A, x.st, x.fb, x.fi, x.ct⟩ (.int .i64 x.id) (.int .i64 A) hx (by omega) rfl rfl
  obtain ⟨g2, off2, ev, c1, f1, o2, w2⟩ := o1.rwsLeaf hm (by omega) hn 1 ⟨A, x.st, x.fb, x.fi, x.ct⟩ ⟨A, B, x.fb, x.fi, x.ct⟩ (.int .i64 x.st) (.int .i64 B) (set_get hk) (by omega) rfl rfl
  simp only [Option.some.injEq, Addr.mk.injEq, and_true] at ev
  obtain ⟨rfl, rfl⟩ := ev
  rw [List.set_set] at o2
  obtain ⟨g2, off2, u, f, ev, c2, o3, hsub, hfn, hcl⟩ := o2.rwsDeep hm (by omega) hn 2 ⟨A, B, x.fb, x.fi, x.ct⟩ (inD x.fb) (set_get hk) (by omega) rfl
  simp only [Option.some.injEq, Addr.mk.injEq, and_true] at ev
  obtain ⟨rfl, rfl⟩ := ev
  refine ⟨g, off, u, f, rfl, c0, f0, c1, f1, c2, o3, hsub, w1.trans w2, fun w' l' q1 q2 => ?_⟩
  have := hcl w' (inD l') ⟨A, B, l', x.fi, x.ct⟩ q1 q2 rfl
  rw [List.set_set] at this
  exact this
theorem markLgt_2 {wr : World} {D : List Lgt} {x : Lgt} {fp : List Nat} {g off n cap k : Nat} (h : Odt wr (rws 5 lgtD D) (.slice (some ⟨g, off, none⟩) n cap) fp) (hn : fp.Nodup) (hx : D[k]? = some x) (A B : Int) :
    wr.cell? ⟨g, off + k * 5 + 3, none⟩ = some (.int .i64 x.fi) ∧ wr.frozen? ⟨g, off + k * 5 + 3, none⟩ = false ∧
      (wr.setCell ⟨g, off + k * 5 + 3, none⟩ (.int .i64 A)).cell? ⟨g, off + k * 5 + 4, none⟩ = some (.int .i64 x.ct) ∧ (wr.setCell ⟨g, off + k * 5 + 3, none⟩ (.int .i64 A)).frozen? ⟨g, off + k * 5 + 4, none⟩ = false ∧
      Wr wr ((wr.setCell ⟨g, off + k * 5 + 3, none⟩ (.int .i64 A)).setCell ⟨g, off + k * 5 + 4, none⟩ (.int .i64 B)) fp ∧
      Odt ((wr.setCell ⟨g, off + k * 5 + 3, none⟩ (.int .i64 A)).setCell ⟨g, off + k * 5 + 4, none⟩ (.int .i64 B)) (rws 5 lgtD (D.set k ⟨x.id, x.st, x.fb, A, B⟩)) (.slice (some ⟨g, off, none⟩) n cap) fp := by
  have hm : ∀ z, (lgtD z).length = 5 := fun _ => rfl
  have hk : k < D.length := (List.getElem?_eq_some_iff.1 hx).1
  obtain ⟨g1, off1, ev, c0, f0, o1, w1⟩ := h.rwsLeaf hm (by omega) hn 3 x ⟨x.id, x.st, x.fb, A, x.ct⟩ (.int .i64 x.fi) (.int .i64 A) hx (by omega) rfl rfl
  simp only [Option.some.injEq, Addr.mk.injEq, and_true] at ev
  obtain ⟨rfl, rfl⟩ := ev
  obtain ⟨g2, off2, ev, c1, f1, o2, w2⟩ := o1.rwsLeaf hm (by omega) hn 4 ⟨x.id, x.st, x.fb, A, x.ct⟩ ⟨x.id, x.st, x.fb, A, B⟩ (.int .i64 x.ct) (.int .i64 B) (set_get hk) (by omega) rfl rfl
  simp only [Option.some.injEq, Addr.mk.injEq, and_true] at ev
  obtain ⟨rfl, rfl⟩ := ev
  rw [List.set_set] at o2
  exact ⟨c0, f0, c1, f1, w1.trans w2, o2⟩
set_option maxHeartbeats 3200000 in
theorem markLightS_any (v : Value) (zs : List Lgt) (fp : List Nat) (q : Nat) (w : World) (h : Odt w (rws 5 lgtD zs) v fp) (hn : fp.Nodup) (hb : 4 * zs.length + totL zs ≤ 67108864) (hq : 0 < q) (hq2 : q ≤ 1099511627776) :
    Calls Tryz.prog 72 #[v, .int .i64 (q : Int)] w fun e w' => e = .returned (.int .i64 ((q + (4 * zs.length + totL zs) : Nat) : Int)) ∧ Odt w' (rws 5 lgtD (mkLs zs q)) v fp ∧ Wr w w' fp := by
  obtain ⟨a, n, cap, rfl, HN, _, hnl, -⟩ := lgt_opn h.rd
  have HT := Lib.hid (fun k (h : k < zs.length) => @mkQ_step zs k h)
  have HTL := Lib.hid (fun k (h : k ≤ zs.length) => Nat.le_trans (@mkQ_le zs k h) hb)
  have HST := Lib.hid (fun k (h : k < zs.length) => mkG_step (mkLf zs q) zs k h)
  have HAT := Lib.hid (mkG_at (mkLf zs q) zs)
  have HZ := Lib.hid (mkG_zero (mkLf zs q) zs)
  have HALL := Lib.hid (show mkG (mkLf zs q) zs n = mkLs zs q by rw [mkG_all _ _ n HN.out]; unfold mkLs; rw [HN.out])
  have HQ := Lib.hid (show q + mkQ zs n = q + (4 * zs.length + totL zs) by rw [← HN.out, mkQ_all])
  have HF := Lib.hid (show ∀ i, mkLf zs q i = mkLgt (((q + mkQ zs i : Nat) : Int)) (zs[i]?.getD nilL) from fun _ => rfl)
  have HH := Lib.hid h
  generalize q + (4 * zs.length + totL zs) = R at *
  generalize mkLs zs q = L at *
  generalize mkLf zs q = F at *
  clear hb h
  go_enter Tryz.func72, Tryz.ntmps72
  go_wp2
  go_loopw [1, 5] (fun x i wr => ∃ k : Nat, k ≤ n ∧ i = .int .i64 k ∧ x = .int .i64 ((q + mkQ zs k : Nat) : Int) ∧ Hid (Odt wr (rws 5 lgtD (mkG F zs k)) (.slice a n cap) fp) ∧ Hid (Wr w wr fp)) (fun _ i _ => n - (intOf i).toNat)
  case atStart => exact ⟨0, by omega, rfl, by simp [mkQ, totL], by rw [HZ.out]; exact HH.out, Wr.refl _ _⟩
  case round =>
    obtain ⟨k, hk, rfl, rfl, HO, HW⟩ := hrel
    have hT0 := HTL.out k (by rw [HN.out]; exact hk)
    by_cases hlt : k < n
    · have hltI : (k : Int) < (n : Int) := by omega
      have hkx : k < zs.length := by rw [HN.out]; exact hlt
      have hqs := HT.out k hkx
      have hT1 := HTL.out (k + 1) (by rw [HN.out]; omega)
      have hdk : (mkG F zs k)[k]? = some (zs[k]?.getD nilL) := by rw [HAT.out k, List.getElem?_eq_getElem hkx]; rfl
      have HMK := Lib.hid (HST.out k hkx)
      have HFK := Lib.hid (HF.out k)
      obtain ⟨A, hA⟩ : ∃ A : Int, ((q + mkQ zs k : Nat) : Int) = A := ⟨_, rfl⟩
      rw [hA] at HFK ⊢
      generalize zs[k]?.getD nilL = x at *
      have hA0 : 0 ≤ A ∧ A ≤ 1099511627776 + 67108864 := by omega
      have hA1 : ((q + mkQ zs (k + 1) : Nat) : Int) = A + 1 + 1 + x.fb.length + 1 + 1 := by omega
      have hxl : (x.fb.length : Int) ≤ 67108864 := by omega
      obtain ⟨g, off, u, fu, rfl, c0, f0, c1, f1, c2, o3, hsub, hw, hcl⟩ := markLgt_1 HO.out hn hdk A (A + 1)
      have HMI := Lib.hid (markIntS_odt u x.fb fu (A + 1 + 1) _ o3 (by omega) (by omega))
      have HCL := Lib.hid hcl
      have HSUB := Lib.hid hsub
      have HW2 := Lib.hid (HW.out.trans hw)
      have HKD := Lib.hid (show k < (mkG F zs k).length from (List.getElem?_eq_some_iff.1 hdk).1)
      have HA1 := Lib.hid hA1
      clear o3 hcl hsub hw hdk HO HW hqs hT1 hT0 hA hA1
      generalize mkG F zs k = D at *
      go_wp2_with fail
      refine HMI.out.mono ?_
      rintro e w3 ⟨rfl, o4, w4⟩
      have o5 := HCL.out w3 _ o4 w4
      obtain ⟨c3, f3, c4, f4, hw5, o6⟩ := markLgt_2 o5 hn (set_get HKD.out) (A + 1 + 1 + x.fb.length) (A + 1 + 1 + x.fb.length + 1)
      rw [List.set_set] at o6
      have HO6 := Lib.hid o6
      have HW6 := Lib.hid ((HW2.out.trans (w4.mono HSUB.out)).trans hw5)
      have hxl2 : (0 : Int) ≤ (x.fb.length : Int) := by omega
      clear o4 w4 o5 o6 hw5 c0 f0 c1 f1 c2 HCL HMI
      go_wp2
      go_roundw
      case rel => exact ⟨k + 1, by omega, by go_num, int_eq (by rw [HA1.out]), by have := HO6.out; rw [← HMK.out, HFK.out]; exact this, HW6.out⟩
      case measure => simp [intOf]; omega
    · obtain rfl : k = n := by omega
      go_wp2
      go_ret
      exact ⟨by rw [HQ.out]; rfl, by rw [← HALL.out]; exact HO.out, HW.out⟩

/-! ### Plans -/
def PlnW (w : World) (v : Value) (p : Pln) : Prop := ∃ u1 u2 u3, v = .agg #[u1, u2, u3] ∧ Rwt w (flt 1 strE p.n.ns) u1 ∧ Rwt w (flt 4 fibE p.n.fs) u2 ∧ Rwt w (rws 5 lgtD p.ls) u3 ∧ ∀ i : Nat, (nmA p.n i).size ≤ maxLen
theorem PlnW.behind {w w' : World} {v : Value} {p : Pln} (h : PlnW w v p) (hb : Below w.heap.size w w') : PlnW w' v p := by
  obtain ⟨u1, u2, u3, e, h1, h2, h3, h4⟩ := h; exact ⟨u1, u2, u3, e, h1.behind hb, h2.behind hb, h3.behind hb, h4⟩
def PlnO (w : World) (p : Pln) (v : Value) (fp : List Nat) : Prop := ∃ u1 u2 u3 f1 f2 f3, v = .agg #[u1, u2, u3] ∧ Odt w (flt 1 strE p.n.ns) u1 f1 ∧ Odt w (flt 4 fibE p.n.fs) u2 f2 ∧ Odt w (rws 5 lgtD p.ls) u3 f3 ∧ fp = (f1 ++ f2) ++ f3
theorem PlnO.rd {w : World} {p : Pln} {v : Value} {fp : List Nat} (h : PlnO w p v fp) (hs : NetSm p.n) : PlnR w v p := by
  obtain ⟨u1, u2, u3, f1, f2, f3, e, h1, h2, h3, _⟩ := h; exact ⟨u1, u2, u3, e, h1.rd, h2.rd, h3.rd, hs⟩
theorem PlnO.behind {w w' : World} {p : Pln} {v : Value} {fp : List Nat} (h : PlnO w p v fp) (hb : Below w.heap.size w w') : PlnO w' p v fp := by
  obtain ⟨u1, u2, u3, f1, f2, f3, e, h1, h2, h3, e2⟩ := h; exact ⟨u1, u2, u3, f1, f2, f3, e, h1.behind hb, h2.behind hb, h3.behind hb, e2⟩
theorem PlnO.apart {w w' : World} {p : Pln} {v : Value} {fp fq : List Nat} (h : PlnO w p v fp) (hw : Wr w w' fq) (hd : ∀ k ∈ fp, k ∉ fq) : PlnO w' p v fp := by
  obtain ⟨u1, u2, u3, f1, f2, f3, e, h1, h2, h3, rfl⟩ := h
  exact ⟨u1, u2, u3, f1, f2, f3, e, h1.apart hw (fun k hk => hd k (by simp [hk])), h2.apart hw (fun k hk => hd k (by simp [hk])), h3.apart hw (fun k hk => hd k (by simp [hk])), rfl⟩
theorem PlnO.lt {w : World} {p : Pln} {v : Value} {fp : List Nat} (h : PlnO w p v fp) : ∀ k ∈ fp, k < w.heap.size := by
  obtain ⟨u1, u2, u3, f1, f2, f3, e, h1, h2, h3, rfl⟩ := h
  intro k hk
  rcases List.mem_append.1 hk with hk | hk
  · rcases List.mem_append.1 hk with hk | hk
    · exact h1.lt k hk
    · exact h2.lt k hk
  · exact h3.lt k hk
theorem PlnO.form {w : World} {p : Pln} {v : Value} {fp : List Nat} (h : PlnO w p v fp) : ∃ a1 n1 c1 a2 n2 c2 a3 n3 c3, v = .agg #[.slice a1 n1 c1, .slice a2 n2 c2, .slice a3 n3 c3] := by
  obtain ⟨u1, u2, u3, f1, f2, f3, rfl, h1, h2, h3, _⟩ := h
  obtain ⟨a1, n1, c1, rfl⟩ := Rdt.slice (show Rdt w (.rows _ _) u1 from h1.rd)
  obtain ⟨a2, n2, c2, rfl⟩ := Rdt.slice (show Rdt w (.rows _ _) u2 from h2.rd)
  obtain ⟨a3, n3, c3, rfl⟩ := Rdt.slice (show Rdt w (.rows _ _) u3 from h3.rd)
  exact ⟨_, _, _, _, _, _, _, _, _, rfl⟩
def szP (p : Pln) : Nat := szN p.n + (p.ls.length + totL p.ls)
set_option maxHeartbeats 1600000 in
theorem szPlan_any (v : Value) (p : Pln) (l : Int) (w : World) (h : PlnW w v p) (h0 : 0 ≤ l) (h1 : l ≤ 1048576) :
    Calls Tryz.prog 14 #[v, .int .i64 l] w (SzQ (szP p) l w) := by
  obtain ⟨u1, u2, u3, rfl, r1, r2, r3, hs⟩ := h
  obtain ⟨a1, n1, c1, rfl⟩ := r1.slice
  obtain ⟨a2, n2, c2, rfl⟩ := r2.slice
  obtain ⟨a3, n3, c3, rfl⟩ := r3.slice
  obtain ⟨bx, bc, blt, -⟩ := box_facts w #[.slice a1 n1 c1, .slice a2 n2 c2, .slice a3 n3 c3] 28
  have q2 := bc 2 _ rfl
  have HS1 := Lib.hid (szNetwork_any (.agg #[.slice a1 n1 c1, .slice a2 n2 c2]) p.n l _ ⟨_, _, rfl, r1.behind bx, r2.behind bx, hs⟩ h0 h1)
  have HS2 := Lib.hid (fun l' w' (hb : Below w.heap.size w w') (h0 : 0 ≤ l') (h1 : l' ≤ 1048576) => szLightS_any (.slice a3 n3 c3) p.ls l' w' (r3.behind hb) h0 h1)
  have HB := Lib.hid bx
  have HN := Lib.hid (show szP p = szN p.n + (p.ls.length + totL p.ls) from rfl)
  unfold SzQ at HS1 HS2 ⊢
  clear bx bc r1 r2 r3 hs
  generalize szP p = N at *
  generalize szN p.n = N1 at *
  generalize p.ls.length + totL p.ls = N2 at *
  go_enter Tryz.func14, Tryz.ntmps14
  go_wp2_with fail
  generalize w.alloc (.cells #[.slice a1 n1 c1, .slice a2 n2 c2, .slice a3 n3 c3] 28) = w1 at *
  refine HS1.out.mono ?_
  rintro e w2 ⟨r, rfl, b2, hr⟩
  have HR := Lib.hid hr
  clear hr
  have p2 := (b2.cell (p := ⟨w.heap.size, 2, none⟩) blt).trans q2
  have HB2 := Lib.hid (HB.out.trans (b2.mono HB.out.size))
  clear b2 q2
  by_cases hneg : r < 0
  · have hb : decide (r < 0) = true := decide_eq_true hneg
    go_wp2
    go_ret
    exact ⟨-1, rfl, HB2.out, .inl ⟨rfl, by have := HN.out; have := HR.out; omega⟩⟩
  have hb : decide (r < 0) = false := decide_eq_false hneg
  have HR2 := Lib.hid (show r = l - N1 ∧ 0 ≤ r by have := HR.out; omega)
  have HS3 := Lib.hid (HS2.out r w2 HB2.out HR2.out.2 (by have := HR2.out; omega))
  go_wp2_with fail
  refine HS3.out.mono ?_
  rintro e w3 ⟨r3, rfl, b3, hr3⟩
  have HR3 := Lib.hid hr3
  clear hr3
  have HB3 := Lib.hid (HB2.out.trans (b3.mono HB2.out.size))
  clear b3
  by_cases hneg3 : r3 < 0
  · have hb3 : decide (r3 < 0) = true := decide_eq_true hneg3
    go_wp2
    go_ret
    exact ⟨-1, rfl, HB3.out, .inl ⟨rfl, by have := HN.out; have := HR2.out; have := HR3.out; omega⟩⟩
  have hb3 : decide (r3 < 0) = false := decide_eq_false hneg3
  go_wp2
  go_ret
  exact ⟨r3, rfl, HB3.out, .inr ⟨by have := HN.out; have := HR2.out; have := HR3.out; omega, by omega⟩⟩
set_option maxHeartbeats 1600000 in
theorem toPlan_any (v : Value) (p : Pln) (w : World) (h : PlnW w v p) (h1 : p.n.ns.length ≤ 1048576) (h2 : p.n.fs.length ≤ 1048576) (h3 : p.ls.length ≤ 1048576) (h4 : ∀ i : Nat, (lgA p i).fb.length ≤ 1048576) :
    Calls Tryz.prog 16 #[v] w (ToP (fun w' => PlnO w' p) w) := by
  obtain ⟨u1, u2, u3, rfl, r1, r2, r3, hs⟩ := h
  obtain ⟨a1, n1, c1, rfl⟩ := r1.slice
  obtain ⟨a2, n2, c2, rfl⟩ := r2.slice
  obtain ⟨a3, n3, c3, rfl⟩ := r3.slice
  obtain ⟨b3, k1, k2, k3, hz⟩ := three_boxes w #[.slice a1 n1 c1, .slice a2 n2 c2, .slice a3 n3 c3] #[.slice none 0 0, .slice none 0 0, .slice none 0 0] #[.slice none 0 0, .slice none 0 0, .slice none 0 0] 28 38 38
  have HB := Lib.hid b3
  have K1 := Lib.hid k1
  have K2 := Lib.hid k2
  have K3 := Lib.hid k3
  have HZ := Lib.hid hz
  have HT1 := Lib.hid (toNetwork_any (.agg #[.slice a1 n1 c1, .slice a2 n2 c2]) p.n _ ⟨_, _, rfl, r1.behind b3, r2.behind b3, hs⟩ h1 h2)
  have HT2 := Lib.hid (fun w' (hb : Below w.heap.size w w') => toLightS_any (.slice a3 n3 c3) p.ls w' (r3.behind hb) h3 h4)
  unfold ToP at HT1 ⊢
  clear b3 k1 k2 k3 hz r1 r2 r3 hs
  go_enter Tryz.func16, Tryz.ntmps16
  go_wp2_with fail
  refine HT1.out.mono ?_
  rintro e w4 ⟨v4, fp, rfl, o1, o2, o3, b4⟩
  obtain ⟨a5, n5, c5, a6, n6, c6, rfl⟩ := o1.form
  have m1 := kept_o' K1.out b4
  have x2 := blkc m1 (j := 2) (u := .slice a3 n3 c3) rfl
  have M1 := Lib.hid m1
  have M2 := Lib.hid (kept_o' K2.out b4)
  have M3 := Lib.hid (kept_o' K3.out b4)
  have HB4 := Lib.hid (HB.out.trans (b4.mono HB.out.size))
  obtain ⟨y1, y2, f1, f2, ey, p1, p2, rfl⟩ := o1
  simp only [Value.agg.injEq, Array.mk.injEq, List.cons.injEq, and_true] at ey
  obtain ⟨rfl, rfl⟩ := ey
  have P1 := Lib.hid p1
  have P2 := Lib.hid p2
  have HN4 := Lib.hid o2
  have HL4 := Lib.hid (show ∀ k ∈ f1 ++ f2, w.heap.size + 1 + 1 < k ∧ k < w4.heap.size from fun k hk => by
    have h1 := o3 k hk; have := HZ.out
    rcases List.mem_append.1 hk with h | h
    · have := p1.lt k h; omega
    · have := p2.lt k h; omega)
  have hs4 : w.heap.size + 1 + 1 < w4.heap.size := by have := b4.size; have := HZ.out; omega
  clear b4 o2 o3 K1 K2 K3 m1 p1 p2
  go_wp2_with (((show wpList _ _ _ (⟨none, .store 35 _ _, _, _, _, _⟩ :: _) _ _); refine wpList_stx rfl 35 _ _ rfl (w.heap.size + 1 + 1) 0 [.slice a5 n5 c5, .slice a6 n6 c6] rfl rfl M3.out (by simp) (by kernel_rfl) (by simp [Value.oneCell']) ?_; intro w5 hs; have n1 := hs.keep (by omega) M1.out; have N2 := Lib.hid (hs.keep (by omega) M2.out); have N3 := Lib.hid hs.blk; have HB5 := Lib.hid (hs.below w.heap.size w (by omega) HB4.out); have P1 := Lib.hid (hs.odt P1.out (fun hk => by have := HL4.out _ (List.mem_append_left _ hk); omega)); have P2 := Lib.hid (hs.odt P2.out (fun hk => by have := HL4.out _ (List.mem_append_right _ hk); omega)); have HSZ := Lib.hid hs.size; clear x2; have x2 := blkc n1 (j := 2) (u := .slice a3 n3 c3) rfl; have N1 := Lib.hid n1; clear hs n1))
  go_wp2_with fail
  refine (HT2.out _ HB5.out).mono ?_
  rintro e w6 ⟨v6, rfl, ⟨f3, o6, hn6, g6⟩, b6⟩
  obtain ⟨a7, n7, c7, rfl⟩ := Rdt.slice (show Rdt w6 (.rows _ _) v6 from o6.rd)
  have M2 := Lib.hid (kept_o' N2.out b6)
  have M3 := Lib.hid (kept_o' N3.out b6)
  have HB6 := Lib.hid (HB5.out.trans (b6.mono HB5.out.size))
  have P1 := Lib.hid (P1.out.behind b6)
  have P2 := Lib.hid (P2.out.behind b6)
  have P3 := Lib.hid o6
  have HN6 := Lib.hid hn6
  have HL6 := Lib.hid (show ∀ k ∈ f3, w4.heap.size ≤ k from fun k hk => by have := g6 k hk; have := HSZ.out; omega)
  clear b6 x2 o6 hn6 g6
  go_wp2_with (first
    | ((show wpList _ _ _ (⟨none, .store 36 _ _, _, _, _, _⟩ :: _) _ _); refine wpList_st1 rfl 36 _ _ rfl (w.heap.size + 1 + 1) 2 (.slice a7 n7 c7) rfl rfl M3.out (by simp [putA]) (by kernel_rfl) ⟨rfl, rfl⟩ ?_; intro w7 hs; have N2 := Lib.hid (hs.keep (by omega) M2.out); have N3 := Lib.hid hs.blk; have HB7 := Lib.hid (hs.below w.heap.size w (by omega) HB6.out); have P1 := Lib.hid (hs.odt P1.out (fun hk => by have := HL4.out _ (List.mem_append_left _ hk); omega)); have P2 := Lib.hid (hs.odt P2.out (fun hk => by have := HL4.out _ (List.mem_append_right _ hk); omega)); have P3 := Lib.hid (hs.odt P3.out (fun hk => by have := HL6.out _ hk; omega)); clear hs)
    | ((show wpList _ _ _ (⟨some _, .load 38 _, _, _, _, _⟩ :: _) _ _); refine wpList_ldx rfl 38 _ rfl (w.heap.size + 1 + 1) 0 rfl [.slice a5 n5 c5, .slice a6 n6 c6, .slice a7 n7 c7] N3.out rfl _ (by exact Tryz.underlying38) rfl (by kernel_rfl) ?_)
    | ((show wpList _ _ _ (⟨none, .store 38 _ _, _, _, _, _⟩ :: _) _ _); refine wpList_stx rfl 38 _ _ rfl (w.heap.size + 1) 0 [.slice a5 n5 c5, .slice a6 n6 c6, .slice a7 n7 c7] rfl rfl N2.out (by simp) (by kernel_rfl) (by simp [Value.oneCell']) ?_; intro w8 hs; have n2 := hs.blk; have HB8 := Lib.hid (hs.below w.heap.size w (by omega) HB7.out); have P1 := Lib.hid (hs.odt P1.out (fun hk => by have := HL4.out _ (List.mem_append_left _ hk); omega)); have P2 := Lib.hid (hs.odt P2.out (fun hk => by have := HL4.out _ (List.mem_append_right _ hk); omega)); have P3 := Lib.hid (hs.odt P3.out (fun hk => by have := HL6.out _ hk; omega)); clear hs; have t0 := blkc n2 (j := 0) (u := .slice a5 n5 c5) rfl; have t1 := blkc n2 (j := 1) (u := .slice a6 n6 c6) rfl; have t2 := blkc n2 (j := 2) (u := .slice a7 n7 c7) rfl))
  exact bodyPost_ret (v := .agg #[.slice a5 n5 c5, .slice a6 n6 c6, .slice a7 n7 c7]) (by simp [results, Tryz.results16, go_sem, t0, t1, t2]) rfl ⟨_, (f1 ++ f2) ++ f3, rfl, ⟨_, _, _, _, _, _, rfl, P1.out, P2.out, P3.out, rfl⟩, List.nodup_append.2 ⟨HN4.out, HN6.out, fun a ha b hb e => by have := HL4.out a ha; have := HL6.out b hb; omega⟩, fun k hk => by
    rcases List.mem_append.1 hk with hk | hk
    · have := HL4.out k hk; omega
    · have := HL6.out k hk; omega, HB8.out⟩
set_option maxHeartbeats 1600000 in
theorem eqPlan_same (va vb : Value) (p : Pln) (w : World) (ha : PlnR w va p) (hb : PlnR w vb p) :
    Calls Tryz.prog 19 #[va, vb] w fun e w' => e = .returned (.bool true) ∧ Below w.heap.size w w' := by
  obtain ⟨u1, u2, u3, rfl, r1, r2, r3, hs⟩ := ha
  obtain ⟨v1, v2, v3, rfl, s1, s2, s3, hs2⟩ := hb
  obtain ⟨a1, n1, c1, rfl⟩ := Rdt.slice (show Rdt w (.rows _ _) u1 from r1)
  obtain ⟨a2, n2, c2, rfl⟩ := Rdt.slice (show Rdt w (.rows _ _) u2 from r2)
  obtain ⟨a3, n3, c3, rfl⟩ := Rdt.slice (show Rdt w (.rows _ _) u3 from r3)
  obtain ⟨a4, n4, c4, rfl⟩ := Rdt.slice (show Rdt w (.rows _ _) v1 from s1)
  obtain ⟨a5, n5, c5, rfl⟩ := Rdt.slice (show Rdt w (.rows _ _) v2 from s2)
  obtain ⟨a6, n6, c6, rfl⟩ := Rdt.slice (show Rdt w (.rows _ _) v3 from s3)
  have h1 := (Below.refl w.heap.size w).alloc (Nat.le_refl _) (.cells #[.slice a1 n1 c1, .slice a2 n2 c2, .slice a3 n3 c3] 38)
  have h2 := h1.alloc h1.size (.cells #[.slice a4 n4 c4, .slice a5 n5 c5, .slice a6 n6 c6] 38)
  have HE1 := Lib.hid (eqNetwork_same (.agg #[.slice a1 n1 c1, .slice a2 n2 c2]) (.agg #[.slice a4 n4 c4, .slice a5 n5 c5]) p.n _ ⟨_, _, rfl, r1.behind h2, r2.behind h2, hs⟩ ⟨_, _, rfl, s1.behind h2, s2.behind h2, hs2⟩)
  have HE2 := Lib.hid (fun w' (hb : Below w.heap.size w w') => eqLightS_same _ _ p.ls w' (r3.behind hb) (s3.behind hb))
  have HB := Lib.hid h2
  clear h1 h2 r1 r2 r3 s1 s2 s3
  go_enter Tryz.func19, Tryz.ntmps19
  go_wp2_with fail
  refine HE1.out.mono ?_
  rintro e w2 ⟨rfl, b2⟩
  obtain ⟨hc, hf⟩ := bcell b2
  have HB2 := Lib.hid (HB.out.trans (b2.mono HB.out.size))
  clear b2
  go_wp2_with fail
  refine (HE2.out _ HB2.out).mono ?_
  rintro e w3 ⟨rfl, b3⟩
  have HB3 := Lib.hid (HB2.out.trans (b3.mono HB2.out.size))
  clear b3 hc hf
  go_wp2
  go_ret
  exact ⟨rfl, HB3.out⟩
def mkP (p : Pln) : Nat := mkN p.n + (4 * p.ls.length + totL p.ls)
def mkPln (p : Pln) (q : Nat) : Pln := ⟨mkNet p.n q, mkLs p.ls (q + mkN p.n)⟩
set_option maxHeartbeats 1600000 in
theorem markPlan_any (v : Value) (p : Pln) (fp : List Nat) (q : Nat) (w : World) (h : PlnO w p v fp) (hn : fp.Nodup) (h1 : p.n.ns.length ≤ 1048576) (h2 : p.n.fs.length ≤ 1048576) (h3 : 4 * p.ls.length + totL p.ls ≤ 67108864) (hq : 0 < q) (hq2 : q ≤ 549755813888) :
    Calls Tryz.prog 25 #[v, .int .i64 (q : Int)] w fun e w' => e = .returned (.int .i64 ((q + mkP p : Nat) : Int)) ∧ PlnO w' (mkPln p q) v fp ∧ Wr w w' fp := by
  obtain ⟨u1, u2, u3, f1, f2, f3, rfl, r1, r2, r3, rfl⟩ := h
  obtain ⟨hn1, hn2, hn3⟩ := List.nodup_append.1 hn
  obtain ⟨a1, n1, c1, rfl⟩ := Rdt.slice (show Rdt w (.rows _ _) u1 from r1.rd)
  obtain ⟨a2, n2, c2, rfl⟩ := Rdt.slice (show Rdt w (.rows _ _) u2 from r2.rd)
  obtain ⟨a3, n3, c3, rfl⟩ := Rdt.slice (show Rdt w (.rows _ _) u3 from r3.rd)
  obtain ⟨bx, bc, blt, -⟩ := box_facts w #[.slice a1 n1 c1, .slice a2 n2 c2, .slice a3 n3 c3] 38
  have q2 := bc 2 (.slice a3 n3 c3) rfl
  have hlt1 : ∀ k ∈ f1 ++ f2, k < w.heap.size := fun k hk => by
    rcases List.mem_append.1 hk with h | h
    · exact r1.lt k h
    · exact r2.lt k h
  have hmn : mkN p.n = p.n.ns.length + 4 * p.n.fs.length := rfl
  have HM1 := Lib.hid (markNetwork_any (.agg #[.slice a1 n1 c1, .slice a2 n2 c2]) p.n (f1 ++ f2) q _ ⟨_, _, _, _, rfl, r1.behind bx, r2.behind bx, rfl⟩ hn1 h1 h2 hq (by omega))
  have R3 := Lib.hid (r3.behind bx)
  have HBX := Lib.hid bx
  have HL := Lib.hid hlt1
  have HD := Lib.hid hn3
  have HM2 := Lib.hid (fun w' (ho : Odt w' (rws 5 lgtD p.ls) (.slice a3 n3 c3) f3) => markLightS_any (.slice a3 n3 c3) p.ls f3 (q + mkN p.n) w' ho hn2 h3 (by omega) (by omega))
  have HE := Lib.hid (show q + mkP p = q + mkN p.n + (4 * p.ls.length + totL p.ls) by unfold mkP; omega)
  have HMK := Lib.hid (show mkPln p q = ⟨mkNet p.n q, mkLs p.ls (q + mkN p.n)⟩ from rfl)
  generalize q + mkP p = R at *
  generalize mkPln p q = P' at *
  generalize q + mkN p.n = Q at *
  clear bx bc r1 r2 r3 hlt1 hn hn3 hmn
  go_enter Tryz.func25, Tryz.ntmps25
  go_wp2_with fail
  generalize w.alloc (.cells #[.slice a1 n1 c1, .slice a2 n2 c2, .slice a3 n3 c3] 38) = w1 at *
  refine HM1.out.mono ?_
  rintro e w2 ⟨rfl, o1, wr1⟩
  have e1 : w2.cell? ⟨w.heap.size, 2, none⟩ = some (.slice a3 n3 c3) := by
    unfold World.cell? at q2 ⊢
    rw [wr1.block _ blt (fun hk => Nat.lt_irrefl _ (HL.out _ hk))]
    exact q2
  have O3 := Lib.hid (R3.out.apart wr1 (fun k hk hk2 => HD.out k hk2 k hk rfl))
  have HM3 := Lib.hid (HM2.out w2 O3.out)
  have O1 := Lib.hid o1
  have W1 := Lib.hid wr1
  clear o1 wr1 q2 HM1
  go_wp2_with fail
  refine HM3.out.mono ?_
  rintro e w3 ⟨rfl, o2, wr2⟩
  have O1 := Lib.hid (O1.out.apart wr2 (fun k hk hk2 => HD.out k hk k hk2 rfl))
  have HW := Lib.hid (((Wr.of_below HBX.out : Wr w w1 ((f1 ++ f2) ++ f3)).trans (W1.out.mono (fun k hk => List.mem_append_left _ hk))).trans (wr2.mono (fun k hk => List.mem_append_right _ hk)))
  have O2 := Lib.hid o2
  clear o2 wr2
  obtain ⟨x1, x2, g1, g2, ex, p1, p2, eg⟩ := O1.out
  simp only [Value.agg.injEq, Array.mk.injEq, List.cons.injEq, and_true] at ex
  obtain ⟨rfl, rfl⟩ := ex
  have P1 := Lib.hid p1
  have P2 := Lib.hid p2
  have EG := Lib.hid eg
  clear p1 p2 eg O1
  go_wp2
  go_ret
  exact ⟨by rw [HE.out]; rfl, by rw [HMK.out, EG.out]; exact ⟨_, _, _, g1, g2, f3, rfl, P1.out, P2.out, O2.out, rfl⟩, HW.out⟩
end Go.Proofs.YtmkkdenhjfjmgaaGreat
namespace Go.Proofs.YtmkkdenhjfjmgaaGreat
open Go.RowKit Go.WideShapes
set_option maxRecDepth 100000
section
variable {H : Type} {enc : TypeId × Value → H} {W : World} {r : Reach} {b0 : Nat} {v : Value} {d : DataW H} {ps : List MemPlace}
instance : Inhabited Lgt := ⟨nilL⟩
theorem opens_ints : Opens enc Tryz.prog W 29 (fun xs : List Int => [inD xs]) := opens_inD Tryz.underlying29 (by kernel_rfl) Tryz.underlying3
theorem opens_rou : Opens enc Tryz.prog W 128 (fun z : Rou => [.leaf (.int .i64 z.st), inD z.fb]) :=
  opens_map' (opens_struct2 (k0 := 1) (k1 := 1) Tryz.underlying128 (by kernel_rfl) rfl rfl (by kernel_rfl) (by kernel_rfl) opens_int_ opens_ints) (fun p => ⟨p.1, p.2⟩) (fun _ => rfl)
theorem opens_blk : Opens enc Tryz.prog W 129 (fun z : Blk => [.leaf (.int .i64 z.f), .leaf (.int .i64 z.c)]) :=
  opens_map' (opens_struct2 (k0 := 1) (k1 := 1) Tryz.underlying129 (by kernel_rfl) rfl rfl (by kernel_rfl) (by kernel_rfl) opens_int_ opens_int_) (fun p => ⟨p.1, p.2⟩) (fun _ => rfl)
theorem opens_lgt : Opens enc Tryz.prog W 131 lgtD :=
  opens_map' (opens_struct3' (k0 := 1) (k1 := 2) (k2 := 2) Tryz.underlying131 (by kernel_rfl) rfl rfl rfl (by kernel_rfl) (by kernel_rfl) (by kernel_rfl) opens_int_ opens_rou opens_blk) (fun p => ⟨p.1, p.2.1.st, p.2.1.fb, p.2.2.f, p.2.2.c⟩) (fun _ => rfl)
theorem opens_lgts : Opens enc Tryz.prog W 26 (fun zs : List Lgt => [rws 5 lgtD zs]) :=
  opens_slice Tryz.underlying26 (by kernel_rfl) (by decide) (fun _ => rfl) opens_lgt
theorem opens_pln : Opens enc Tryz.prog W 28 (fun p : (List { s : ByteArray // s.size ≤ maxLen } × List Fib) × List Lgt => ([flt 1 strE (p.1.1.map (·.1))] ++ [flt 4 fibE p.1.2]) ++ [rws 5 lgtD p.2]) :=
  opens_struct2 (k0 := 2) (k1 := 1) Tryz.underlying28 (by kernel_rfl) rfl rfl (by kernel_rfl) (by kernel_rfl) opens_net opens_lgts
theorem open_plan (hval : Value.okWide Tryz.prog W r b0 28 v) (h : DataW.Trod enc Tryz.prog W 0 (fun _ => true) true 28 v d ps) : ∃ p : Pln, PlnW W v p := by
  obtain ⟨⟨⟨ns, fs⟩, ls⟩, us, rfl, h1, h2⟩ := opens_agg Tryz.underlying28 hval opens_pln h
  match us, h1 with
  | [u1, u2, u3], _ =>
    obtain ⟨x1, e1, r1⟩ := h2 0 _ rfl
    obtain ⟨x2, e2, r2⟩ := h2 1 _ rfl
    obtain ⟨x3, e3, r3⟩ := h2 2 _ rfl
    cases e1; cases e2; cases e3
    exact ⟨⟨⟨ns.map (·.1), fs⟩, ls⟩, u1, u2, u3, rfl, r1, r2, r3, sub_small ns⟩
theorem open_ints (hval : Value.okWide Tryz.prog W r b0 29 v) (h : DataW.Trod enc Tryz.prog W 0 (fun _ => true) true 29 v d ps) : ∃ xs : List Int, Rw W v xs := by
  obtain ⟨xs, hx⟩ := opens_val Tryz.underlying29 hval opens_ints h
  exact ⟨xs, hx.ints⟩
end
/-! ### The laws' functions, as the laws use them -/
theorem toIntS_P (v : Value) (zs : List Int) (w : World) (h : Rw w v zs) (hr : zs.length ≤ 1048576) :
    Calls Tryz.prog 17 #[v] w (ToP (fun w' v f => Odt w' (inD zs) v f) w) := by
  refine (toIntS_w v zs w h hr).mono ?_
  rintro e w' ⟨v', rfl, o, b⟩
  obtain ⟨fp, h1, h2, h3⟩ := o.fp
  exact ⟨v', fp, rfl, h1, h2, h3, b⟩
end Go.Proofs.YtmkkdenhjfjmgaaGreat
