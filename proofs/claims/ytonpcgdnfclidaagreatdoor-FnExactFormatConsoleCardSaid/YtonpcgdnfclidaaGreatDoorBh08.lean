/- Joined: XLpc XFmtP XLfm XLogP. -/
import Derived.Test.YtonpcgdnfclidaaGreatDoorBh07
import Derived.Test.YtonpcgdnfclidaaGreatDoorBh02
import Derived.Test.YtonpcgdnfclidaaGreatDoorBh01
import Derived.Test.YtonpcgdnfclidaaGreatDoorBh04
import Derived.Lib.IndexMore
namespace Go.Proofs.YtonpcgdnfclidaaGreatDoor
open Go.RowKit Go.Sort
set_option maxRecDepth 100000

def mkQ (zs : List Lgt) (k : Nat) : Nat := 4 * k + totL (zs.take k)
def mkLgt (A : Int) (x : Lgt) : Lgt := ⟨A, A + 1, cnt (A + 1 + 1) x.fb.length, A + 1 + 1 + x.fb.length, A + 1 + 1 + x.fb.length + 1⟩
def mkLf (zs : List Lgt) (q : Nat) (i : Nat) : Lgt := mkLgt (((q + mkQ zs i : Nat) : Int)) (zs[i]?.getD nilL)
def mkLs (zs : List Lgt) (q : Nat) : List Lgt := (List.range zs.length).map (mkLf zs q)
theorem mkQ_step {zs : List Lgt} {k : Nat} (h : k < zs.length) : mkQ zs (k + 1) = mkQ zs k + 4 + (zs[k]?.getD nilL).fb.length := by
  unfold mkQ; rw [totL_step h]; omega
theorem mkQ_le {zs : List Lgt} {k : Nat} (h : k ≤ zs.length) : mkQ zs k ≤ 4 * zs.length + totL zs := by
  unfold mkQ; have := totL_le zs k; omega
theorem mkQ_all (zs : List Lgt) : mkQ zs zs.length = 4 * zs.length + totL zs := by unfold mkQ; rw [List.take_length]
theorem markLgt_1 {wr : World} {D : List Lgt} {x : Lgt} {fp : List Nat} {a : Option Addr} {n cap k : Nat} (h : Odt wr (rws 5 lgtD D) (.slice a n cap) fp) (hn : fp.Nodup) (hx : D[k]? = some x) (A B : Int) :
    ∃ g off u f, a = some ⟨g, off, none⟩ ∧ wr.cell? ⟨g, off + k * 5, none⟩ = some (.int .i64 x.id) ∧ wr.frozen? ⟨g, off + k * 5, none⟩ = false ∧
      (wr.setCell ⟨g, off + k * 5, none⟩ (.int .i64 A)).cell? ⟨g, off + k * 5 + 1, none⟩ = some (.int .i64 x.st) ∧ (wr.setCell ⟨g, off + k * 5, none⟩ (.int .i64 A)).frozen? ⟨g, off + k * 5 + 1, none⟩ = false ∧
      ((wr.setCell ⟨g, off + k * 5, none⟩ (.int .i64 A)).setCell ⟨g, off + k * 5 + 1, none⟩ (.int .i64 B)).cell? ⟨g, off + k * 5 + 2, none⟩ = some u ∧
      Odt ((wr.setCell ⟨g, off + k * 5, none⟩ (.int .i64 A)).setCell ⟨g, off + k * 5 + 1, none⟩ (.int .i64 B)) (inD x.fb) u f ∧ (∀ j ∈ f, j ∈ fp) ∧
      Wr wr ((wr.setCell ⟨g, off + k * 5, none⟩ (.int .i64 A)).setCell ⟨g, off + k * 5 + 1, none⟩ (.int .i64 B)) fp ∧
      ∀ (w' : World) (l' : List Int), Odt w' (inD l') u f → Wr ((wr.setCell ⟨g, off + k * 5, none⟩ (.int .i64 A)).setCell ⟨g, off + k * 5 + 1, none⟩ (.int .i64 B)) w' f → Odt w' (rws 5 lgtD (D.set k ⟨A, B, l', x.fi, x.ct⟩)) (.slice a n cap) fp := by
  have hm : ∀ z, (lgtD z).length = 5 := fun _ => rfl
  have hk : k < D.length := (List.getElem?_eq_some_iff.1 hx).1
  obtain ⟨g, off, rfl, c0, f0, o1, w1⟩ := h.rwsLeaf hm (by omega) hn 0 x ⟨A, x.st, x.fb, x.fi, x.ct⟩ (.int .i64 x.id) (.int .i64 A) hx (by omega) rfl rfl
  obtain ⟨g2, off2, ev, c1, f1, o2, w2⟩ := o1.rwsLeaf hm (by omega) hn 1 ⟨A, x.st, x.fb, x.fi, x.ct⟩ ⟨A, B, x.fb, x.fi, x.ct⟩ (.int .i64 x.st) (.int .i64 B) (set_get hk) (by omega) rfl rfl
  simp only [Option.some.injEq, Addr.mk.injEq, and_true] at ev
  obtain ⟨rfl, rfl⟩ := ev
  rw [List.set_set] at o2
  obtain ⟨g2, off2, u, f, ev, c2, o3, hsub, hfn, hcl⟩ := o2.rwsDeep hm (by omega) hn 2 ⟨A, B, x.fb, x.fi, x.ct⟩ (inD x.fb) (set_get hk) (by omega) rfl
  simp only [Option.some.injEq, Addr.mk.injEq, and_true] at ev
  obtain ⟨rfl, rfl⟩ := ev
  refine ⟨g, off, u, f, rfl, c0, f0, c1, f1, c2, o3, hsub, w1.trans w2, fun w' l' q1 q2 => ?_⟩
  have := hcl w' (inD l') ⟨A, B, l', x.fi, x.ct⟩ q1 q2 rfl
  rw [List.set_set] at this
  exact this
theorem markLgt_2 {wr : World} {D : List Lgt} {x : Lgt} {fp : List Nat} {g off n cap k : Nat} (h : Odt wr (rws 5 lgtD D) (.slice (some ⟨g, off, none⟩) n cap) fp) (hn : fp.Nodup) (hx : D[k]? = some x) (A B : Int) :
    wr.cell? ⟨g, off + k * 5 + 3, none⟩ = some (.int .i64 x.fi) ∧ wr.frozen? ⟨g, off + k * 5 + 3, none⟩ = false ∧
      (wr.setCell ⟨g, off + k * 5 + 3, none⟩ (.int .i64 A)).cell? ⟨g, off + k * 5 + 4, none⟩ = some (.int .i64 x.ct) ∧ (wr.setCell ⟨g, off + k * 5 + 3, none⟩ (.int .i64 A)).frozen? ⟨g, off + k * 5 + 4, none⟩ = false ∧
      Wr wr ((wr.setCell ⟨g, off + k * 5 + 3, none⟩ (.int .i64 A)).setCell ⟨g, off + k * 5 + 4, none⟩ (.int .i64 B)) fp ∧
      Odt ((wr.setCell ⟨g, off + k * 5 + 3, none⟩ (.int .i64 A)).setCell ⟨g, off + k * 5 + 4, none⟩ (.int .i64 B)) (rws 5 lgtD (D.set k ⟨x.id, x.st, x.fb, A, B⟩)) (.slice (some ⟨g, off, none⟩) n cap) fp := by
  have hm : ∀ z, (lgtD z).length = 5 := fun _ => rfl
  have hk : k < D.length := (List.getElem?_eq_some_iff.1 hx).1
  obtain ⟨g1, off1, ev, c0, f0, o1, w1⟩ := h.rwsLeaf hm (by omega) hn 3 x ⟨x.id, x.st, x.fb, A, x.ct⟩ (.int .i64 x.fi) (.int .i64 A) hx (by omega) rfl rfl
  simp only [Option.some.injEq, Addr.mk.injEq, and_true] at ev
  obtain ⟨rfl, rfl⟩ := ev
  obtain ⟨g2, off2, ev, c1, f1, o2, w2⟩ := o1.rwsLeaf hm (by omega) hn 4 ⟨x.id, x.st, x.fb, A, x.ct⟩ ⟨x.id, x.st, x.fb, A, B⟩ (.int .i64 x.ct) (.int .i64 B) (set_get hk) (by omega) rfl rfl
  simp only [Option.some.injEq, Addr.mk.injEq, and_true] at ev
  obtain ⟨rfl, rfl⟩ := ev
  rw [List.set_set] at o2
  exact ⟨c0, f0, c1, f1, w1.trans w2, o2⟩
set_option maxHeartbeats 3200000 in
theorem markLightS_any (v : Value) (zs : List Lgt) (fp : List Nat) (q : Nat) (w : World) (h : Odt w (rws 5 lgtD zs) v fp) (hn : fp.Nodup) (hb : 4 * zs.length + totL zs ≤ 67108864) (hq : 0 < q) (hq2 : q ≤ 1099511627776) :
    Calls Tryz.prog 69 #[v, .int .i64 (q : Int)] w fun e w' => e = .returned (.int .i64 ((q + (4 * zs.length + totL zs) : Nat) : Int)) ∧ Odt w' (rws 5 lgtD (mkLs zs q)) v fp ∧ Wr w w' fp := by
  obtain ⟨a, n, cap, rfl, HN, _, hnl, -⟩ := lgt_opn h.rd
  have HT := Lib.hid (fun k (h : k < zs.length) => @mkQ_step zs k h)
  have HTL := Lib.hid (fun k (h : k ≤ zs.length) => Nat.le_trans (@mkQ_le zs k h) hb)
  have HST := Lib.hid (fun k (h : k < zs.length) => mkG_step (mkLf zs q) zs k h)
  have HAT := Lib.hid (mkG_at (mkLf zs q) zs)
  have HZ := Lib.hid (mkG_zero (mkLf zs q) zs)
  have HALL := Lib.hid (show mkG (mkLf zs q) zs n = mkLs zs q by rw [mkG_all _ _ n HN.out]; unfold mkLs; rw [HN.out])
  have HQ := Lib.hid (show q + mkQ zs n = q + (4 * zs.length + totL zs) by rw [← HN.out, mkQ_all])
  have HF := Lib.hid (show ∀ i, mkLf zs q i = mkLgt (((q + mkQ zs i : Nat) : Int)) (zs[i]?.getD nilL) from fun _ => rfl)
  have HH := Lib.hid h
  generalize q + (4 * zs.length + totL zs) = R at *
  generalize mkLs zs q = L at *
  generalize mkLf zs q = F at *
  clear hb h
  go_enter Tryz.func69, Tryz.ntmps69
  go_wp2
  go_loopw [1, 5] (fun x i wr => ∃ k : Nat, k ≤ n ∧ i = .int .i64 k ∧ x = .int .i64 ((q + mkQ zs k : Nat) : Int) ∧ Hid (Odt wr (rws 5 lgtD (mkG F zs k)) (.slice a n cap) fp) ∧ Hid (Wr w wr fp)) (fun _ i _ => n - (intOf i).toNat)
  case atStart => exact ⟨0, by omega, rfl, by simp [mkQ, totL], by rw [HZ.out]; exact HH.out, Wr.refl _ _⟩
  case round =>
    obtain ⟨k, hk, rfl, rfl, HO, HW⟩ := hrel
    have hT0 := HTL.out k (by rw [HN.out]; exact hk)
    by_cases hlt : k < n
    · have hltI : (k : Int) < (n : Int) := by omega
      have hkx : k < zs.length := by rw [HN.out]; exact hlt
      have hqs := HT.out k hkx
      have hT1 := HTL.out (k + 1) (by rw [HN.out]; omega)
      have hdk : (mkG F zs k)[k]? = some (zs[k]?.getD nilL) := by rw [HAT.out k, List.getElem?_eq_getElem hkx]; rfl
      have HMK := Lib.hid (HST.out k hkx)
      have HFK := Lib.hid (HF.out k)
      obtain ⟨A, hA⟩ : ∃ A : Int, ((q + mkQ zs k : Nat) : Int) = A := ⟨_, rfl⟩
      rw [hA] at HFK ⊢
      generalize zs[k]?.getD nilL = x at *
      have hA0 : 0 ≤ A ∧ A ≤ 1099511627776 + 67108864 := by omega
      have hA1 : ((q + mkQ zs (k + 1) : Nat) : Int) = A + 1 + 1 + x.fb.length + 1 + 1 := by omega
      have hxl : (x.fb.length : Int) ≤ 67108864 := by omega
      obtain ⟨g, off, u, fu, rfl, c0, f0, c1, f1, c2, o3, hsub, hw, hcl⟩ := markLgt_1 HO.out hn hdk A (A + 1)
      have HMI := Lib.hid (markIntS_odt u x.fb fu (A + 1 + 1) _ o3 (by omega) (by omega))
      have HCL := Lib.hid hcl
      have HSUB := Lib.hid hsub
      have HW2 := Lib.hid (HW.out.trans hw)
      have HKD := Lib.hid (show k < (mkG F zs k).length from (List.getElem?_eq_some_iff.1 hdk).1)
      have HA1 := Lib.hid hA1
      clear o3 hcl hsub hw hdk HO HW hqs hT1 hT0 hA hA1
      generalize mkG F zs k = D at *
      go_wp2_with fail
      refine HMI.out.mono ?_
      rintro e w3 ⟨rfl, o4, w4⟩
      have o5 := HCL.out w3 _ o4 w4
      obtain ⟨c3, f3, c4, f4, hw5, o6⟩ := markLgt_2 o5 hn (set_get HKD.out) (A + 1 + 1 + x.fb.length) (A + 1 + 1 + x.fb.length + 1)
      rw [List.set_set] at o6
      have HO6 := Lib.hid o6
      have HW6 := Lib.hid ((HW2.out.trans (w4.mono HSUB.out)).trans hw5)
      have hxl2 : (0 : Int) ≤ (x.fb.length : Int) := by omega
      clear o4 w4 o5 o6 hw5 c0 f0 c1 f1 c2 HCL HMI
      go_wp2
      go_roundw
      case rel => exact ⟨k + 1, by omega, by go_num, int_eq (by rw [HA1.out]), by have := HO6.out; rw [← HMK.out, HFK.out]; exact this, HW6.out⟩
      case measure => simp [intOf]; omega
    · obtain rfl : k = n := by omega
      go_wp2
      go_ret
      exact ⟨by rw [HQ.out]; rfl, by rw [← HALL.out]; exact HO.out, HW.out⟩

/-! ### Plans -/
def PlnW (w : World) (v : Value) (p : Pln) : Prop := ∃ u1 u2 u3, v = .agg #[u1, u2, u3] ∧ Rwt w (flt 1 strE p.n.ns) u1 ∧ Rwt w (flt 4 fibE p.n.fs) u2 ∧ Rwt w (rws 5 lgtD p.ls) u3 ∧ ∀ i : Nat, (nmA p.n i).size ≤ maxLen
theorem PlnW.behind {w w' : World} {v : Value} {p : Pln} (h : PlnW w v p) (hb : Below w.heap.size w w') : PlnW w' v p := by
  obtain ⟨u1, u2, u3, e, h1, h2, h3, h4⟩ := h; exact ⟨u1, u2, u3, e, h1.behind hb, h2.behind hb, h3.behind hb, h4⟩
def PlnO (w : World) (p : Pln) (v : Value) (fp : List Nat) : Prop := ∃ u1 u2 u3 f1 f2 f3, v = .agg #[u1, u2, u3] ∧ Odt w (flt 1 strE p.n.ns) u1 f1 ∧ Odt w (flt 4 fibE p.n.fs) u2 f2 ∧ Odt w (rws 5 lgtD p.ls) u3 f3 ∧ fp = (f1 ++ f2) ++ f3
theorem PlnO.rd {w : World} {p : Pln} {v : Value} {fp : List Nat} (h : PlnO w p v fp) (hs : NetSm p.n) : PlnR w v p := by
  obtain ⟨u1, u2, u3, f1, f2, f3, e, h1, h2, h3, _⟩ := h; exact ⟨u1, u2, u3, e, h1.rd, h2.rd, h3.rd, hs⟩
theorem PlnO.behind {w w' : World} {p : Pln} {v : Value} {fp : List Nat} (h : PlnO w p v fp) (hb : Below w.heap.size w w') : PlnO w' p v fp := by
  obtain ⟨u1, u2, u3, f1, f2, f3, e, h1, h2, h3, e2⟩ := h; exact ⟨u1, u2, u3, f1, f2, f3, e, h1.behind hb, h2.behind hb, h3.behind hb, e2⟩
theorem PlnO.apart {w w' : World} {p : Pln} {v : Value} {fp fq : List Nat} (h : PlnO w p v fp) (hw : Wr w w' fq) (hd : ∀ k ∈ fp, k ∉ fq) : PlnO w' p v fp := by
  obtain ⟨u1, u2, u3, f1, f2, f3, e, h1, h2, h3, rfl⟩ := h
  exact ⟨u1, u2, u3, f1, f2, f3, e, h1.apart hw (fun k hk => hd k (by simp [hk])), h2.apart hw (fun k hk => hd k (by simp [hk])), h3.apart hw (fun k hk => hd k (by simp [hk])), rfl⟩
theorem PlnO.lt {w : World} {p : Pln} {v : Value} {fp : List Nat} (h : PlnO w p v fp) : ∀ k ∈ fp, k < w.heap.size := by
  obtain ⟨u1, u2, u3, f1, f2, f3, e, h1, h2, h3, rfl⟩ := h
  intro k hk
  rcases List.mem_append.1 hk with hk | hk
  · rcases List.mem_append.1 hk with hk | hk
    · exact h1.lt k hk
    · exact h2.lt k hk
  · exact h3.lt k hk
theorem PlnO.form {w : World} {p : Pln} {v : Value} {fp : List Nat} (h : PlnO w p v fp) : ∃ a1 n1 c1 a2 n2 c2 a3 n3 c3, v = .agg #[.slice a1 n1 c1, .slice a2 n2 c2, .slice a3 n3 c3] := by
  obtain ⟨u1, u2, u3, f1, f2, f3, rfl, h1, h2, h3, _⟩ := h
  obtain ⟨a1, n1, c1, rfl⟩ := Rdt.slice (show Rdt w (.rows _ _) u1 from h1.rd)
  obtain ⟨a2, n2, c2, rfl⟩ := Rdt.slice (show Rdt w (.rows _ _) u2 from h2.rd)
  obtain ⟨a3, n3, c3, rfl⟩ := Rdt.slice (show Rdt w (.rows _ _) u3 from h3.rd)
  exact ⟨_, _, _, _, _, _, _, _, _, rfl⟩
def szP (p : Pln) : Nat := szN p.n + (p.ls.length + totL p.ls)
set_option maxHeartbeats 1600000 in
theorem szPlan_any (v : Value) (p : Pln) (l : Int) (w : World) (h : PlnW w v p) (h0 : 0 ≤ l) (h1 : l ≤ 1048576) :
    Calls Tryz.prog 25 #[v, .int .i64 l] w (SzQ (szP p) l w) := by
  obtain ⟨u1, u2, u3, rfl, r1, r2, r3, hs⟩ := h
  obtain ⟨a1, n1, c1, rfl⟩ := r1.slice
  obtain ⟨a2, n2, c2, rfl⟩ := r2.slice
  obtain ⟨a3, n3, c3, rfl⟩ := r3.slice
  obtain ⟨bx, bc, blt, -⟩ := box_facts w #[.slice a1 n1 c1, .slice a2 n2 c2, .slice a3 n3 c3] 28
  have q2 := bc 2 _ rfl
  have HS1 := Lib.hid (szNetwork_any (.agg #[.slice a1 n1 c1, .slice a2 n2 c2]) p.n l _ ⟨_, _, rfl, r1.behind bx, r2.behind bx, hs⟩ h0 h1)
  have HS2 := Lib.hid (fun l' w' (hb : Below w.heap.size w w') (h0 : 0 ≤ l') (h1 : l' ≤ 1048576) => szLightS_any (.slice a3 n3 c3) p.ls l' w' (r3.behind hb) h0 h1)
  have HB := Lib.hid bx
  have HN := Lib.hid (show szP p = szN p.n + (p.ls.length + totL p.ls) from rfl)
  unfold SzQ at HS1 HS2 ⊢
  clear bx bc r1 r2 r3 hs
  generalize szP p = N at *
  generalize szN p.n = N1 at *
  generalize p.ls.length + totL p.ls = N2 at *
  go_enter Tryz.func25, Tryz.ntmps25
  go_wp2_with fail
  generalize w.alloc (.cells #[.slice a1 n1 c1, .slice a2 n2 c2, .slice a3 n3 c3] 28) = w1 at *
  refine HS1.out.mono ?_
  rintro e w2 ⟨r, rfl, b2, hr⟩
  have HR := Lib.hid hr
  clear hr
  have p2 := (b2.cell (p := ⟨w.heap.size, 2, none⟩) blt).trans q2
  have HB2 := Lib.hid (HB.out.trans (b2.mono HB.out.size))
  clear b2 q2
  by_cases hneg : r < 0
  · have hb : decide (r < 0) = true := decide_eq_true hneg
    go_wp2
    go_ret
    exact ⟨-1, rfl, HB2.out, .inl ⟨rfl, by have := HN.out; have := HR.out; omega⟩⟩
  have hb : decide (r < 0) = false := decide_eq_false hneg
  have HR2 := Lib.hid (show r = l - N1 ∧ 0 ≤ r by have := HR.out; omega)
  have HS3 := Lib.hid (HS2.out r w2 HB2.out HR2.out.2 (by have := HR2.out; omega))
  go_wp2_with fail
  refine HS3.out.mono ?_
  rintro e w3 ⟨r3, rfl, b3, hr3⟩
  have HR3 := Lib.hid hr3
  clear hr3
  have HB3 := Lib.hid (HB2.out.trans (b3.mono HB2.out.size))
  clear b3
  by_cases hneg3 : r3 < 0
  · have hb3 : decide (r3 < 0) = true := decide_eq_true hneg3
    go_wp2
    go_ret
    exact ⟨-1, rfl, HB3.out, .inl ⟨rfl, by have := HN.out; have := HR2.out; have := HR3.out; omega⟩⟩
  have hb3 : decide (r3 < 0) = false := decide_eq_false hneg3
  go_wp2
  go_ret
  exact ⟨r3, rfl, HB3.out, .inr ⟨by have := HN.out; have := HR2.out; have := HR3.out; omega, by omega⟩⟩
set_option maxHeartbeats 1600000 in
theorem toPlan_any (v : Value) (p : Pln) (w : World) (h : PlnW w v p) (h1 : p.n.ns.length ≤ 1048576) (h2 : p.n.fs.length ≤ 1048576) (h3 : p.ls.length ≤ 1048576) (h4 : ∀ i : Nat, (lgA p i).fb.length ≤ 1048576) :
    Calls Tryz.prog 28 #[v] w (ToP (fun w' => PlnO w' p) w) := by
  obtain ⟨u1, u2, u3, rfl, r1, r2, r3, hs⟩ := h
  obtain ⟨a1, n1, c1, rfl⟩ := r1.slice
  obtain ⟨a2, n2, c2, rfl⟩ := r2.slice
  obtain ⟨a3, n3, c3, rfl⟩ := r3.slice
  obtain ⟨b3, k1, k2, k3, hz⟩ := three_boxes w #[.slice a1 n1 c1, .slice a2 n2 c2, .slice a3 n3 c3] #[.slice none 0 0, .slice none 0 0, .slice none 0 0] #[.slice none 0 0, .slice none 0 0, .slice none 0 0] 28 41 41
  have HB := Lib.hid b3
  have K1 := Lib.hid k1
  have K2 := Lib.hid k2
  have K3 := Lib.hid k3
  have HZ := Lib.hid hz
  have HT1 := Lib.hid (toNetwork_any (.agg #[.slice a1 n1 c1, .slice a2 n2 c2]) p.n _ ⟨_, _, rfl, r1.behind b3, r2.behind b3, hs⟩ h1 h2)
  have HT2 := Lib.hid (fun w' (hb : Below w.heap.size w w') => toLightS_any (.slice a3 n3 c3) p.ls w' (r3.behind hb) h3 h4)
  unfold ToP at HT1 ⊢
  clear b3 k1 k2 k3 hz r1 r2 r3 hs
  go_enter Tryz.func28, Tryz.ntmps28
  go_wp2_with fail
  refine HT1.out.mono ?_
  rintro e w4 ⟨v4, fp, rfl, o1, o2, o3, b4⟩
  obtain ⟨a5, n5, c5, a6, n6, c6, rfl⟩ := o1.form
  have m1 := kept_o' K1.out b4
  have x2 := blkc m1 (j := 2) (u := .slice a3 n3 c3) rfl
  have M1 := Lib.hid m1
  have M2 := Lib.hid (kept_o' K2.out b4)
  have M3 := Lib.hid (kept_o' K3.out b4)
  have HB4 := Lib.hid (HB.out.trans (b4.mono HB.out.size))
  obtain ⟨y1, y2, f1, f2, ey, p1, p2, rfl⟩ := o1
  simp only [Value.agg.injEq, Array.mk.injEq, List.cons.injEq, and_true] at ey
  obtain ⟨rfl, rfl⟩ := ey
  have P1 := Lib.hid p1
  have P2 := Lib.hid p2
  have HN4 := Lib.hid o2
  have HL4 := Lib.hid (show ∀ k ∈ f1 ++ f2, w.heap.size + 1 + 1 < k ∧ k < w4.heap.size from fun k hk => by
    have h1 := o3 k hk; have := HZ.out
    rcases List.mem_append.1 hk with h | h
    · have := p1.lt k h; omega
    · have := p2.lt k h; omega)
  have hs4 : w.heap.size + 1 + 1 < w4.heap.size := by have := b4.size; have := HZ.out; omega
  clear b4 o2 o3 K1 K2 K3 m1 p1 p2
  go_wp2_with (((show wpList _ _ _ (⟨none, .store 38 _ _, _, _, _, _⟩ :: _) _ _); refine wpList_stx rfl 38 _ _ rfl (w.heap.size + 1 + 1) 0 [.slice a5 n5 c5, .slice a6 n6 c6] rfl rfl M3.out (by simp) (by kernel_rfl) (by simp [Value.oneCell']) ?_; intro w5 hs; have n1 := hs.keep (by omega) M1.out; have N2 := Lib.hid (hs.keep (by omega) M2.out); have N3 := Lib.hid hs.blk; have HB5 := Lib.hid (hs.below w.heap.size w (by omega) HB4.out); have P1 := Lib.hid (hs.odt P1.out (fun hk => by have := HL4.out _ (List.mem_append_left _ hk); omega)); have P2 := Lib.hid (hs.odt P2.out (fun hk => by have := HL4.out _ (List.mem_append_right _ hk); omega)); have HSZ := Lib.hid hs.size; clear x2; have x2 := blkc n1 (j := 2) (u := .slice a3 n3 c3) rfl; have N1 := Lib.hid n1; clear hs n1))
  go_wp2_with fail
  refine (HT2.out _ HB5.out).mono ?_
  rintro e w6 ⟨v6, rfl, ⟨f3, o6, hn6, g6⟩, b6⟩
  obtain ⟨a7, n7, c7, rfl⟩ := Rdt.slice (show Rdt w6 (.rows _ _) v6 from o6.rd)
  have M2 := Lib.hid (kept_o' N2.out b6)
  have M3 := Lib.hid (kept_o' N3.out b6)
  have HB6 := Lib.hid (HB5.out.trans (b6.mono HB5.out.size))
  have P1 := Lib.hid (P1.out.behind b6)
  have P2 := Lib.hid (P2.out.behind b6)
  have P3 := Lib.hid o6
  have HN6 := Lib.hid hn6
  have HL6 := Lib.hid (show ∀ k ∈ f3, w4.heap.size ≤ k from fun k hk => by have := g6 k hk; have := HSZ.out; omega)
  clear b6 x2 o6 hn6 g6
  go_wp2_with (first
    | ((show wpList _ _ _ (⟨none, .store 39 _ _, _, _, _, _⟩ :: _) _ _); refine wpList_st1 rfl 39 _ _ rfl (w.heap.size + 1 + 1) 2 (.slice a7 n7 c7) rfl rfl M3.out (by simp [putA]) (by kernel_rfl) ⟨rfl, rfl⟩ ?_; intro w7 hs; have N2 := Lib.hid (hs.keep (by omega) M2.out); have N3 := Lib.hid hs.blk; have HB7 := Lib.hid (hs.below w.heap.size w (by omega) HB6.out); have P1 := Lib.hid (hs.odt P1.out (fun hk => by have := HL4.out _ (List.mem_append_left _ hk); omega)); have P2 := Lib.hid (hs.odt P2.out (fun hk => by have := HL4.out _ (List.mem_append_right _ hk); omega)); have P3 := Lib.hid (hs.odt P3.out (fun hk => by have := HL6.out _ hk; omega)); clear hs)
    | ((show wpList _ _ _ (⟨some _, .load 41 _, _, _, _, _⟩ :: _) _ _); refine wpList_ldx rfl 41 _ rfl (w.heap.size + 1 + 1) 0 rfl [.slice a5 n5 c5, .slice a6 n6 c6, .slice a7 n7 c7] N3.out rfl _ (by exact Tryz.underlying41) rfl (by kernel_rfl) ?_)
    | ((show wpList _ _ _ (⟨none, .store 41 _ _, _, _, _, _⟩ :: _) _ _); refine wpList_stx rfl 41 _ _ rfl (w.heap.size + 1) 0 [.slice a5 n5 c5, .slice a6 n6 c6, .slice a7 n7 c7] rfl rfl N2.out (by simp) (by kernel_rfl) (by simp [Value.oneCell']) ?_; intro w8 hs; have n2 := hs.blk; have HB8 := Lib.hid (hs.below w.heap.size w (by omega) HB7.out); have P1 := Lib.hid (hs.odt P1.out (fun hk => by have := HL4.out _ (List.mem_append_left _ hk); omega)); have P2 := Lib.hid (hs.odt P2.out (fun hk => by have := HL4.out _ (List.mem_append_right _ hk); omega)); have P3 := Lib.hid (hs.odt P3.out (fun hk => by have := HL6.out _ hk; omega)); clear hs; have t0 := blkc n2 (j := 0) (u := .slice a5 n5 c5) rfl; have t1 := blkc n2 (j := 1) (u := .slice a6 n6 c6) rfl; have t2 := blkc n2 (j := 2) (u := .slice a7 n7 c7) rfl))
  exact bodyPost_ret (v := .agg #[.slice a5 n5 c5, .slice a6 n6 c6, .slice a7 n7 c7]) (by simp [results, Tryz.results28, go_sem, t0, t1, t2]) rfl ⟨_, (f1 ++ f2) ++ f3, rfl, ⟨_, _, _, _, _, _, rfl, P1.out, P2.out, P3.out, rfl⟩, List.nodup_append.2 ⟨HN4.out, HN6.out, fun a ha b hb e => by have := HL4.out a ha; have := HL6.out b hb; omega⟩, fun k hk => by
    rcases List.mem_append.1 hk with hk | hk
    · have := HL4.out k hk; omega
    · have := HL6.out k hk; omega, HB8.out⟩
set_option maxHeartbeats 1600000 in
theorem eqPlan_same (va vb : Value) (p : Pln) (w : World) (ha : PlnR w va p) (hb : PlnR w vb p) :
    Calls Tryz.prog 33 #[va, vb] w fun e w' => e = .returned (.bool true) ∧ Below w.heap.size w w' := by
  obtain ⟨u1, u2, u3, rfl, r1, r2, r3, hs⟩ := ha
  obtain ⟨v1, v2, v3, rfl, s1, s2, s3, hs2⟩ := hb
  obtain ⟨a1, n1, c1, rfl⟩ := Rdt.slice (show Rdt w (.rows _ _) u1 from r1)
  obtain ⟨a2, n2, c2, rfl⟩ := Rdt.slice (show Rdt w (.rows _ _) u2 from r2)
  obtain ⟨a3, n3, c3, rfl⟩ := Rdt.slice (show Rdt w (.rows _ _) u3 from r3)
  obtain ⟨a4, n4, c4, rfl⟩ := Rdt.slice (show Rdt w (.rows _ _) v1 from s1)
  obtain ⟨a5, n5, c5, rfl⟩ := Rdt.slice (show Rdt w (.rows _ _) v2 from s2)
  obtain ⟨a6, n6, c6, rfl⟩ := Rdt.slice (show Rdt w (.rows _ _) v3 from s3)
  have h1 := (Below.refl w.heap.size w).alloc (Nat.le_refl _) (.cells #[.slice a1 n1 c1, .slice a2 n2 c2, .slice a3 n3 c3] 41)
  have h2 := h1.alloc h1.size (.cells #[.slice a4 n4 c4, .slice a5 n5 c5, .slice a6 n6 c6] 41)
  have HE1 := Lib.hid (eqNetwork_same (.agg #[.slice a1 n1 c1, .slice a2 n2 c2]) (.agg #[.slice a4 n4 c4, .slice a5 n5 c5]) p.n _ ⟨_, _, rfl, r1.behind h2, r2.behind h2, hs⟩ ⟨_, _, rfl, s1.behind h2, s2.behind h2, hs2⟩)
  have HE2 := Lib.hid (fun w' (hb : Below w.heap.size w w') => eqLightS_same _ _ p.ls w' (r3.behind hb) (s3.behind hb))
  have HB := Lib.hid h2
  clear h1 h2 r1 r2 r3 s1 s2 s3
  go_enter Tryz.func33, Tryz.ntmps33
  go_wp2_with fail
  refine HE1.out.mono ?_
  rintro e w2 ⟨rfl, b2⟩
  obtain ⟨hc, hf⟩ := bcell b2
  have HB2 := Lib.hid (HB.out.trans (b2.mono HB.out.size))
  clear b2
  go_wp2_with fail
  refine (HE2.out _ HB2.out).mono ?_
  rintro e w3 ⟨rfl, b3⟩
  have HB3 := Lib.hid (HB2.out.trans (b3.mono HB2.out.size))
  clear b3 hc hf
  go_wp2
  go_ret
  exact ⟨rfl, HB3.out⟩
def mkP (p : Pln) : Nat := mkN p.n + (4 * p.ls.length + totL p.ls)
def mkPln (p : Pln) (q : Nat) : Pln := ⟨mkNet p.n q, mkLs p.ls (q + mkN p.n)⟩
set_option maxHeartbeats 1600000 in
theorem markPlan_any (v : Value) (p : Pln) (fp : List Nat) (q : Nat) (w : World) (h : PlnO w p v fp) (hn : fp.Nodup) (h1 : p.n.ns.length ≤ 1048576) (h2 : p.n.fs.length ≤ 1048576) (h3 : 4 * p.ls.length + totL p.ls ≤ 67108864) (hq : 0 < q) (hq2 : q ≤ 549755813888) :
    Calls Tryz.prog 47 #[v, .int .i64 (q : Int)] w fun e w' => e = .returned (.int .i64 ((q + mkP p : Nat) : Int)) ∧ PlnO w' (mkPln p q) v fp ∧ Wr w w' fp := by
  obtain ⟨u1, u2, u3, f1, f2, f3, rfl, r1, r2, r3, rfl⟩ := h
  obtain ⟨hn1, hn2, hn3⟩ := List.nodup_append.1 hn
  obtain ⟨a1, n1, c1, rfl⟩ := Rdt.slice (show Rdt w (.rows _ _) u1 from r1.rd)
  obtain ⟨a2, n2, c2, rfl⟩ := Rdt.slice (show Rdt w (.rows _ _) u2 from r2.rd)
  obtain ⟨a3, n3, c3, rfl⟩ := Rdt.slice (show Rdt w (.rows _ _) u3 from r3.rd)
  obtain ⟨bx, bc, blt, -⟩ := box_facts w #[.slice a1 n1 c1, .slice a2 n2 c2, .slice a3 n3 c3] 41
  have q2 := bc 2 (.slice a3 n3 c3) rfl
  have hlt1 : ∀ k ∈ f1 ++ f2, k < w.heap.size := fun k hk => by
    rcases List.mem_append.1 hk with h | h
    · exact r1.lt k h
    · exact r2.lt k h
  have hmn : mkN p.n = p.n.ns.length + 4 * p.n.fs.length := rfl
  have HM1 := Lib.hid (markNetwork_any (.agg #[.slice a1 n1 c1, .slice a2 n2 c2]) p.n (f1 ++ f2) q _ ⟨_, _, _, _, rfl, r1.behind bx, r2.behind bx, rfl⟩ hn1 h1 h2 hq (by omega))
  have R3 := Lib.hid (r3.behind bx)
  have HBX := Lib.hid bx
  have HL := Lib.hid hlt1
  have HD := Lib.hid hn3
  have HM2 := Lib.hid (fun w' (ho : Odt w' (rws 5 lgtD p.ls) (.slice a3 n3 c3) f3) => markLightS_any (.slice a3 n3 c3) p.ls f3 (q + mkN p.n) w' ho hn2 h3 (by omega) (by omega))
  have HE := Lib.hid (show q + mkP p = q + mkN p.n + (4 * p.ls.length + totL p.ls) by unfold mkP; omega)
  have HMK := Lib.hid (show mkPln p q = ⟨mkNet p.n q, mkLs p.ls (q + mkN p.n)⟩ from rfl)
  generalize q + mkP p = R at *
  generalize mkPln p q = P' at *
  generalize q + mkN p.n = Q at *
  clear bx bc r1 r2 r3 hlt1 hn hn3 hmn
  go_enter Tryz.func47, Tryz.ntmps47
  go_wp2_with fail
  generalize w.alloc (.cells #[.slice a1 n1 c1, .slice a2 n2 c2, .slice a3 n3 c3] 41) = w1 at *
  refine HM1.out.mono ?_
  rintro e w2 ⟨rfl, o1, wr1⟩
  have e1 : w2.cell? ⟨w.heap.size, 2, none⟩ = some (.slice a3 n3 c3) := by
    unfold World.cell? at q2 ⊢
    rw [wr1.block _ blt (fun hk => Nat.lt_irrefl _ (HL.out _ hk))]
    exact q2
  have O3 := Lib.hid (R3.out.apart wr1 (fun k hk hk2 => HD.out k hk2 k hk rfl))
  have HM3 := Lib.hid (HM2.out w2 O3.out)
  have O1 := Lib.hid o1
  have W1 := Lib.hid wr1
  clear o1 wr1 q2 HM1
  go_wp2_with fail
  refine HM3.out.mono ?_
  rintro e w3 ⟨rfl, o2, wr2⟩
  have O1 := Lib.hid (O1.out.apart wr2 (fun k hk hk2 => HD.out k hk k hk2 rfl))
  have HW := Lib.hid (((Wr.of_below HBX.out : Wr w w1 ((f1 ++ f2) ++ f3)).trans (W1.out.mono (fun k hk => List.mem_append_left _ hk))).trans (wr2.mono (fun k hk => List.mem_append_right _ hk)))
  have O2 := Lib.hid o2
  clear o2 wr2
  obtain ⟨x1, x2, g1, g2, ex, p1, p2, eg⟩ := O1.out
  simp only [Value.agg.injEq, Array.mk.injEq, List.cons.injEq, and_true] at ex
  obtain ⟨rfl, rfl⟩ := ex
  have P1 := Lib.hid p1
  have P2 := Lib.hid p2
  have EG := Lib.hid eg
  clear p1 p2 eg O1
  go_wp2
  go_ret
  exact ⟨by rw [HE.out]; rfl, by rw [HMK.out, EG.out]; exact ⟨_, _, _, g1, g2, f3, rfl, P1.out, P2.out, O2.out, rfl⟩, HW.out⟩
end Go.Proofs.YtonpcgdnfclidaaGreatDoor
namespace Go.Proofs.YtonpcgdnfclidaaGreatDoor
open Go.RowKit

structure Fmt where
  c : Int
  r : Int
def nilFm : Fmt := ⟨0, 0⟩
def fmE (z : Fmt) : List Value := [.int .i64 z.c, .int .i64 z.r]
/-- The format at place i is right: in its bounds, and it reaches less and carries more than the one before. -/
def fmAt (zs : List Fmt) (i : Nat) : Bool :=
  inB (zs[i]?.getD nilFm).c 1 20000 && (inB (zs[i]?.getD nilFm).r 1 1000 && !(decide (0 < i) && (decide ((zs[i - 1]?.getD nilFm).c ≤ (zs[i]?.getD nilFm).c) || decide ((zs[i]?.getD nilFm).r ≤ (zs[i - 1]?.getD nilFm).r))))
def fmOk (zs : List Fmt) : Bool := (List.range zs.length).all (fmAt zs) && inB (zs.length : Int) 1 6
theorem fmOk_at {zs : List Fmt} {k : Nat} (hk : k < zs.length) (h : fmAt zs k = false) : fmOk zs = false := by
  unfold fmOk
  have : (List.range zs.length).all (fmAt zs) = false := by
    rw [List.all_eq_false]
    exact ⟨k, List.mem_range.2 hk, by simp [h]⟩
  rw [this]; rfl
theorem fmOk_all {zs : List Fmt} (h : ∀ i, i < zs.length → fmAt zs i = true) : fmOk zs = inB (zs.length : Int) 1 6 := by
  unfold fmOk
  have : (List.range zs.length).all (fmAt zs) = true := List.all_eq_true.2 fun i hi => h i (List.mem_range.1 hi)
  rw [this]; rfl
theorem fmOk_long {zs : List Fmt} (h : 6 < zs.length) : fmOk zs = false := by
  unfold fmOk
  have : inB (zs.length : Int) 1 6 = false := by unfold inB; rw [decide_eq_false (show ¬ (zs.length : Int) ≤ 6 by omega)]; simp
  rw [this]; simp
theorem fm_up {zs : List Fmt} {k : Nat} (h : ∀ i, i < k → fmAt zs i = true) (hk : fmAt zs k = true) : ∀ i, i < k + 1 → fmAt zs i = true := fun i hi => by
  by_cases e : i = k
  · subst e; exact hk
  · exact h i (by omega)
end Go.Proofs.YtonpcgdnfclidaaGreatDoor
namespace Go.Proofs.YtonpcgdnfclidaaGreatDoor
open Go.RowKit Go.Sort
set_option maxRecDepth 100000

def fmV (z : Fmt) : Value := .agg #[.int .i64 z.c, .int .i64 z.r]
def mkFmt (q : Int) : Fmt := ⟨q, q + 1⟩
theorem szFormatS_any (v : Value) (zs : List Fmt) (l : Int) (w : World) (h : Rwt w (flt 2 fmE zs) v) (h0 : 0 ≤ l) (h1 : l ≤ 1048576) :
    Calls Tryz.prog 12 #[v, .int .i64 l] w fun e w' => e = .returned (.int .i64 (if l < zs.length then -1 else l - zs.length)) ∧ w = w' := by
  obtain ⟨a, n, cap, rfl, HN, hla, _⟩ := flt_opnw (m := 2) (enc := fmE) (fun _ => rfl) (by omega) nilFm h
  rw [HN.out]
  clear h
  by_cases hc : l - n < 0
  · have hb : decide (l - n < 0) = true := by simpa using hc
    have e : (if l < (n : Int) then (-1 : Int) else l - n) = -1 := if_pos (by omega)
    rw [e]
    go_enter Tryz.func12, Tryz.ntmps12
    go_wp2
    go_ret
    exact ⟨rfl, rfl⟩
  · have hb : decide (l - n < 0) = false := by simpa using hc
    have e : (if l < (n : Int) then (-1 : Int) else l - n) = l - n := if_neg (by omega)
    rw [e]
    go_enter Tryz.func12, Tryz.ntmps12
    go_wp2
    go_ret
    exact ⟨rfl, rfl⟩
theorem toFormat_any (z : Fmt) (w : World) :
    Calls Tryz.prog 40 #[fmV z] w fun e w' => e = .returned (fmV z) ∧ Below w.heap.size w w' := by
  unfold fmV
  go_enter Tryz.func40, Tryz.ntmps40
  go_wp2
  exact bodyPost_ret (v := .agg #[.int .i64 z.c, .int .i64 z.r]) (by simp [results, Tryz.results40, go_sem]) rfl ⟨rfl, (((Below.refl _ _).alloc (Nat.le_refl _) _).alloc (by simp) _).alloc (by simp; omega) _⟩
theorem eqFormat_same (z : Fmt) (w : World) :
    Calls Tryz.prog 44 #[fmV z, fmV z] w fun e w' => e = .returned (.bool true) ∧ Below w.heap.size w w' := by
  have n0 : (z.c != z.c) = false := by simp
  have n1 : (z.r != z.r) = false := by simp
  have HB := Lib.hid (((Below.refl w.heap.size w).alloc (Nat.le_refl _) (.cells #[.int .i64 z.c, .int .i64 z.r] 78)).alloc (by simp) (.cells #[.int .i64 z.c, .int .i64 z.r] 78))
  unfold fmV
  go_enter Tryz.func44, Tryz.ntmps44
  go_wp2
  go_ret
  exact ⟨rfl, HB.out⟩
theorem Tryz.infoFormat : (Tryz.prog.info? 78).map (fun i => (i.zero, i.size, i.bytes)) = some (some (.agg #[.int .i64 0, .int .i64 0]), 2, 16) := by kernel_rfl
set_option maxHeartbeats 1600000 in
theorem toFormatS_any (v : Value) (zs : List Fmt) (w : World) (h : Rwt w (flt 2 fmE zs) v) (hr : zs.length ≤ 1048576) :
    Calls Tryz.prog 15 #[v] w fun e w' => ∃ v', e = .returned v' ∧ Ofr w' w.heap.size (flt 2 fmE zs) v' ∧ Below w.heap.size w w' := by
  obtain ⟨i0, hi, hz0, hz1, hz2⟩ := info_parts Tryz.infoFormat
  obtain ⟨a, n, cap, rfl, HN, hn, ha⟩ := flt_opnw (m := 2) (enc := fmE) (fun _ => rfl) (by omega) nilFm h
  have HA := Lib.hid ha
  have HL := Lib.hid (fun k hk => fillG_len nilFm zs n k HN.out hk)
  have HST := Lib.hid (fun k hk => fillG_step nilFm zs n k HN.out hk)
  have HAL := Lib.hid (fillG_all nilFm zs n HN.out)
  rw [HN.out] at hr
  clear ha h
  go_enter Tryz.func15, Tryz.ntmps15
  go_wp2_with (refine wpList_make_full _ rfl _ _ 42 rfl w.heap.size 78 i0 (.agg #[.int .i64 0, .int .i64 0]) 2 Tryz.underlying42 hi hz0 hz1 _ _ _ _ n rfl rfl rfl rfl (by rw [hz2]; omega) (by unfold maxLen; omega) (Nat.le_refl _) ?_; intro w1 hown1 hgrow1)
  have HO1 := Lib.hid (show Ofr w1 w.heap.size (flt 2 fmE (fillG nilFm zs n 0)) (.slice (some ⟨w.heap.size, 0, none⟩) n n) from by
    rw [fillG_zero]
    exact made_flat (enc := fmE) (fun _ => rfl) (by omega) nilFm rfl hown1)
  have HB1 := Lib.hid (show Below w.heap.size w w1 from (Below.refl _ _).grown hgrow1 (Nat.le_refl _) (by simp))
  clear hown1 hgrow1
  go_loopw [4] (fun i wr => ∃ k : Nat, k ≤ n ∧ i = .int .i64 k ∧ Hid (Ofr wr w.heap.size (flt 2 fmE (fillG nilFm zs n k)) (.slice (some ⟨w.heap.size, 0, none⟩) n n)) ∧ Hid (Below w.heap.size w wr)) (fun i _ => n - (intOf i).toNat)
  case atStart => exact ⟨0, by omega, rfl, HO1.out, HB1.out⟩
  case round =>
    obtain ⟨k, hk, rfl, HO, HB⟩ := hrel
    by_cases hlt : k < n
    · obtain ⟨b, off, rfl, hbs, hcs⟩ := HA.out (by omega)
      have hltI : (k : Int) < (n : Int) := by omega
      have d0 := (HB.out.cell (p := ⟨b, off + k * 2 + 0, none⟩) hbs).trans (hcs k hlt 0 _ rfl)
      have d1 := (HB.out.cell (p := ⟨b, off + k * 2 + 1, none⟩) hbs).trans (hcs k hlt 1 _ rfl)
      simp only [Nat.add_zero] at d0
      have HS := Lib.hid (fun w => toFormat_any (zs[k]?.getD nilFm) w)
      have HSK := Lib.hid (HST.out k hlt)
      have HLK := Lib.hid (HL.out k (by omega))
      clear hcs HO1 HB1
      unfold fmV at HS
      generalize zs[k]?.getD nilFm = z at *
      go_wp2_with fail
      refine (HS.out _).mono ?_
      rintro e w2 ⟨rfl, b2⟩
      obtain ⟨g, o, cp, ev, hg1, hg2, hcc, hfz, hof⟩ := flt_put (enc := fmE) (m := 2) (fun _ => rfl) (by omega) (HO.out.below b2) (Nat.le_trans HB.out.size b2.size) (k := k) (by rw [HLK.out]; exact hlt) z
      simp only [Value.slice.injEq, Option.some.injEq, Addr.mk.injEq, and_true] at ev
      obtain ⟨⟨rfl, rfl⟩, -, rfl⟩ := ev
      rw [HSK.out] at hof
      simp only [Nat.zero_add] at hcc hof
      obtain ⟨q0, c0⟩ := hcc 0 (by omega)
      obtain ⟨q1, c1⟩ := hcc 1 (by omega)
      simp only [Nat.add_zero] at c0
      have f0 := hfz (k * 2 + 0)
      have f1 := hfz (k * 2 + 1)
      simp only [Nat.add_zero] at f0
      have HB2 := Lib.hid (setRow_below (Nat.le_refl w.heap.size) (fmE z) w2 (k * 2) (HB.out.trans (b2.mono HB.out.size)))
      simp only [setRow, fmE] at hof HB2
      have HOF := Lib.hid hof
      clear hof b2 hfz hcc
      go_wp2
      go_roundw
      case rel => exact ⟨k + 1, by omega, by go_num, HOF.out, HB2.out⟩
      case measure => simp [intOf]; omega
    · obtain rfl : k = n := by omega
      have hof := HO.out
      rw [HAL.out] at hof
      have HOF := Lib.hid hof
      go_wp2
      go_ret
      exact ⟨_, rfl, HOF.out, HB.out⟩
set_option maxHeartbeats 1600000 in
theorem eqFormatS_same (va vb : Value) (zs : List Fmt) (w : World) (ha : Rdt w (flt 2 fmE zs) va) (hb : Rdt w (flt 2 fmE zs) vb) :
    Calls Tryz.prog 18 #[va, vb] w fun e w' => e = .returned (.bool true) ∧ Below w.heap.size w w' := by
  obtain ⟨a, n, ca, rfl, HN, _, hn, HA⟩ := flt_opn (m := 2) (enc := fmE) (fun _ => rfl) (by omega) nilFm ha
  obtain ⟨b, n2, cb, rfl, HM, _, _, HBB⟩ := flt_opn (m := 2) (enc := fmE) (fun _ => rfl) (by omega) nilFm hb
  obtain rfl : n = n2 := HN.out.symm.trans HM.out
  have HA := Lib.hid HA
  have HBB := Lib.hid HBB
  clear HM ha hb
  have hne : ((n : Int) != (n : Int)) = false := by simp
  go_enter Tryz.func18, Tryz.ntmps18
  go_wp2
  go_loopw [5] (fun i wr => ∃ k : Nat, k ≤ n ∧ i = .int .i64 k ∧ Hid (Below w.heap.size w wr)) (fun i _ => n - (intOf i).toNat)
  case atStart => exact ⟨0, by omega, rfl, Below.refl _ _⟩
  case round =>
    obtain ⟨k, hk, rfl, HB⟩ := hrel
    by_cases hlt : k < n
    · obtain ⟨g1, o1, rfl, hg1, hc1⟩ := HA.out (by omega)
      obtain ⟨g2, o2, rfl, hg2, hc2⟩ := HBB.out (by omega)
      have hltI : (k : Int) < (n : Int) := by omega
      have x0 := rg ((HB.out.cell (p := ⟨g1, o1 + k * 2 + 0, none⟩) hg1).trans (hc1 k hlt 0 _ rfl))
      have y0 := rg ((HB.out.cell (p := ⟨g2, o2 + k * 2 + 0, none⟩) hg2).trans (hc2 k hlt 0 _ rfl))
      have x1 := rg ((HB.out.cell (p := ⟨g1, o1 + k * 2 + 1, none⟩) hg1).trans (hc1 k hlt 1 _ rfl))
      have y1 := rg ((HB.out.cell (p := ⟨g2, o2 + k * 2 + 1, none⟩) hg2).trans (hc2 k hlt 1 _ rfl))
      simp only [Nat.add_zero] at x0 y0
      have HQ := Lib.hid (fun w => eqFormat_same (zs[k]?.getD nilFm) w)
      unfold fmV at HQ
      generalize zs[k]?.getD nilFm = z at *
      clear hc1 hc2
      go_wp2
      refine wp_region_quiet_below (by kernel_rfl) (by kernel_rfl) ?_
      repeat (go_big_quiet_step (first | (go_at_call 44; exact Calls.regrown_of (HQ.out _))))
      refine wpQuiet_nil ?_
      rintro _ ⟨⟨dq, osq⟩, rfl⟩
      go_wp2
      go_roundw
      case rel => exact ⟨k + 1, by omega, by go_num, HB.out.trans ((below_regrown _ dq osq).mono HB.out.size)⟩
      case measure => simp [intOf]; omega
    · obtain rfl : k = n := by omega
      go_wp2
      go_ret
      exact ⟨rfl, HB.out⟩
set_option maxHeartbeats 3200000 in
theorem markFormatS_any (v : Value) (zs : List Fmt) (fp : List Nat) (q : Int) (w : World) (h : Odt w (flt 2 fmE zs) v fp) (hn : fp.Nodup) (hb : zs.length ≤ 4194304) (hq : 0 ≤ q) (hq2 : q ≤ 1125899906842624) :
    Calls Tryz.prog 20 #[v, .int .i64 q] w fun e w' => e = .returned (.int .i64 (q + 2 * (zs.length : Int))) ∧ Odt w' (flt 2 fmE ((List.range zs.length).map fun i : Nat => mkFmt (q + 2 * (i : Int)))) v fp ∧ Wr w w' fp := by
  obtain ⟨a, n, cap, rfl, HN, _, hnl, -⟩ := flt_opn (m := 2) (enc := fmE) (fun _ => rfl) (by omega) nilFm h.rd
  obtain ⟨f, hf⟩ : ∃ f : Nat → Fmt, f = fun i : Nat => mkFmt (q + 2 * (i : Int)) := ⟨_, rfl⟩
  have HFE := Lib.hid (fun i => congrFun hf i)
  rw [← hf, HN.out]
  rw [HN.out] at hb
  clear hf
  have HST := Lib.hid (fun k (h : k < n) => mkG_step f zs k (by rw [HN.out]; exact h))
  have HLN := Lib.hid (fun k (h : k ≤ n) => (mkG_len f zs k (by rw [HN.out]; exact h)).trans HN.out)
  have HALL := Lib.hid (mkG_all f zs n HN.out)
  have HH := Lib.hid h
  clear h
  go_enter Tryz.func20, Tryz.ntmps20
  go_wp2
  go_loopw [1, 5] (fun x i wr => ∃ k : Nat, k ≤ n ∧ i = .int .i64 k ∧ x = .int .i64 (q + 2 * (k : Int)) ∧ Hid (Odt wr (flt 2 fmE (mkG f zs k)) (.slice a n cap) fp) ∧ Hid (Wr w wr fp)) (fun _ i _ => n - (intOf i).toNat)
  case atStart => exact ⟨0, by omega, rfl, int_eq (by simp), by rw [mkG_zero]; exact HH.out, Wr.refl _ _⟩
  case round =>
    obtain ⟨k, hk, rfl, rfl, HO, HW⟩ := hrel
    by_cases hlt : k < n
    · have hltI : (k : Int) < (n : Int) := by omega
      obtain ⟨g, off, rfl, hcc, hfz, hset⟩ := flt_mark (enc := fmE) (m := 2) (fun _ => rfl) (by omega) HO.out hn (k := k) (by rw [HLN.out k (by omega)]; exact hlt)
      obtain ⟨s1, s2⟩ := hset (f k)
      rw [HST.out k hlt] at s1
      have hfk := HFE.out k
      obtain ⟨p, hp⟩ : ∃ p : Int, p = q + 2 * (k : Int) := ⟨_, rfl⟩
      have hp1 : 0 ≤ p := by omega
      have hp2 : p ≤ 1125899940397056 := by omega
      rw [← hp] at hfk ⊢
      have HP := Lib.hid hp
      clear hp
      rw [hfk] at s1 s2
      simp only [setRow, fmE, mkFmt, Nat.add_assoc (off + k * 2), Nat.reduceAdd] at s1 s2
      have HS1 := Lib.hid s1
      have HS2 := Lib.hid (HW.out.trans s2)
      obtain ⟨q0, c0⟩ := hcc 0 (by omega)
      obtain ⟨q1, c1⟩ := hcc 1 (by omega)
      have f0 := hfz (off + k * 2 + 0)
      have f1 := hfz (off + k * 2 + 1)
      simp only [Nat.add_zero] at c0 f0
      clear s1 s2 hset hcc hfz hfk
      go_wp2
      go_roundw
      case rel => exact ⟨k + 1, by omega, by go_num, int_eq (by rw [HP.out]; omega), HS1.out, HS2.out⟩
      case measure => simp [intOf]; omega
    · obtain rfl : k = n := by omega
      have ho := HO.out
      rw [HALL.out] at ho
      have HOF := Lib.hid ho
      clear HO ho
      go_wp2
      go_ret
      exact ⟨rfl, HOF.out, HW.out⟩
set_option maxHeartbeats 3200000 in
theorem heldFormatS_yes (v : Value) (n : Nat) (q : Int) (w : World) (h : Rdt w (flt 2 fmE ((List.range n).map fun i : Nat => mkFmt (q + 2 * (i : Int)))) v) (hb : n ≤ 4194304) (hq : 0 ≤ q) (hq2 : q ≤ 1125899906842624) :
    Calls Tryz.prog 49 #[v, .int .i64 q] w fun e w' => e = .returned (.int .i64 (q + 2 * (n : Int))) ∧ Below w.heap.size w w' := by
  obtain ⟨a, n2, cap, rfl, HN, _, hnl, ha⟩ := flt_opn (m := 2) (enc := fmE) (fun _ => rfl) (by omega) nilFm h
  obtain rfl : n = n2 := by have := HN.out; simpa using this
  have HG := Lib.hid (fun k hk => rangeMap_get (fun i : Nat => mkFmt (q + 2 * (i : Int))) nilFm n k hk)
  have HA := Lib.hid ha
  clear ha h HN
  go_enter Tryz.func49, Tryz.ntmps49
  go_wp2
  go_loopw [1, 5] (fun x i wr => ∃ k : Nat, k ≤ n ∧ i = .int .i64 k ∧ x = .int .i64 (q + 2 * (k : Int)) ∧ Hid (Below w.heap.size w wr)) (fun _ i _ => n - (intOf i).toNat)
  case atStart => exact ⟨0, by omega, rfl, int_eq (by simp), Below.refl _ _⟩
  case round =>
    obtain ⟨k, hk, rfl, rfl, HB⟩ := hrel
    by_cases hlt : k < n
    · have hltI : (k : Int) < (n : Int) := by omega
      obtain ⟨g, off, rfl, hg, hcs⟩ := HA.out (by omega)
      have hc := fun r u hu => (HB.out.cell (p := ⟨g, off + k * 2 + r, none⟩) hg).trans (hcs k hlt r u hu)
      rw [HG.out k hlt] at hc
      obtain ⟨p, hp⟩ : ∃ p : Int, p = q + 2 * (k : Int) := ⟨_, rfl⟩
      have hp1 : 0 ≤ p := by omega
      have hp2 : p ≤ 1125899940397056 := by omega
      rw [← hp] at hc ⊢
      have HP := Lib.hid hp
      clear hp
      have d0 := hc 0 _ rfl
      have d1 := hc 1 _ rfl
      simp only [Nat.add_zero, mkFmt] at d0 d1
      have n0 : (p != p) = false := by simp
      have n1 : ((p + 1 : Int) != p + 1) = false := by simp
      clear hc hcs
      go_wp2
      go_roundw
      case rel => exact ⟨k + 1, by omega, by go_num, int_eq (by rw [HP.out]; omega), HB.out⟩
      case measure => simp [intOf]; omega
    · obtain rfl : k = n := by omega
      go_wp2
      go_ret
      exact ⟨rfl, HB.out⟩
theorem szFormatS_Q (v : Value) (zs : List Fmt) (l : Int) (w : World) (h : Rwt w (flt 2 fmE zs) v) (h0 : 0 ≤ l) (h1 : l ≤ 1048576) : Calls Tryz.prog 12 #[v, .int .i64 l] w (SzQ zs.length l w) := by
  refine (szFormatS_any v zs l w h h0 h1).mono ?_
  rintro e w' ⟨rfl, rfl⟩
  by_cases hx : l < (zs.length : Int)
  · rw [if_pos hx]; exact ⟨_, rfl, Below.refl _ _, .inl ⟨rfl, hx⟩⟩
  · rw [if_neg hx]; exact ⟨_, rfl, Below.refl _ _, .inr ⟨rfl, by omega⟩⟩
theorem toFormatS_P (v : Value) (zs : List Fmt) (w : World) (h : Rwt w (flt 2 fmE zs) v) (hr : zs.length ≤ 1048576) : Calls Tryz.prog 15 #[v] w (ToP (fun w' v' fp => Odt w' (flt 2 fmE zs) v' fp) w) := by
  refine (toFormatS_any v zs w h hr).mono ?_
  rintro e w' ⟨v', rfl, ⟨fp, h1, h2, h3⟩, hb⟩
  exact ⟨v', fp, rfl, h1, h2, h3, hb⟩
theorem markFormatS_N (v : Value) (zs : List Fmt) (fp : List Nat) (q : Nat) (w : World) (h : Odt w (flt 2 fmE zs) v fp) (hn : fp.Nodup) (hb : zs.length ≤ 1048576) (hq : 0 < q) (hq2 : q ≤ 1099511627776) :
    Calls Tryz.prog 20 #[v, .int .i64 (q : Int)] w fun e w' => e = .returned (.int .i64 ((q + 2 * zs.length : Nat) : Int)) ∧ Odt w' (flt 2 fmE ((List.range zs.length).map fun i : Nat => mkFmt ((q : Int) + 2 * (i : Int)))) v fp ∧ Wr w w' fp := by
  refine (markFormatS_any v zs fp q w h hn (by omega) (by omega) (by omega)).mono ?_
  rintro e w' ⟨rfl, h1, h2⟩
  exact ⟨ret_int (by omega), h1, h2⟩
theorem heldFormatS_N (v : Value) (n q : Nat) (w : World) (h : Rdt w (flt 2 fmE ((List.range n).map fun i : Nat => mkFmt ((q : Int) + 2 * (i : Int)))) v) (hb : n ≤ 1048576) (hq : 0 < q) (hq2 : q ≤ 1099511627776) :
    Calls Tryz.prog 49 #[v, .int .i64 (q : Int)] w fun e w' => e = .returned (.int .i64 ((q + 2 * n : Nat) : Int)) ∧ Below w.heap.size w w' := by
  refine (heldFormatS_yes v n q w h (by omega) (by omega) (by omega)).mono ?_
  rintro e w' ⟨rfl, hb⟩
  exact ⟨ret_int (by omega), hb⟩
end Go.Proofs.YtonpcgdnfclidaaGreatDoor
namespace Go.Proofs.YtonpcgdnfclidaaGreatDoor
open Go.RowKit

abbrev L := List UInt8
/-- A text before, and behind, the first of a byte. -/
def bef (b : UInt8) : L → L
  | [] => []
  | a :: l => if a = b then [] else a :: bef b l
def aft (b : UInt8) : L → L
  | [] => []
  | a :: l => if a = b then l else aft b l
def hasB (b : UInt8) (l : L) : Bool := l.any fun a => decide (a = b)
theorem hasB_cons (b a : UInt8) (l : L) : hasB b (a :: l) = (decide (a = b) || hasB b l) := rfl
theorem split_at {b : UInt8} {l : L} (h : hasB b l = true) : l = bef b l ++ b :: aft b l := by
  induction l with
  | nil => simp [hasB] at h
  | cons a l ih =>
    by_cases e : a = b
    · subst e; simp [bef, aft]
    · rw [hasB_cons] at h
      simp only [e, decide_false, Bool.false_or] at h
      simp only [bef, aft, e, if_false, List.cons_append]
      rw [← ih h]
theorem bef_none {b : UInt8} {l : L} (h : hasB b l = false) : bef b l = l ∧ aft b l = [] := by
  induction l with
  | nil => exact ⟨rfl, rfl⟩
  | cons a l ih =>
    rw [hasB_cons] at h
    simp only [Bool.or_eq_false_iff, decide_eq_false_iff_not] at h
    simp only [bef, aft, h.1, if_false]
    exact ⟨by rw [(ih h.2).1], (ih h.2).2⟩
theorem bef_app {b : UInt8} {l r : L} (h : hasB b l = false) : bef b (l ++ b :: r) = l ∧ aft b (l ++ b :: r) = r ∧ hasB b (l ++ b :: r) = true := by
  induction l with
  | nil => simp [bef, aft, hasB]
  | cons a l ih =>
    rw [hasB_cons] at h
    simp only [Bool.or_eq_false_iff, decide_eq_false_iff_not] at h
    simp only [List.cons_append, bef, aft, h.1, if_false, hasB_cons, decide_false, Bool.false_or]
    exact ⟨by rw [(ih h.2).1], (ih h.2).2.1, (ih h.2).2.2⟩
theorem bef_len (b : UInt8) (l : L) : (bef b l).length ≤ l.length := by
  induction l with
  | nil => simp [bef]
  | cons a l ih => by_cases e : a = b <;> simp [bef, e]; exact ih
theorem aft_drop (b : UInt8) (l : L) : aft b l = l.drop ((bef b l).length + 1) := by
  induction l with
  | nil => rfl
  | cons a l ih =>
    by_cases e : a = b
    · simp [bef, aft, e]
    · simp only [bef, aft, e, if_false, List.length_cons]
      rw [ih]; rfl
theorem bef_take (b : UInt8) (l : L) : bef b l = l.take (bef b l).length := by
  induction l with
  | nil => rfl
  | cons a l ih =>
    by_cases e : a = b
    · simp [bef, e]
    · simp only [bef, e, if_false, List.length_cons, List.take_succ_cons]
      rw [← ih]
theorem stands_hasB (l : L) (b : UInt8) : standsL l b = hasB b l := by
  unfold standsL hasB
  congr 1
  funext a
  rw [Bool.eq_iff_iff]
  simp only [beq_iff_eq, decide_eq_true_eq]
  exact ⟨fun h => UInt8.toNat_inj.1 (by omega), fun h => by rw [h]⟩
/-- strings.Cut at one byte. -/
theorem index_one (l : L) (b : UInt8) : Go.Lib.index l [b] = if hasB b l then ((bef b l).length : Int) else -1 := by
  induction l with
  | nil => rfl
  | cons a l ih =>
    unfold Go.Lib.index
    by_cases e : a = b
    · subst e; simp [bef, hasB, List.isPrefixOf]
    · have hp : ([b] : L).isPrefixOf (a :: l) = false := by simp [List.isPrefixOf]; exact fun h => e h.symm
      rw [hp, ih, hasB_cons]
      simp only [e, decide_false, Bool.false_or, Bool.false_eq_true, if_false, bef]
      cases hasB b l
      · rfl
      · simp only [if_true, List.length_cons]
        have : ((((bef b l).length : Nat) : Int) == -1) = false := by rw [beq_eq_false_iff_ne]; omega
        rw [this]; simp
theorem cut_one (l : L) (b : UInt8) : Go.Lib.cut l [b] = (bef b l, aft b l, hasB b l) := by
  unfold Go.Lib.cut
  rw [index_one]
  cases h : hasB b l
  · obtain ⟨e1, e2⟩ := bef_none h
    simp [e1, e2]
  · simp only [if_true]
    rw [if_pos (by omega), Int.toNat_natCast, ← bef_take, aft_drop]
    rfl

/-- What a line holds as record k. -/
def pI (k : Nat) (line : L) : Option (L × L) :=
  let rest := aft 32 (bef 35 line)
  if recOk (mk (bef 64 rest)) (mk (aft 64 rest)) = true ∧ lineL k (bef 64 rest) (aft 64 rest) = line ++ [10] then some (bef 64 rest, aft 64 rest) else none
def aheadL (k : Nat) : L := digs k ++ [32]
def pS (k : Nat) (line : L) : Option (L × L) :=
  let text := bef 35 line
  let rest := text.drop (aheadL k).length
  if (aheadL k).length ≤ text.length ∧ text.take (aheadL k).length = aheadL k ∧ hasB 64 rest = true ∧ recOk (mk (bef 64 rest)) (mk (aft 64 rest)) = true ∧ lineL k (bef 64 rest) (aft 64 rest) = line ++ [10] then some (bef 64 rest, aft 64 rest) else none
theorem digs_hasB (n : Nat) {x : UInt8} (hx : x.toNat < 48 ∨ 57 < x.toNat) : hasB x (digs n) = false := by rw [← stands_hasB]; exact digs_stands n hx
theorem line_parts {k : Nat} {c r line : L} (hok : recOk (mk c) (mk r) = true) (h : lineL k c r = line ++ [10]) :
    bef 35 line = bodyL k c r ∧ aft 32 (bodyL k c r) = c ++ 64 :: r ∧ bef 64 (c ++ 64 :: r) = c ∧ aft 64 (c ++ 64 :: r) = r ∧ hasB 64 (c ++ 64 :: r) = true := by
  have h1 := body_hash (k := k) hok
  rw [data_mk, data_mk, stands_hasB] at h1
  obtain ⟨_, _, _, _, _, h6⟩ := recOk_parts hok
  rw [data_mk, stands_hasB] at h6
  have e : line = bodyL k c r ++ 35 :: digs (sumL (bodyL k c r)).toNat := by
    have := List.append_cancel_right h
    rw [← this]; rfl
  obtain ⟨b1, b2, b3⟩ := bef_app (r := r) h6
  refine ⟨by rw [e]; exact (bef_app h1).1, ?_, b1, b2, b3⟩
  exact (bef_app (digs_hasB k (by decide))).2.1
theorem pI_iff {k : Nat} {c r line : L} : pI k line = some (c, r) ↔ recOk (mk c) (mk r) = true ∧ lineL k c r = line ++ [10] := by
  constructor
  · intro h
    unfold pI at h
    simp only at h
    split at h
    · rename_i hh
      simp only [Option.some.injEq, Prod.mk.injEq] at h
      obtain ⟨rfl, rfl⟩ := h
      exact hh
    · simp at h
  · rintro ⟨h1, h2⟩
    obtain ⟨e1, e2, e3, e4, _⟩ := line_parts h1 h2
    unfold pI
    simp only [e1, e2, e3, e4]
    rw [if_pos ⟨h1, h2⟩]
theorem pS_iff {k : Nat} {c r line : L} : pS k line = some (c, r) ↔ recOk (mk c) (mk r) = true ∧ lineL k c r = line ++ [10] := by
  constructor
  · intro h
    unfold pS at h
    simp only at h
    split at h
    · rename_i hh
      simp only [Option.some.injEq, Prod.mk.injEq] at h
      obtain ⟨rfl, rfl⟩ := h
      exact ⟨hh.2.2.2.1, hh.2.2.2.2⟩
    · simp at h
  · rintro ⟨h1, h2⟩
    obtain ⟨e1, e2, e3, e4, e5⟩ := line_parts h1 h2
    have e6 : bodyL k c r = aheadL k ++ (c ++ 64 :: r) := by simp [bodyL, aheadL]
    unfold pS
    simp only [e1]
    rw [e6, List.drop_left, List.take_left]
    simp only [e3, e4, e5]
    rw [if_pos ⟨by simp, trivial, trivial, h1, h2⟩]
theorem pS_eq (k : Nat) (line : L) : pS k line = pI k line := by
  cases h : pI k line with
  | some q =>
    obtain ⟨c, r⟩ := q
    exact pS_iff.2 (pI_iff.1 h)
  | none =>
    cases h2 : pS k line with
    | none => rfl
    | some q =>
      obtain ⟨c, r⟩ := q
      rw [pI_iff.2 (pS_iff.1 h2)] at h; simp at h

/-- The record at the start of a text, as record k. -/
def rdR (s : L) (k : Nat) : Option (L × L) := if hasB 10 s = true ∧ k < 60 then pI k (bef 10 s) else none
/-- Records read on. -/
def goR (s : L) : Nat → List (L × L) → Nat → List (L × L) × Nat
  | 0, o, n => (o, n)
  | f + 1, o, n => match rdR (s.drop n) o.length with
    | some q => goR s f (o ++ [q]) (n + (bef 10 (s.drop n)).length + 1)
    | none => (o, n)
def finR (s : L) : List (L × L) × Nat := goR s 61 [] 0
theorem goR_none {s : L} {f n : Nat} {o : List (L × L)} (h : rdR (s.drop n) o.length = none) : goR s f o n = (o, n) := by
  cases f with
  | zero => rfl
  | succ f => rw [goR, h]
theorem goR_some {s : L} {n : Nat} {o : List (L × L)} {q : L × L} (hl : o.length < 60) (h : rdR (s.drop n) o.length = some q) :
    goR s (61 - o.length) o n = goR s (61 - (o ++ [q]).length) (o ++ [q]) (n + (bef 10 (s.drop n)).length + 1) := by
  rw [List.length_append, show 61 - o.length = (61 - (o.length + [q].length)) + 1 by simp; omega, goR, h]
theorem rdR_has {s : L} {k : Nat} {q : L × L} (h : rdR s k = some q) : hasB 10 s = true ∧ k < 60 := by
  unfold rdR at h
  split at h
  · assumption
  · simp at h
theorem has_len {b : UInt8} {s : L} (h : hasB b s = true) : (bef b s).length + 1 ≤ s.length := by
  have := congrArg List.length (split_at h)
  simp at this; omega
end Go.Proofs.YtonpcgdnfclidaaGreatDoor
