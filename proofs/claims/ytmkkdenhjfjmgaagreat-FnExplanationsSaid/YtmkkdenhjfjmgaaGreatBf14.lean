/- Joined: XMno XNal XCerP XHld. -/
import Derived.Test.YtmkkdenhjfjmgaaGreatBf13
import Derived.Test.YtmkkdenhjfjmgaaGreatBf04
import Derived.Test.YtmkkdenhjfjmgaaGreatBf09
import Derived.Test.YtmkkdenhjfjmgaaGreatBf06
import Derived.Test.YtmkkdenhjfjmgaaGreatBf01
import Derived.Deep.RegionHeld3
namespace Go.Proofs.YtmkkdenhjfjmgaaGreat
open Go.RowKit Go.Sort
set_option maxRecDepth 100000

theorem visM {base bo bp bd : Nat} {a1 a2 a3 vd : Value} {u : World} {p : Pln} {d : List Int} (hbu : base = u.heap.size) (hp : PlnR u (.agg #[a1, a2, a3]) p) (hd : Rd u vd d) (hok : dwOk p d = true) (hfb : ∀ i : Nat, (lgA p i).fb.length ≤ 1100000) :
    VisU (fun s => s.length ≤ 40) (JM base bo bp bd a1 a2 a3 vd) (stM p d) 93 #[ptr bp, ptr bd, ptr bo] u p d where
  lt := fun s T w g h hg => by obtain ⟨_, _, _, _, _, h⟩ := h; exact h.lt hg
  beh := fun s T w w' h hb => by obtain ⟨_, _, _, _, _, h⟩ := h; exact ⟨_, _, _, _, _, h.below hb⟩
  live := fun s ys hs he => by
    unfold stM at he ⊢
    split at he
    · rename_i e
      rw [if_pos e]
      have he : ¬ 40 < s.length + 1 := by simpa using he
      simp; omega
    · rename_i e
      rw [if_neg e]; exact hs
  call := fun s T w0 w vl ys hs hJ hb hu0 _ ho hy hyl _ =>
    minExp1_any hp hd hok hfb s T w0 w vl ys hs hJ hb (hu0.trans (hb.mono hu0.size)) (by rw [hbu]; exact Nat.le_trans hu0.size hb.size) ho hy hyl
def MnP (p : Pln) (d : List Int) (w : World) (e : Ending) (w' : World) : Prop := ∃ v, e = .returned (.tuple #[v, .bool (minOk p d)]) ∧ Ofr w' w.heap.size (ssD (minR p d)) v ∧ Below w.heap.size w w'
theorem minOk_dw {p : Pln} {d : List Int} (h : dwOk p d = false) : minOk p d = false := by unfold minOk; rw [h]; rfl
theorem minR_no {p : Pln} {d : List Int} (h : minOk p d = false) : minR p d = [] := by unfold minR; rw [h]; rfl
set_option maxHeartbeats 3200000 in
theorem implMin_any (v vd : Value) (p : Pln) (d : List Int) (w : World) (hp : PlnR w v p) (hd : Rd w vd d) (hfb : ∀ i : Nat, (lgA p i).fb.length ≤ 1100000) :
    Calls Tryz.prog 44 #[v, vd] w (MnP p d w) := by
  obtain ⟨a1, m1, c1, a2, m2, c2, a3, m3, c3, hv⟩ : ∃ a1 m1 c1 a2 m2 c2 a3 m3 c3, v = .agg #[.slice a1 m1 c1, .slice a2 m2 c2, .slice a3 m3 c3] := by
    obtain ⟨u1, u2, u3, e, r⟩ := id hp
    obtain ⟨a1, m1, c1, a2, m2, c2, a3, m3, c3, e1, e2, e3⟩ := PlB.slices (show PlnR w (.agg #[u1, u2, u3]) p from by rw [← e]; exact hp)
    exact ⟨a1, m1, c1, a2, m2, c2, a3, m3, c3, by rw [e, e1, e2, e3]⟩
  subst hv
  obtain ⟨ad, cd, nd, -, rfl, -, -, -⟩ := hd.opn
  have HGS := Lib.hid (fun w' (hb : Below w.heap.size w w') => isDown_any _ _ p d w' (hp.behind hb) (hd.belowAll hb) hfb)
  have HFN := Lib.hid (show IsFn 93 from isFn_of rfl rfl rfl)
  have HEX := Lib.hid (fun (hok : dwOk p d = true) bo bp bd (T : Nat → Prop) w' hJ (hb : Below w.heap.size w w') htb => explanations_any (visM (base := w.heap.size) (bo := bo) (bp := bp) (bd := bd) rfl hp hd hok hfb) HFN.out hok hfb hp hd [] T w' (by simp) hJ hb htb)
  have HRO := Lib.hid (fun h => @minOk_run p d h)
  have HRR := Lib.hid (fun h => @minR_run p d h)
  have HRN := Lib.hid (@minR_no p d)
  have HDN := Lib.hid (@minOk_dw p d)
  have b1 := (Below.refl w.heap.size w).alloc (Nat.le_refl _) (.cells #[.slice a1 m1 c1, .slice a2 m2 c2, .slice a3 m3 c3] 38)
  have b2 := b1.alloc b1.size (.cells #[.slice ad nd cd] 29)
  have k1 := heap_alloc_new w (.cells #[.slice a1 m1 c1, .slice a2 m2 c2, .slice a3 m3 c3] 38)
  have z1 : (w.alloc (.cells #[.slice a1 m1 c1, .slice a2 m2 c2, .slice a3 m3 c3] 38)).heap.size = w.heap.size + 1 := by simp
  have k2 := heap_alloc_new (w.alloc (.cells #[.slice a1 m1 c1, .slice a2 m2 c2, .slice a3 m3 c3] 38)) (.cells #[.slice ad nd cd] 29)
  rw [z1] at k2
  have k1' := (heap_alloc_old _ (.cells #[.slice ad nd cd] 29) (Array.getElem?_eq_some_iff.1 k1).1).trans k1
  have HK1 := Lib.hid k1'
  have HK2 := Lib.hid k2
  have HB2 := Lib.hid b2
  have e0 := blkc k1' (j := 0) rfl
  have e1 := blkc k1' (j := 1) rfl
  have e2 := blkc k1' (j := 2) rfl
  have e3 := blkc k2 (j := 0) rfl
  unfold MnP
  generalize minR p d = R at *
  generalize minOk p d = ok at *
  clear b1 b2 k1 k2 z1 k1' hp hd hfb
  go_enter Tryz.func44, Tryz.ntmps44
  go_wp2_with fail
  generalize (w.alloc (.cells #[.slice a1 m1 c1, .slice a2 m2 c2, .slice a3 m3 c3] 38)).alloc (.cells #[.slice ad nd cd] 29) = w2 at *
  have HV1 := Lib.hid (HGS.out w2 HB2.out)
  cases hok : dwOk p d
  · have HE := Lib.hid (HDN.out hok)
    have HE2 := Lib.hid (HRN.out HE.out)
    rw [hok] at HV1
    clear HGS HEX HRO HRR hok
    refine HV1.out.mono ?_
    rintro e w3 ⟨rfl, b3⟩
    have HB3 := Lib.hid (HB2.out.trans (b3.mono HB2.out.size))
    clear b3
    go_wp2
    go_ret2
    exact ⟨_, by rw [HE.out]; rfl, by rw [HE2.out]; exact Ofr.nil _ _ _, HB3.out⟩
  have HX := Lib.hid (HEX.out hok)
  have HRO1 := Lib.hid (HRO.out hok)
  rw [hok] at HV1
  clear HGS HEX HRO hok
  refine HV1.out.mono ?_
  rintro e w3 ⟨rfl, b3⟩
  have p1 := kept_o' HK1.out b3
  have p2 := kept_o' HK2.out b3
  have f0 := blkc p1 (j := 0) rfl
  have f1 := blkc p1 (j := 1) rfl
  have f2 := blkc p1 (j := 2) rfl
  have f3 := blkc p2 (j := 0) rfl
  have HB3 := Lib.hid (HB2.out.trans (b3.mono HB2.out.size))
  have hl1 := (Array.getElem?_eq_some_iff.1 p1).1
  have hl2 := (Array.getElem?_eq_some_iff.1 p2).1
  have b4 := (Below.refl w3.heap.size w3).alloc (Nat.le_refl _) (.cells #[] 29)
  have z4 : (w3.alloc (.cells #[] 29)).heap.size = w3.heap.size + 1 := by simp
  have b5 := (Below.refl _ (w3.alloc (.cells #[] 29))).alloc (Nat.le_refl _) (.cells #[.slice (some ⟨w3.heap.size, 0, none⟩) 0 0] 63)
  have k5 := heap_alloc_new (w3.alloc (.cells #[] 29)) (.cells #[.slice (some ⟨w3.heap.size, 0, none⟩) 0 0] 63)
  rw [z4] at k5
  have HJ := Lib.hid (show JM w.heap.size (w3.heap.size + 1) w.heap.size (w.heap.size + 1) (.slice a1 m1 c1) (.slice a2 m2 c2) (.slice a3 m3 c3) (.slice ad nd cd) [] (fun q => q = w3.heap.size + 1 ∨ q = w3.heap.size) ((w3.alloc (.cells #[] 29)).alloc (.cells #[.slice (some ⟨w3.heap.size, 0, none⟩) 0 0] 63)) from
    ⟨w3.heap.size, 0, 0, [], [], fun q => Iff.rfl, k5, (GrX.start 29 HB3.out.size).below b5, by omega, rfl, kept_o' (kept_o' p1 b4) b5, kept_o' (kept_o' p2 b4) b5, (fun h => by omega), (fun h => by omega)⟩)
  have HB5 := Lib.hid (HB3.out.trans ((b4.trans (b5.mono b4.size)).mono HB3.out.size))
  have HSZ := Lib.hid HB3.out.size
  clear b3 b4 b5 k5 z4 p1 p2 e0 e1 e2 e3
  go_wp2_with fail
  generalize (w3.alloc (.cells #[] 29)).alloc (.cells #[.slice (some ⟨w3.heap.size, 0, none⟩) 0 0] 63) = w5 at *
  refine (HX.out (w3.heap.size + 1) w.heap.size (w.heap.size + 1) _ w5 HJ.out HB5.out (fun g hg => by
    have hg : g = w3.heap.size + 1 ∨ g = w3.heap.size := hg
    have := HSZ.out
    omega)).mono ?_
  rintro e w6 ⟨rfl, T6, h1, h2⟩
  generalize hs : (runV (stM p d) (exA p d) []).1 = s6 at *
  obtain ⟨g, m, cap, us, fs, h1⟩ := h1
  have HB6 := Lib.hid (h2.below HB5.out HB5.out.size (fun g hg => by
    have hg : g = w3.heap.size + 1 ∨ g = w3.heap.size := hg
    have := HSZ.out
    omega))
  have y0 := blkc h1.ho (j := 0) rfl
  have hml := h1.ml
  have HG := Lib.hid (h1.hg.grw (by have := HSZ.out; omega))
  clear h1 h2 f0 f1 f2 f3
  have hm41 : m ≤ 41 := by
    rw [← hml, ← hs]
    exact runM_len (by simp)
  by_cases h40 : 40 < m
  · have hI : (40 : Int) < (m : Int) := by omega
    have HE := Lib.hid (show ok = false by rw [HRO1.out]; exact decide_eq_false (by omega))
    have HE2 := Lib.hid (HRN.out HE.out)
    clear h40 hs hml
    go_wp2
    go_ret2
    exact ⟨_, by rw [HE.out]; rfl, by rw [HE2.out]; exact Ofr.nil _ _ _, HB6.out⟩
  · have hI : ¬ (40 : Int) < (m : Int) := by omega
    have hIb : decide ((40 : Int) < (m : Int)) = false := decide_eq_false hI
    have HE := Lib.hid (show ok = true by rw [HRO1.out]; exact decide_eq_true (by omega))
    have HE2 := Lib.hid (show R = s6 from (HRR.out HE.out).symm)
    clear h40 hs hml
    go_wp2
    go_ret2
    exact ⟨_, by rw [HE.out]; rfl, by rw [HE2.out]; exact HG.out.ofr, HB6.out⟩
end Go.Proofs.YtmkkdenhjfjmgaaGreat
namespace Go.Proofs.YtmkkdenhjfjmgaaGreat
open Go.RowKit Go.Sort
set_option maxRecDepth 100000

theorem GrX.keptM {w w' : World} {base lo size n : Nat} {e : TypeId} {v : Value} {ds : List Dt} {us : List Value} {fs : List (List Nat)} {T T' : Nat → Prop} (h : GrX w base lo e size v n ds us fs) (hm : Mv T T' w w') (hT : ∀ q, (v.ownBlock = some q ∨ q ∈ fs.flatten) → ¬ T q) : GrX w' base lo e size v n ds us fs :=
  h.kept fun q hq => hm.block q (h.lt q hq) (hT q hq)
theorem Mv.grown1 {w w' : World} {v : Value} {g g' : Nat} (h : w.grownBy w' v.ownBlock) (hv : v.ownBlock = some g) (hat : v.ownBlock = some g' ∨ g' = w.heap.size) : Mv (fun q => q = g) (fun q => q = g') w w' :=
  ⟨h.os, h.tape, h.output, h.size, fun q hq hn => h.block q hq (fun e => hn (by rw [hv] at e; exact Option.some.inj e)), fun q hq => by
    have hq : q = g' := hq
    rcases hat with e | e
    · exact .inl (by show q = g; rw [hv] at e; rw [hq]; exact (Option.some.inj e).symm)
    · exact .inr (by rw [hq, e]; exact Nat.le_refl _)⟩
theorem flat_apart {fs : List (List Nat)} (h : fs.flatten.Nodup) {i : Nat} (hi : i < fs.length) : ∀ q ∈ fs[i], q ∉ (fs.take i).flatten := fun q hq hm => by
  obtain ⟨-, h2⟩ := nodup_flatten.1 h
  rw [List.pairwise_iff_getElem] at h2
  obtain ⟨j, hj, hq2⟩ := mem_flat_get hm
  rw [List.length_take] at hj
  rw [List.getElem_take] at hq2
  exact h2 j i (by omega) hi (by omega) q hq2 q hq rfl
theorem minTo_len {p : Pln} {d : List Int} (hd : dwOk p d = true) (k : Nat) : (minTo p d k).length ≤ k * 8388608 := by
  induction k with
  | zero => unfold minTo exTo; simp
  | succ k ih =>
    rw [minTo_succ hd, List.length_append, Nat.succ_mul]
    have h1 : ((exl p d k).filter (needU p d)).length ≤ 8388608 := by
      refine Nat.le_trans (List.length_filter_le _ _) ?_
      unfold exl
      refine Nat.le_trans (List.length_filter_le _ _) (Nat.le_trans chv_len ?_)
      have h2 := susTo_len p d (grps p.n).length
      have h3 := (plnOk_sz (dwOk_parts hd).1).2.2.2
      have h4 : (sps p d).length ≤ 23 := Nat.le_trans h2 h3
      exact Nat.le_trans (Nat.pow_le_pow_right (by omega) (show (sps p d).length - 0 ≤ 23 by omega)) (Nat.le_refl (2 ^ 23))
    omega
theorem minTo_all (p : Pln) (d : List Int) : minTo p d ((sps p d).length + 1) = minA p d := rfl
theorem exl_len {p : Pln} {d x : List Int} {k : Nat} (h : x ∈ exl p d k) : x.length = k := by
  have := (chv_mem (List.mem_filter.1 h).1).1
  simpa using this
theorem take_filter_yes {L : List (List Int)} {f : List Int → Bool} {i : Nat} (hi : i < L.length) (h : f (L[i]?.getD []) = true) : (L.take (i + 1)).filter f = (L.take i).filter f ++ [L[i]?.getD []] := by
  rw [List.take_add_one, List.filter_append, List.getElem?_eq_getElem hi] at *
  simp at h ⊢; exact h
theorem take_filter_no {L : List (List Int)} {f : List Int → Bool} {i : Nat} (hi : i < L.length) (h : f (L[i]?.getD []) = false) : (L.take (i + 1)).filter f = (L.take i).filter f := by
  rw [List.take_add_one, List.filter_append, List.getElem?_eq_getElem hi] at *
  simp at h ⊢; exact h
/-- An element of a row under way. -/
theorem GrX.elem {w : World} {base lo n cap g : Nat} {T : TypeId} {L : List (List Int)} {us : List Value} {fs : List (List Nat)} (h : GrX w base lo T 1 (.slice (some ⟨g, 0, none⟩) n cap) n (L.map inD) us fs) {i : Nat} (hi : i < L.length) : ∃ u f, w.cell? ⟨g, i, none⟩ = some u ∧ Odt w (inD (L[i]?.getD [])) u f ∧ f.Nodup ∧ (∀ q ∈ f, q ∈ fs.flatten) ∧ (∀ q ∈ f, q ∉ (fs.take i).flatten) ∧ (∀ q ∈ f, q ∈ (fs.take (i + 1)).flatten) := by
  have h1 := h.e.ul
  have h2 := h.e.fl
  rw [List.length_map] at h1 h2
  have hu : i < us.length := by omega
  have hf : i < fs.length := by omega
  refine ⟨us[i], fs[i], ?_, h.e.els i _ _ _ (by rw [List.getElem?_map, List.getElem?_eq_getElem hi]; rfl) (List.getElem?_eq_getElem hu) (List.getElem?_eq_getElem hf), (nodup_flatten.1 h.e.nd).1 _ (List.getElem_mem hf), fun q hq => List.mem_flatten.2 ⟨_, List.getElem_mem hf, hq⟩, flat_apart h.e.nd hf, fun q hq => ?_⟩
  · have := h.cells i _ (List.getElem?_eq_getElem hu)
    rwa [show (⟨g, 0, none⟩ : Addr).add i = ⟨g, i, none⟩ by unfold Addr.add; split <;> simp_all] at this
  · rw [List.take_add_one, List.flatten_append, List.mem_append, List.getElem?_eq_getElem hf]
    exact .inr (by simpa using hq)
def AlR (w : World) (L : List (List Int)) (v' : Value) (w' : World) : Prop := ∃ g m cap, v' = .slice (some ⟨g, 0, none⟩) m cap ∧ L.length = m ∧ Ofr w' w.heap.size (ssD L) v' ∧ Below w.heap.size w w'
set_option maxHeartbeats 6400000 in
theorem l25All_any (vh : Value) (p : Pln) (d : List Int) (w : World) (hh : Rd w vh (nats (hmks p))) (hd : dwOk p d = true) :
    Calls Tryz.prog 91 #[vh, .int .i64 (dmk p d)] w fun e w' => ∃ v', e = .returned v' ∧ AlR w (minA p d) v' w' := by
  have hsz := plnOk_sz (dwOk_parts hd).1
  have hb1 := (Below.refl w.heap.size w).alloc (Nat.le_refl _) (.cells #[] 29)
  have HSU := Lib.hid (l25Suspects_any vh p d _ (hh.belowAll hb1) hd)
  obtain ⟨n, HN⟩ : ∃ n, Hid ((sps p d).length = n) := ⟨_, rfl⟩
  have hn23 : n ≤ 23 := by have h1 := HN.out; have h2 := susTo_len p d (grps p.n).length; have h3 := hsz.2.2.2; unfold sps at h1; omega
  have HCH := Lib.hid (fun (k : Nat) (hk : k ≤ n) vs w' base vc (h1 : Rd w' vh (nats (hmks p))) (h2 : Rd w' vs (sps p d)) (h3 : Own w' base vc []) (h4 : base ≤ w'.heap.size) =>
    l25Choose_any (hmks p) (sps p d) (dmk p d) (fun m hm => Nat.lt_of_lt_of_le (hmks_mem p m hm) (Nat.pow_le_pow_right (by omega) hsz.2.1)) (fun i hi => by unfold hmks; rw [List.length_map]; exact sps_bd (fun y hy => hy) i hi) (by rw [HN.out]; exact hn23) k 0 vh vs vc [] base w' h1 h2 h3 h4 (Nat.zero_le _) (by simp; omega) (fun i hi => by cases hi))
  have HUX := Lib.hid (fun c => @uq_exl p d hd c)
  have HHR := Lib.hid (fun w' (hb : Below w.heap.size w w') => hh.belowAll hb)
  have HND := Lib.hid (fun (k : Nat) (hk : k ≤ n) (x : List Int) (hx : x ∈ exl p d k) w' (hb : Below w.heap.size w w') vx (hr : Rd w' vx x) => l25Needed_any vh vx p d x w' (hh.belowAll hb) hr (dwOk_parts hd).1 (fun i hi => by unfold hmks; rw [List.length_map]; exact sps_bd (exl_sus hx) i hi) (by rw [exl_len hx]; omega))
  have HMS := Lib.hid (fun k => @minTo_succ p d hd k)
  have HML := Lib.hid (fun k => minTo_len hd k)
  have HMA := Lib.hid (minTo_all p d)
  have HXL := Lib.hid (fun k => show (exl p d k).length ≤ 8388608 from by
    unfold exl
    exact Nat.le_trans (List.length_filter_le _ _) (Nat.le_trans chv_len (Nat.le_trans (Nat.pow_le_pow_right (by omega) (show (sps p d).length - 0 ≤ 23 by rw [HN.out]; omega)) (Nat.le_refl (2 ^ 23)))))
  rw [HN.out] at HMA
  have HG0 := Lib.hid (GrX.start (w := w) (base := w.heap.size) (lo := w.heap.size) (size := 1) 29 (Nat.le_refl _))
  have HB1 := Lib.hid hb1
  have hz1 : (w.alloc (.cells #[] 29)).heap.size = w.heap.size + 1 := by simp
  have HZ1 := Lib.hid hz1
  obtain ⟨ah, ch, nh, -, rfl, -, -, -⟩ := hh.opn
  generalize minA p d = MA at *
  generalize dmk p d = M at *
  clear hh hd hb1 hsz hz1
  go_enter Tryz.func91, Tryz.ntmps91
  go_wp2_with fail
  generalize w.alloc (.cells #[] 29) = w1 at *
  refine HSU.out.mono ?_
  rintro e w2 ⟨v2, rfl, o2, b2⟩
  have HO2 := Lib.hid (o2.mono HB1.out.size)
  have HQ2 := Lib.hid (show ∀ q, v2.ownBlock = some q → w.heap.size ≠ q from fun q hq e => by have := (o2.lt q hq).1; have := HZ1.out; omega)
  have HG2 := Lib.hid (HG0.out.below b2)
  have HB2 := Lib.hid (HB1.out.trans (b2.mono HB1.out.size))
  obtain ⟨a7, c7, n7, HN7, rfl, -, -, -⟩ := o2.rd.opn
  obtain rfl : n = n7 := by have := HN.out; have := HN7.out; omega
  clear b2 o2 HSU HG0 HB1 HZ1
  go_wp2
  go_loopw [5, 7, 8, 9] (fun s5 i _ _ wr => ∃ (k g m cap : Nat) (us : List Value) (fs : List (List Nat)), k ≤ n + 1 ∧ i = .int .i64 k ∧ s5 = .slice (some ⟨g, 0, none⟩) m cap ∧ Hid ((minTo p d k).length = m) ∧ Hid (GrX wr w.heap.size w.heap.size 29 1 (.slice (some ⟨g, 0, none⟩) m cap) m ((minTo p d k).map inD) us fs) ∧ Hid (Own wr w.heap.size (.slice a7 n c7) (sps p d) ∧ ∀ q, (Value.slice a7 n c7).ownBlock = some q → g ≠ q) ∧ Hid (Below w.heap.size w wr)) (fun _ i _ _ _ => n + 1 - (intOf i).toNat)
  case atStart => exact ⟨0, w.heap.size, 0, 0, [], [], Nat.zero_le _, rfl, rfl, rfl, HG2.out, ⟨HO2.out, HQ2.out⟩, HB2.out⟩
  case round =>
    obtain ⟨k, g, m, cap, us, fs, hk, rfl, rfl, HM, HG, HS, HB⟩ := hrel
    obtain ⟨wo, hwo⟩ : ∃ wo, wo = wr := ⟨_, rfl⟩
    subst hwo
    by_cases hlt : k ≤ n
    · have hltI : (k : Int) ≤ (n : Int) := by omega
      have hb1 := (Below.refl wo.heap.size wo).alloc (Nat.le_refl _) (.cells #[] 3)
      have hcall := HCH.out k hlt (.slice a7 n c7) (wo.alloc (.cells #[] 3)) wo.heap.size (.slice (some ⟨wo.heap.size, 0, none⟩) 0 0) (HHR.out _ (HB.out.trans (hb1.mono HB.out.size))) (HS.out.1.rd.belowAll hb1) (own_none wo 3) hb1.size
      rw [HUX.out k] at hcall
      have HC := Lib.hid hcall
      have HBA := Lib.hid hb1
      have HNDK := Lib.hid (HND.out k hlt)
      have HMSK := Lib.hid (HMS.out k)
      have HLL := Lib.hid (show (minTo p d k).length + (exl p d k).length ≤ 210000000 from by have h1 := HML.out k; have h2 := HXL.out k; omega)
      generalize hXK : exl p d k = L at *
      clear hcall hb1 hlt hXK
      go_wp2_with fail
      generalize wo.alloc (.cells #[] 3) = w3 at *
      refine HC.out.mono ?_
      rintro e w4 ⟨v4, rfl, h4⟩
      obtain ⟨g7, m7, cap7, us7, fs7, rfl, hm7, hG7, b4⟩ := h4
      have hB4 := HBA.out.trans (b4.mono HBA.out.size)
      have HB4 := Lib.hid hB4
      have HG4 := Lib.hid (HG.out.below hB4)
      have HS4 := Lib.hid (HS.out.1.belowAll hB4)
      have HG7 := Lib.hid hG7
      have HM7 := Lib.hid hm7
      have hw3 := HBA.out.size
      have hg7 : w3.heap.size ≤ g7 ∧ g7 < w4.heap.size := hG7.row.lt g7 rfl
      have hg : g < wo.heap.size := HG.out.lt g (.inl rfl)
      have hw4 := hB4.size
      have HT7 := Lib.hid (show ∀ q, ((Value.slice (some ⟨g7, 0, none⟩) m7 cap7).ownBlock = some q ∨ q ∈ fs7.flatten) → ¬ q = g from fun q hq e => by
        rcases hq with hq | hq
        · have : g7 = q := by simpa [Value.ownBlock] using hq
          omega
        · have := hG7.e.lo q hq; omega)
      have HFS := Lib.hid (show ∀ q ∈ fs.flatten, q < wo.heap.size from fun q hq => HG.out.lt q (.inr hq))
      have hwb : w.heap.size ≤ wo.heap.size := HB.out.size
      have hgb : w.heap.size ≤ g := (HG.out.row.lt g rfl).1
      have hm7b : m7 ≤ 210000000 := by have := HLL.out; have := HM7.out; omega
      have HI1 := Lib.hid (show (minTo p d k ++ (L.take 0).filter (needU p d)).length = m from by rw [List.take_zero, List.filter_nil, List.append_nil]; exact HM.out)
      have HI2 := Lib.hid (show GrX w4 w.heap.size w.heap.size 29 1 (.slice (some ⟨g, 0, none⟩) m cap) m ((minTo p d k ++ (L.take 0).filter (needU p d)).map inD) us fs from by rw [List.take_zero, List.filter_nil, List.append_nil]; exact HG4.out)
      have HBW4 := Lib.hid (HB.out.trans (hB4.mono HB.out.size))
      clear hG7 b4 hB4 hm7
      go_wp2
      go_loopw [5, 9] (fun s5 i wx => ∃ (i0 gx mx capx : Nat) (usx : List Value) (fsx : List (List Nat)), i0 ≤ m7 ∧ i = .int .i64 i0 ∧ s5 = .slice (some ⟨gx, 0, none⟩) mx capx ∧ Hid ((minTo p d k ++ (L.take i0).filter (needU p d)).length = mx) ∧ Hid (GrX wx w.heap.size w.heap.size 29 1 (.slice (some ⟨gx, 0, none⟩) mx capx) mx ((minTo p d k ++ (L.take i0).filter (needU p d)).map inD) usx fsx) ∧ Hid (Mv (fun q => q = g) (fun q => q = gx) w4 wx) ∧ Hid (∀ q ∈ fsx.flatten, q ∈ fs.flatten ∨ q ∈ (fs7.take i0).flatten)) (fun _ i _ => m7 - (intOf i).toNat)
      case atStart => exact ⟨0, g, m, cap, us, fs, Nat.zero_le _, rfl, rfl, HI1.out, HI2.out, Mv.refl _ _, fun q hq => .inl hq⟩
      case round =>
        obtain ⟨i0, gx, mx, capx, usx, fsx, hi0, rfl, rfl, HMX, HGX, HMV, HFX⟩ := hrel
        have HBX := Lib.hid (HMV.out.below HBW4.out (Nat.le_trans hwb hw4) (fun q (hq : q = g) => by omega))
        by_cases hli : i0 < m7
        · have hliI : (i0 : Int) < (m7 : Int) := by omega
          have hil : i0 < L.length := by rw [HM7.out]; exact hli
          have hG7x := HG7.out.keptM HMV.out HT7.out
          obtain ⟨u, f, hu, hodt, hfn, hfm, hfa, hfb⟩ := hG7x.elem hil
          have HU := Lib.hid (World.block_lt_of_cell? _ _ hu)
          have HODT := Lib.hid hodt
          have HFN := Lib.hid hfn
          have HFM := Lib.hid hfm
          have HFA := Lib.hid hfa
          have HFB := Lib.hid hfb
          have HF7 := Lib.hid (show ∀ q ∈ f, wo.heap.size ≤ q ∧ q < w4.heap.size from fun q hq => ⟨HG7.out.e.lo q (hfm q hq), HG7.out.lt q (.inr (hfm q hq))⟩)
          have HN1 := Lib.hid (HNDK.out (L[i0]?.getD []) (by rw [List.getElem?_eq_getElem hil]; exact List.getElem_mem hil) wr HBX.out u (Rdt.toRd hodt.rd))
          have HYS := Lib.hid (fun h => @take_filter_yes L (needU p d) i0 hil h)
          have HNS := Lib.hid (fun h => @take_filter_no L (needU p d) i0 hil h)
          have HLB := Lib.hid (show mx ≤ 210000000 from by
            have h1 := HMX.out
            have h2 := List.length_filter_le (needU p d) (L.take i0)
            have h3 := List.length_take_le i0 L
            have h4 := HLL.out
            have h5 := HM7.out
            rw [List.length_append] at h1
            omega)
          obtain ⟨au, cu, nu, -, rfl, -, -, -⟩ := (Rdt.toRd hodt.rd).opn
          clear hodt hfn hfm hfa hfb hG7x hil hli
          generalize hY : L[i0]?.getD [] = ys at *
          clear hY
          have hgx := HGX.out.lt gx (.inl rfl)
          cases hnd : needU p d ys
          · have HE := Lib.hid (HNS.out hnd)
            rw [hnd] at HN1
            clear hnd HNS HYS
            go_wp2_with fail
            refine HN1.out.mono ?_
            rintro e w6 ⟨rfl, b6⟩
            have HGX6 := Lib.hid (HGX.out.below b6)
            have HMV6 := Lib.hid (HMV.out.trans (Mv.of_below b6))
            have HFX6 := Lib.hid (show ∀ q ∈ fsx.flatten, q ∈ fs.flatten ∨ q ∈ (fs7.take (i0 + 1)).flatten from fun q hq => (HFX.out q hq).imp id fun h => by
              rw [List.take_add_one, List.flatten_append, List.mem_append]; exact .inl h)
            clear b6 hu
            have HI3 := Lib.hid (show (minTo p d k ++ (L.take (i0 + 1)).filter (needU p d)).length = mx from by rw [HE.out]; exact HMX.out)
            have HI4 := Lib.hid (show GrX w6 w.heap.size w.heap.size 29 1 (.slice (some ⟨gx, 0, none⟩) mx capx) mx ((minTo p d k ++ (L.take (i0 + 1)).filter (needU p d)).map inD) usx fsx from by rw [HE.out]; exact HGX6.out)
            go_wp2
            go_roundw
            case rel => exact ⟨i0 + 1, gx, mx, capx, usx, fsx, by omega, by go_num, rfl, HI3.out, HI4.out, HMV6.out, HFX6.out⟩
            case measure => simp [intOf]; omega
          · have HE := Lib.hid (HYS.out hnd)
            rw [hnd] at HN1
            clear hnd HNS HYS
            go_wp2_with fail
            refine HN1.out.mono ?_
            rintro e w6 ⟨rfl, b6⟩
            have hu6 := (b6.cell (p := ⟨g7, i0, none⟩) HU.out).trans hu
            have b7 := (Below.refl w6.heap.size w6).alloc (Nat.le_refl _) (.cells #[.slice au nu cu] 29)
            have b67 := b6.trans (b7.mono b6.size)
            have HGX7 := Lib.hid (HGX.out.below b67)
            have HELS := Lib.hid (Els.one (HODT.out.behind b67) HFN.out (fun q hq => Nat.le_trans hwb (HF7.out q hq).1))
            have hz4 := HMV.out.size
            have hz6 := b6.size
            have HAP := Lib.hid (show ∀ q ∈ [f].flatten, q ∉ fsx.flatten ∧ (Value.slice (some ⟨gx, 0, none⟩) mx capx).ownBlock ≠ some q from fun q hq => by
              have hq : q ∈ f := by simpa using hq
              have h1 := HF7.out q hq
              refine ⟨fun hm => ?_, fun e => ?_⟩
              · rcases HFX.out q hm with h | h
                · have := HFS.out q h; omega
                · exact HFA.out q hq h
              · have e : gx = q := by simpa [Value.ownBlock] using e
                rcases HMV.out.old gx rfl with h | h
                · have h : gx = g := h
                  omega
                · omega)
            have HCL := Lib.hid (cell_one_new w6 (.slice au nu cu) 29)
            have HSZ := Lib.hid (show w.heap.size ≤ (w6.alloc (.cells #[.slice au nu cu] 29)).heap.size from Nat.le_trans HBX.out.size b67.size)
            have HMV7 := Lib.hid (HMV.out.trans (Mv.of_below (T := fun q => q = gx) b67))
            clear b6 b7 b67 hu hz4 hz6
            go_wp2_with (at_builtin; go_loud (refine wpList_grx rfl (.tmp 39) (.tmp 44) 63 29 rfl Tryz.underlying63 (.slice none 0 0) 1 24 Tryz.infoRows rfl (by decide) w.heap.size w.heap.size mx (.slice (some ⟨gx, 0, none⟩) mx capx) ((minTo p d k ++ (L.take i0).filter (needU p d)).map inD) [inD ys] usx [.slice au nu cu] fsx [f] rfl (by simp) HGX7.out HSZ.out ⟨w6.heap.size, 0, none⟩ 1 1 rfl rfl HCL.out (by simp [Value.oneCell']) HELS.out HAP.out (by have := HLB.out; unfold maxLen; omega) (by have := HLB.out; omega) ?_); intro g8 cap8 w8 G8 gr8 at8; have HG8 := Lib.hid G8; have HMV8 := Lib.hid (HMV7.out.trans (Mv.grown1 gr8 rfl at8)); clear G8 gr8 at8)
            have HFX8 := Lib.hid (show ∀ q ∈ (fsx ++ [f]).flatten, q ∈ fs.flatten ∨ q ∈ (fs7.take (i0 + 1)).flatten from fun q hq => by
              rw [List.flatten_append, List.mem_append] at hq
              rcases hq with hq | hq
              · exact (HFX.out q hq).imp id fun h => by
                  rw [List.take_add_one, List.flatten_append, List.mem_append]; exact .inl h
              · exact .inr (HFB.out q (by simpa using hq)))
            have HI3 := Lib.hid (show (minTo p d k ++ (L.take (i0 + 1)).filter (needU p d)).length = mx + 1 from by rw [HE.out, ← List.append_assoc, List.length_append, HMX.out]; rfl)
            have HI4 := Lib.hid (show GrX w8 w.heap.size w.heap.size 29 1 (.slice (some ⟨g8, 0, none⟩) (mx + 1) cap8) (mx + 1) ((minTo p d k ++ (L.take (i0 + 1)).filter (needU p d)).map inD) (usx ++ [.slice au nu cu]) (fsx ++ [f]) from by rw [HE.out, ← List.append_assoc, List.map_append]; exact HG8.out)
            go_roundw
            case rel => exact ⟨i0 + 1, g8, mx + 1, cap8, usx ++ [Value.slice au nu cu], fsx ++ [f], by omega, by go_num, rfl, HI3.out, HI4.out, HMV8.out, HFX8.out⟩
            case measure => simp [intOf]; omega
        · obtain rfl : i0 = m7 := by omega
          have HTK := Lib.hid (show minTo p d k ++ (L.take i0).filter (needU p d) = minTo p d (k + 1) from by rw [List.take_of_length_le (Nat.le_of_eq HM7.out), HMSK.out])
          rw [HTK.out] at HMX HGX
          have HSX := Lib.hid (show Own wr w.heap.size (.slice a7 n c7) (sps p d) ∧ ∀ q, (Value.slice a7 n c7).ownBlock = some q → gx ≠ q from
            ⟨HS4.out.keptM HMV.out (fun q hq e => HS.out.2 q hq (Eq.symm e)), fun q hq e => by
              rcases HMV.out.old gx rfl with h | h
              · exact HS.out.2 q hq (h.symm.trans e)
              · have := (HS4.out.lt q hq).2; omega⟩)
          go_wp2
          go_roundw
          case rel => exact ⟨k + 1, gx, mx, capx, usx, fsx, by omega, by go_num, rfl, HMX.out, HGX.out, HSX.out, HBX.out⟩
          case measure => simp [intOf]; omega
    · obtain rfl : k = n + 1 := by omega
      have hltI : ¬ ((n : Int) + 1) ≤ (n : Int) := by omega
      have HE := Lib.hid HMA.out
      clear hlt
      go_wp2
      go_ret
      exact ⟨_, rfl, g, m, cap, rfl, by rw [← HE.out]; exact HM.out, by rw [← HE.out]; exact (HG.out.grw (Nat.le_refl _)).ofr, HB.out⟩
set_option maxHeartbeats 1600000 in
theorem specMin_any (v vg : Value) (p : Pln) (d : List Int) (w : World) (h : PlnR w v p) (hv : Rd w vg d) (hfb : ∀ i : Nat, (lgA p i).fb.length ≤ 1100000) :
    Calls Tryz.prog 43 #[v, vg] w (MnP p d w) := by
  have HDW := Lib.hid (fun w' (hb : Below w.heap.size w w') => l25Down_any v vg p d w' (h.behind hb) (hv.belowAll hb) hfb)
  have HHI := Lib.hid (fun (ho : dwOk p d = true) w' (hb : Below w.heap.size w w') => l25Hits_any v p w' (h.behind hb) (plnOk_sz (dwOk_parts ho).1).2.2.1 (plnOk_sz (dwOk_parts ho).1).2.1)
  have HSU := Lib.hid (fun (ho : dwOk p d = true) w' vh (hh : Rd w' vh (nats (hmks p))) => l25All_any vh p d w' hh ho)
  obtain ⟨u1, u2, u3, rfl, r1, r2, r3, hsm⟩ := h
  have hnet : NetR w (.agg #[u1, u2]) p.n := ⟨u1, u2, rfl, r1, r2, hsm⟩
  obtain ⟨⟨a1, m1, c1, rfl⟩, a2, m2, c2, rfl⟩ := slice_of_net hnet
  obtain ⟨a3, m3, c3, rfl, -, -, -, -⟩ := lgt_opn r3
  obtain ⟨ag, cg, ng, -, rfl, -, -, -⟩ := hv.opn
  obtain ⟨bx, bc, blt, -⟩ := box_facts w #[.slice a1 m1 c1, .slice a2 m2 c2, .slice a3 m3 c3] 38
  have q0 := bc 0 _ rfl
  have q1 := bc 1 _ rfl
  have q2 := bc 2 _ rfl
  have HBX := Lib.hid bx
  have HRN := Lib.hid (@minR_no p d)
  have HDN := Lib.hid (@minOk_dw p d)
  have HOQ := Lib.hid (show minOk p d = (dwOk p d && decide ((minA p d).length ≤ 40)) from rfl)
  have HRY := Lib.hid (show minOk p d = true → minR p d = minA p d from fun e => by unfold minR; rw [if_pos e])
  have HDR := Lib.hid (show dwOk p d = true → dwR p d = dmk p d from fun e => by unfold dwR; rw [if_pos e])
  unfold MnP
  unfold DwP at HDW
  generalize minR p d = R at *
  generalize minOk p d = ok at *
  generalize minA p d = MA at *
  generalize dwR p d = M0 at *
  clear hv r1 r2 r3 hsm hnet hfb bx bc
  go_enter Tryz.func43, Tryz.ntmps43
  go_wp2_with fail
  generalize w.alloc (.cells #[.slice a1 m1 c1, .slice a2 m2 c2, .slice a3 m3 c3] 38) = w1 at *
  have HV1 := Lib.hid (HDW.out w1 HBX.out)
  cases hok : dwOk p d
  · have HE := Lib.hid (HDN.out hok)
    have HE2 := Lib.hid (HRN.out HE.out)
    rw [hok] at HV1
    clear HDW HHI HSU HRY HRN HDR HOQ HDN hok
    refine HV1.out.mono ?_
    rintro e w2 ⟨rfl, b2⟩
    have HB2 := Lib.hid (HBX.out.trans (b2.mono HBX.out.size))
    have HON := Lib.hid ((GrX.start (w := w2) (base := w.heap.size) (lo := w.heap.size) (size := 1) 29 HB2.out.size).grw (Nat.le_refl _)).ofr
    have HB3 := Lib.hid (HB2.out.alloc HB2.out.size (.cells #[] 29))
    clear b2
    go_wp2
    go_ret2
    exact ⟨_, by rw [HE.out]; rfl, by rw [HE2.out]; exact HON.out, HB3.out⟩
  have HO1 := Lib.hid (show ok = decide (MA.length ≤ 40) from by rw [HOQ.out, hok]; rfl)
  have HH := Lib.hid (HHI.out hok)
  have HS := Lib.hid (HSU.out hok)
  have HMM := HDR.out hok
  rw [hok, HMM] at HV1
  clear HDW HHI HSU HDR hok HMM HOQ HDN
  generalize dmk p d = M at *
  refine HV1.out.mono ?_
  rintro e w2 ⟨rfl, b2⟩
  have e0 := (b2.cell (p := ⟨w.heap.size, 0, none⟩) blt).trans q0
  have e1 := (b2.cell (p := ⟨w.heap.size, 1, none⟩) blt).trans q1
  have e2 := (b2.cell (p := ⟨w.heap.size, 2, none⟩) blt).trans q2
  have HB2 := Lib.hid (HBX.out.trans (b2.mono HBX.out.size))
  clear b2 q0 q1 q2
  go_wp2_with fail
  refine (HH.out w2 HB2.out).mono ?_
  rintro e w3 ⟨v3, rfl, o3, b3⟩
  have HB3 := Lib.hid (HB2.out.trans (b3.mono HB2.out.size))
  have HS3 := Lib.hid (HS.out w3 v3 o3.rd)
  obtain ⟨a5, c5, n5, -, rfl, -, -, -⟩ := o3.rd.opn
  clear b3 o3
  go_wp2_with fail
  refine HS3.out.mono ?_
  rintro e w4 ⟨v4, rfl, h4⟩
  obtain ⟨g, m, cap, rfl, hm, o4, b4⟩ := h4
  have HB4 := Lib.hid (HB3.out.trans (b4.mono HB3.out.size))
  have HO4 := Lib.hid (o4.mono HB3.out.size)
  clear b4 o4
  by_cases h40 : 40 < m
  · have hI : (40 : Int) < (m : Int) := by omega
    have hIb : decide ((40 : Int) < (m : Int)) = true := decide_eq_true hI
    have HE := Lib.hid (show ok = false by rw [HO1.out]; exact decide_eq_false (by omega))
    have HE2 := Lib.hid (HRN.out HE.out)
    have HON := Lib.hid ((GrX.start (w := w4) (base := w.heap.size) (lo := w.heap.size) (size := 1) 29 HB4.out.size).grw (Nat.le_refl _)).ofr
    have HB5 := Lib.hid (HB4.out.alloc HB4.out.size (.cells #[] 29))
    clear h40 hm
    go_wp2
    go_ret2
    exact ⟨_, by rw [HE.out]; rfl, by rw [HE2.out]; exact HON.out, HB5.out⟩
  · have hI : ¬ (40 : Int) < (m : Int) := by omega
    have hIb : decide ((40 : Int) < (m : Int)) = false := decide_eq_false hI
    have HE := Lib.hid (show ok = true by rw [HO1.out]; exact decide_eq_true (by omega))
    have HE2 := Lib.hid (HRY.out HE.out)
    clear h40 hm
    go_wp2
    go_ret2
    exact ⟨_, by rw [HE.out]; rfl, by rw [HE2.out]; exact HO4.out, HB4.out⟩
theorem tot_le23 {L : List (List Int)} (h : ∀ x ∈ L, x.length ≤ 23) : tot L ≤ L.length * 23 := by
  unfold tot
  induction L with
  | nil => simp
  | cons x L ih =>
    rw [List.map_cons, List.sum_cons, List.length_cons, Nat.succ_mul]
    have h1 := h x (List.mem_cons_self ..)
    have h2 := ih fun y hy => h y (List.mem_cons_of_mem _ hy)
    omega
end Go.Proofs.YtmkkdenhjfjmgaaGreat
namespace Go.Proofs.YtmkkdenhjfjmgaaGreat
open Go.RowKit Go.Sort

def cerTo (L : List (List Int)) : Nat → List Int
  | 0 => []
  | k + 1 => ust (cmn (if k = 0 then L[0]?.getD [] else cerTo L k) (L[k]?.getD []))
def posTo (L : List (List Int)) (k : Nat) : List Int := (L.take k).flatten
def cerS (L : List (List Int)) (G : Nat) : List Int := ((List.range G).filter fun g : Nat => !L.isEmpty && L.all fun x => x.contains (g : Int)).map fun g : Nat => (g : Int)
def posS (L : List (List Int)) (G : Nat) : List Int := ((List.range G).filter fun g : Nat => L.any fun x => x.contains (g : Int)).map fun g : Nat => (g : Int)
theorem posTo_next {L : List (List Int)} {k : Nat} (hk : k < L.length) : posTo L (k + 1) = posTo L k ++ L[k]?.getD [] := by
  unfold posTo
  rw [List.take_add_one, List.flatten_append, List.getElem?_eq_getElem hk]; simp
theorem cerTo_first {L : List (List Int)} : cerTo L 1 = ust (cmn (L[0]?.getD []) (L[0]?.getD [])) := rfl
theorem cerTo_next {L : List (List Int)} {k : Nat} (hk : 0 < k) : cerTo L (k + 1) = ust (cmn (cerTo L k) (L[k]?.getD [])) := by
  show ust (cmn (if k = 0 then L[0]?.getD [] else cerTo L k) (L[k]?.getD [])) = _
  rw [if_neg (by omega)]
theorem cerTo_asc (L : List (List Int)) (k : Nat) : (cerTo L k).Pairwise (· < ·) := by
  cases k with
  | zero => exact List.Pairwise.nil
  | succ k => exact ust_asc _
theorem cmn_mem {xs ys : List Int} {x : Int} : x ∈ cmn xs ys ↔ x ∈ xs ∧ x ∈ ys := by unfold cmn; rw [List.mem_filter, List.contains_iff_mem]
theorem cerTo_mem {L : List (List Int)} {k : Nat} {x : Int} (hk : 0 < k) : x ∈ cerTo L k ↔ ∀ i, i < k → x ∈ L[i]?.getD [] := by
  induction k with
  | zero => omega
  | succ k ih =>
    by_cases h0 : k = 0
    · subst h0
      rw [cerTo_first, ust_mem, cmn_mem]
      exact ⟨fun h i hi => by obtain rfl : i = 0 := by omega
                              exact h.1, fun h => ⟨h 0 (by omega), h 0 (by omega)⟩⟩
    · rw [cerTo_next (by omega), ust_mem, cmn_mem, ih (by omega)]
      constructor
      · rintro ⟨h1, h2⟩ i hi
        by_cases e : i = k
        · subst e; exact h2
        · exact h1 i (by omega)
      · exact fun h => ⟨fun i hi => h i (by omega), h k (by omega)⟩
theorem cerTo_len {L : List (List Int)} (h : ∀ x ∈ L, x.length ≤ 23) (k : Nat) : (cerTo L k).length ≤ 23 := by
  have h0 : ∀ i : Nat, (L[i]?.getD []).length ≤ 23 := fun i => by
    by_cases hi : i < L.length
    · rw [List.getElem?_eq_getElem hi]; exact h _ (List.getElem_mem hi)
    · rw [List.getElem?_eq_none (by omega)]; simp
  induction k with
  | zero => simp [cerTo]
  | succ k ih =>
    refine Nat.le_trans (ust_len _) ?_
    unfold cmn
    refine Nat.le_trans (List.length_filter_le _ _) ?_
    split
    · exact h0 0
    · exact ih
theorem rng_asc (G : Nat) (f : Nat → Bool) : (((List.range G).filter f).map fun g : Nat => (g : Int)).Pairwise (· < ·) := by
  rw [List.pairwise_map]
  exact (List.Pairwise.filter _ List.pairwise_lt_range).imp fun h => by omega
theorem rng_mem {G : Nat} {f : Nat → Bool} {x : Int} : x ∈ ((List.range G).filter f).map (fun g : Nat => (g : Int)) ↔ ∃ g : Nat, g < G ∧ f g = true ∧ (g : Int) = x := by
  rw [List.mem_map]
  constructor
  · rintro ⟨g, hg, rfl⟩
    rw [List.mem_filter, List.mem_range] at hg
    exact ⟨g, hg.1, hg.2, rfl⟩
  · rintro ⟨g, h1, h2, rfl⟩
    exact ⟨g, List.mem_filter.2 ⟨List.mem_range.2 h1, h2⟩, rfl⟩
theorem cer_eq {L : List (List Int)} {G : Nat} (h : ∀ x ∈ L, ∀ y ∈ x, ∃ g : Nat, y = (g : Int) ∧ g < G) : cerTo L L.length = cerS L G := by
  cases L with
  | nil => simp [cerTo, cerS]
  | cons x0 L0 =>
    generalize hL : x0 :: L0 = L at *
    have hl : 0 < L.length := by rw [← hL]; simp
    refine asc_ext (cerTo_asc _ _) (rng_asc _ _) fun x => ?_
    rw [cerTo_mem hl]
    unfold cerS
    rw [rng_mem]
    have hne : L.isEmpty = false := by rw [← hL]; rfl
    constructor
    · intro hx
      have h0 := hx 0 hl
      rw [List.getElem?_eq_getElem hl] at h0
      obtain ⟨g, rfl, hg⟩ := h _ (List.getElem_mem hl) x h0
      refine ⟨g, hg, ?_, rfl⟩
      rw [hne]
      simp only [Bool.not_false, Bool.true_and, List.all_eq_true, List.contains_iff_mem]
      intro y hy
      obtain ⟨i, hi, rfl⟩ := List.mem_iff_getElem.1 hy
      have := hx i hi
      rwa [List.getElem?_eq_getElem hi] at this
    · rintro ⟨g, hg, hf, rfl⟩ i hi
      rw [hne] at hf
      simp only [Bool.not_false, Bool.true_and, List.all_eq_true, List.contains_iff_mem] at hf
      rw [List.getElem?_eq_getElem hi]
      exact hf _ (List.getElem_mem hi)
theorem pos_eq {L : List (List Int)} {G : Nat} (h : ∀ x ∈ L, ∀ y ∈ x, ∃ g : Nat, y = (g : Int) ∧ g < G) : ust (posTo L L.length) = posS L G := by
  refine ust_of (rng_asc _ _) fun x => ?_
  unfold posS posTo
  rw [rng_mem, List.take_length, List.mem_flatten]
  constructor
  · rintro ⟨g, hg, hf, rfl⟩
    rw [List.any_eq_true] at hf
    obtain ⟨y, hy, e⟩ := hf
    exact ⟨y, hy, by simpa using e⟩
  · rintro ⟨y, hy, hx⟩
    obtain ⟨g, rfl, hg⟩ := h y hy x hx
    exact ⟨g, hg, List.any_eq_true.2 ⟨y, hy, by simpa using hx⟩, rfl⟩
theorem minR_mem {p : Pln} {d : List Int} : ∀ x ∈ minR p d, ∀ y ∈ x, ∃ g : Nat, y = (g : Int) ∧ g < (grps p.n).length := by
  unfold minR
  split
  · rename_i h
    unfold minOk at h
    simp only [Bool.and_eq_true] at h
    intro x hx y hy
    obtain ⟨k, e, hk, -⟩ := sps_mem ((exA_mem h.1 (List.mem_filter.1 hx).1).2.1 y hy)
    exact ⟨k, e, hk⟩
  · intro x hx; cases hx
theorem minR_len {p : Pln} {d : List Int} : (minR p d).length ≤ 40 ∧ ∀ x ∈ minR p d, x.length ≤ 23 := by
  unfold minR
  split
  · rename_i h
    unfold minOk at h
    simp only [Bool.and_eq_true, decide_eq_true_eq] at h
    exact ⟨h.2, fun x hx => (exA_mem h.1 (List.mem_filter.1 hx).1).1⟩
  · exact ⟨by simp, fun x hx => by cases hx⟩
theorem minOk_sz {p : Pln} {d : List Int} (h : minOk p d = true) : plnOk p = true := by
  unfold minOk at h
  simp only [Bool.and_eq_true] at h
  exact (dwOk_parts h.1).1
def cgC (p : Pln) (d : List Int) : List Int := cerS (minR p d) (grps p.n).length
def cgP (p : Pln) (d : List Int) : List Int := posS (minR p d) (grps p.n).length
theorem cgC_no {p : Pln} {d : List Int} (h : minOk p d = false) : cgC p d = [] := by unfold cgC; rw [minR_no h]; simp [cerS]
theorem cgP_no {p : Pln} {d : List Int} (h : minOk p d = false) : cgP p d = [] := by unfold cgP; rw [minR_no h]; simp [posS]
theorem cgC_impl (p : Pln) (d : List Int) : cerTo (minR p d) (minR p d).length = cgC p d := cer_eq minR_mem
theorem cgP_impl (p : Pln) (d : List Int) : ust (posTo (minR p d) (minR p d).length) = cgP p d := pos_eq minR_mem
theorem rngF_len (G : Nat) (f : Nat → Bool) : (((List.range G).filter f).map fun g : Nat => (g : Int)).length ≤ G := by
  rw [List.length_map]; exact Nat.le_trans (List.length_filter_le _ _) (by simp)
theorem cgC_len {p : Pln} {d : List Int} : (cgC p d).length ≤ 23 := by
  cases h : minOk p d
  · rw [cgC_no h]; simp
  · exact Nat.le_trans (rngF_len _ _) (plnOk_sz (minOk_sz h)).2.2.2
theorem posTo_len {L : List (List Int)} (h : L.length ≤ 40 ∧ ∀ x ∈ L, x.length ≤ 23) (k : Nat) : (posTo L k).length ≤ 920 := by
  unfold posTo
  rw [List.length_flatten]
  have h1 := tot_le23 (L := L.take k) fun x hx => h.2 x (List.mem_of_mem_take hx)
  unfold tot at h1
  have h2 := List.length_take_le' k L
  omega
/-- Two rows of the call's own that lie apart. -/
def Apt (u v : Value) : Prop := ∀ q, u.ownBlock = some q → v.ownBlock ≠ some q
theorem Apt.nil (v : Value) : Apt (.slice none 0 0) v := fun q h => by simp [Value.ownBlock] at h
def CgP (p : Pln) (d : List Int) (w : World) (e : Ending) (w' : World) : Prop := ∃ v1 v2, e = .returned (.tuple #[v1, v2, .bool (minOk p d)]) ∧ Ofr w' w.heap.size (inD (cgC p d)) v1 ∧ Ofr w' w.heap.size (inD (cgP p d)) v2 ∧ Apt v1 v2 ∧ Below w.heap.size w w'

/-! ### Counting, as the reference does -/
end Go.Proofs.YtmkkdenhjfjmgaaGreat
namespace Go.Proofs.YtmkkdenhjfjmgaaGreat
open Go.RowKit

section
variable {P : Program} {ops : Array Oper} {Q : Exit → Act → World → Prop} {md : Region.Mode} {S : World → Prop} {U : List Nat}
/-- One of the operations U has not come up yet. -/
def lft (U : List Nat) (listed : Array Bool) : Bool := U.any fun k => !listed.getD k true
/-- One of the operations U that has not come up yet waits for number i. -/
def waits (md : Region.Mode) (ops : Array Oper) (U : List Nat) (listed : Array Bool) (i : Nat) : Bool := U.any fun m => !listed.getD m true && m != i && ((ops[m]?).map (·.after.any fun e => Region.binds md e && e.on == i)).getD false
theorem lft_of {listed : Array Bool} {m : Nat} (hm : m ∈ U) (hl : listed.getD m true = false) : lft U listed = true := by
  unfold lft
  exact List.any_eq_true.2 ⟨m, hm, by rw [hl]; rfl⟩
theorem waits_iff {listed : Array Bool} {i : Nat} : waits md ops U listed i = true ↔ ∃ m om, m ∈ U ∧ ops[m]? = some om ∧ m ≠ i ∧ listed.getD m true = false ∧ ∃ e ∈ om.after, Region.binds md e = true ∧ e.on = i := by
  unfold waits
  rw [List.any_eq_true]
  constructor
  · rintro ⟨m, h1, h2⟩
    simp only [Bool.and_eq_true, Bool.not_eq_true', bne_iff_ne, ne_eq] at h2
    obtain ⟨⟨h3, h4⟩, h5⟩ := h2
    cases ho : ops[m]? with
    | none => rw [ho] at h5; cases h5
    | some om =>
      rw [ho] at h5
      obtain ⟨e, he, hb⟩ := Array.any_eq_true'.1 (show om.after.any (fun e => Region.binds md e && e.on == i) = true from h5)
      simp only [Bool.and_eq_true, beq_iff_eq] at hb
      exact ⟨m, om, h1, ho, h4, h3, e, he, hb.1, hb.2⟩
  · rintro ⟨m, om, h1, ho, h4, h3, e, he, hb1, hb2⟩
    refine ⟨m, h1, ?_⟩
    simp only [Bool.and_eq_true, Bool.not_eq_true', bne_iff_ne, ne_eq]
    refine ⟨⟨h3, h4⟩, ?_⟩
    rw [ho]
    show om.after.any (fun e => Region.binds md e && e.on == i) = true
    exact Array.any_eq_true'.2 ⟨e, he, by simp [hb1, hb2]⟩
/-- Whatever order is picked, and S holds behind every operation behind which something is left to do. -/
def wpAnyL (P : Program) (md : Region.Mode) (ops : Array Oper) (U : List Nat) (Q : Exit → Act → World → Prop) (S : World → Prop) : Nat → Array Bool → Act → World → Prop
  | 0, listed, a, w => Region.ready md ops listed = [] ∧ Q .normal a w
  | fuel + 1, listed, a, w =>
    (Region.ready md ops listed = [] → Q .normal a w) ∧
    ∀ i ∈ Region.ready md ops listed, wpOp P ops Q i (fun a' w' => (lft U (listed.setIfInBounds i true) = true → S w') ∧ wpAnyL P md ops U Q S fuel (listed.setIfInBounds i true) a' w') a w
theorem wpAny_of_L : ∀ (fuel : Nat) (listed : Array Bool) (a : Act) (w : World), wpAnyL P md ops U Q S fuel listed a w → wpAny P md ops Q fuel listed a w
  | 0, _, _, _, h => h
  | fuel + 1, _, _, _, h => ⟨h.1, fun i hi => wpOp_mono (fun a' w' h' => wpAny_of_L fuel _ a' w' h'.2) (h.2 i hi)⟩
theorem wpAnyL_first {i : Nat} {oi : Oper} {v : Value} (hi : ops[i]? = some oi) (hsel : ∀ (j : Nat) (o : Oper) cs b, ops[j]? = some o → o.op ≠ .select cs b)
    (hQ : ∀ c a w, Q (.panic c) (a.put oi.dst v) w → Q (.panic c) a w) :
    ∀ (fuel : Nat) (listed : Array Bool) (a : Act) (w : World),
      (∀ j oj, ops[j]? = some oj → j ≠ i → listed.getD j true = false → (∀ e ∈ oj.after, Region.binds md e = true → e.on ≠ i) → oi.apart ops oj = true) →
      i ∈ Region.ready md ops listed → waits md ops U listed i = true → YieldsIf P ops S oi v a → S w →
      wpAnyL P md ops U Q S fuel (listed.setIfInBounds i true) (a.put oi.dst v) w → wpAnyL P md ops U Q S (fuel + 1) listed a w := by
  intro fuel
  induction fuel with
  | zero =>
    intro listed a w _ hr _ hy hS H
    refine ⟨fun h => (by rw [h] at hr; cases hr), fun j hj => ?_⟩
    by_cases hji : j = i
    · subst hji; exact hy.wpOp hi hS ⟨fun _ => hS, H⟩
    · have := ready_mono hj hji
      rw [H.1] at this
      cases this
  | succ fuel ih =>
    intro listed a w hfree hr hwt hy hS H
    refine ⟨fun h => (by rw [h] at hr; cases hr), fun j hj => ?_⟩
    by_cases hji : j = i
    · subst hji; exact hy.wpOp hi hS ⟨fun _ => hS, H⟩
    · have h1 := H.2 j (ready_mono hj hji)
      obtain ⟨hjun, oj, hoj, hall⟩ := mem_ready.1 hj
      have hnot : ∀ e ∈ oj.after, Region.binds md e = true → e.on ≠ i := fun e he hb heq => by
        have h1 := hall e he hb
        have h0 := (mem_ready.1 hr).1
        rw [heq] at h1
        rcases Nat.lt_or_ge i listed.size with h' | h'
        · simp [h'] at h0 h1; rw [h0] at h1; cases h1
        · simp [Array.getElem?_eq_none h'] at h1
      have h2 := wpOp_putIf hoj (hfree j oj hoj hji hjun hnot) (fun cs b => hsel i oi cs b hi) (fun cs b => hsel j oj cs b hoj) hQ hy h1
      have hfree' : ∀ k ok, ops[k]? = some ok → k ≠ i → (listed.setIfInBounds j true).getD k true = false →
          (∀ e ∈ ok.after, Region.binds md e = true → e.on ≠ i) → oi.apart ops ok = true := fun k ok hk hki hun hno => by
        refine hfree k ok hk hki ?_ hno
        by_cases hjk : j = k
        · subst hjk; exact hjun
        · rw [getD_set_ne true hjk] at hun; exact hun
      obtain ⟨m, om, hmU, hom, hmi, hml, e, he, hb1, hb2⟩ := waits_iff.1 hwt
      have hmj : j ≠ m := fun h => by
        subst h
        rw [hoj] at hom
        cases hom
        exact hnot e he hb1 hb2
      have hml2 : (listed.setIfInBounds j true).getD m true = false := by rw [getD_set_ne true hmj]; exact hml
      have hwt2 : waits md ops U (listed.setIfInBounds j true) i = true := waits_iff.2 ⟨m, om, hmU, hom, hmi, hml2, e, he, hb1, hb2⟩
      have hl2 : lft U ((listed.setIfInBounds i true).setIfInBounds j true) = true :=
        lft_of hmU (by rw [getD_set_ne true hmj, getD_set_ne true (Ne.symm hmi)]; exact hml)
      refine wpOp_mono (fun a' w' h3 => ⟨fun _ => h3.2.1 hl2, ih (listed.setIfInBounds j true) a' w' hfree' (ready_mono hr (Ne.symm hji)) hwt2 h3.1 (h3.2.1 hl2) ?_⟩) h2
      rw [Array.setIfInBounds_comm _ _ hji]
      exact h3.2.2
theorem get_of_drop {i : Nat} {o : Oper} {tl : List Oper} (h : ops.toList.drop i = o :: tl) : ops[i]? = some o := by
  have : (ops.toList.drop i)[0]? = some o := by rw [h]; rfl
  rw [List.getElem?_drop, Nat.add_zero] at this
  simpa using this
/-- An operation that yields the same in every world that meets S is taken first. -/
theorem hlTake (i : Nat) {oi : Oper} {v : Value} {fuel : Nat} {listed : Array Bool} {a : Act} {w : World} {tl : List Oper} (hi : ops.toList.drop i = oi :: tl)
    (hs : Region.noSelect ops = true) (hf : Region.free md ops listed i = true) (hr : (Region.ready md ops listed).contains i = true) (hwt : waits md ops U listed i = true)
    (hQ : ∀ c a w, Q (.panic c) (a.put oi.dst v) w → Q (.panic c) a w) (hw : Region.wanted oi (yielded ops a.tmps) = true) (hy : ∀ w, S w → (execOp a.eval oi).run P w = .ok (.value v) w) (hS : S w)
    (h : wpAnyL P md ops U Q S fuel (listed.setIfInBounds i true) (a.put oi.dst v) w) : wpAnyL P md ops U Q S (fuel + 1) listed a w :=
  wpAnyL_first (get_of_drop hi) (Region.noSelect_spec hs) hQ fuel listed a w (Region.free_spec (get_of_drop hi) hf) (by simpa using hr) hwt (.inl ⟨hw, hy⟩) hS h
/-- An operation that is not wanted is taken first. -/
theorem hlSkip (i : Nat) {oi : Oper} {fuel : Nat} {listed : Array Bool} {a : Act} {w : World} {tl : List Oper} (hi : ops.toList.drop i = oi :: tl)
    (hs : Region.noSelect ops = true) (hf : Region.free md ops listed i = true) (hr : (Region.ready md ops listed).contains i = true) (hwt : waits md ops U listed i = true)
    (hQ : ∀ c a w, Q (.panic c) (a.put oi.dst undef) w → Q (.panic c) a w) (hw : Region.wanted oi (yielded ops a.tmps) = false) (hS : S w)
    (h : wpAnyL P md ops U Q S fuel (listed.setIfInBounds i true) (a.put oi.dst undef) w) : wpAnyL P md ops U Q S (fuel + 1) listed a w :=
  wpAnyL_first (get_of_drop hi) (Region.noSelect_spec hs) hQ fuel listed a w (Region.free_spec (get_of_drop hi) hf) (by simpa using hr) hwt (.inr ⟨hw, rfl⟩) hS h
def AllReadyL (P : Program) (md : Region.Mode) (ops : Array Oper) (U : List Nat) (Q : Exit → Act → World → Prop) (S : World → Prop) (fuel : Nat) (listed : Array Bool) (a : Act) (w : World) (rs : List Nat) : Prop :=
  ∀ i ∈ rs, wpOp P ops Q i (fun a' w' => (lft U (listed.setIfInBounds i true) = true → S w') ∧ wpAnyL P md ops U Q S fuel (listed.setIfInBounds i true) a' w') a w
theorem AllReadyL.nil {fuel : Nat} {listed : Array Bool} {a : Act} {w : World} : AllReadyL P md ops U Q S fuel listed a w [] := fun _ h => by cases h
theorem AllReadyL.cons {fuel : Nat} {listed : Array Bool} {a : Act} {w : World} {i : Nat} {o : Oper} {rs : List Nat} {tl : List Oper} (ho : ops.toList.drop i = o :: tl)
    (h : ∀ K' : Act → World → Prop, Shut (∀ a w, S w → (S w → wpAnyL P md ops U Q S fuel (listed.setIfInBounds i true) a w) → K' a w) → if Region.wanted o (yielded ops a.tmps) = true then Oper.wp P o a w K' Q else K' (a.put o.dst undef) w)
    (hs : AllReadyL P md ops U Q S fuel listed a w rs) : AllReadyL P md ops U Q S fuel listed a w (i :: rs) := fun j hj => by
  rcases List.mem_cons.1 hj with rfl | hj
  · exact wpOp_step (get_of_drop ho) (fun K' hK => h K' (fun a w hS hW => hK a w ⟨fun _ => hS, hW hS⟩))
  · exact hs j hj
theorem hlReady {rs : List Nat} {fuel : Nat} {listed : Array Bool} {a : Act} {w : World} (hr : Region.ready md ops listed = rs) (hne : rs ≠ [])
    (h : AllReadyL P md ops U Q S fuel listed a w rs) : wpAnyL P md ops U Q S (fuel + 1) listed a w :=
  ⟨fun h0 => absurd (hr ▸ h0) hne, hr ▸ h⟩
/-- An operation behind which S is not asked for. -/
theorem hlStep (i : Nat) {fuel : Nat} {listed : Array Bool} {a : Act} {w : World} {o : Oper} {tl : List Oper} (ho : ops.toList.drop i = o :: tl) (hr : Region.ready md ops listed = [i]) (hl : lft U (listed.setIfInBounds i true) = false)
    (h : ∀ K' : Act → World → Prop, Shut (∀ a w, wpAnyL P md ops U Q S fuel (listed.setIfInBounds i true) a w → K' a w) → if Region.wanted o (yielded ops a.tmps) = true then Oper.wp P o a w K' Q else K' (a.put o.dst undef) w) : wpAnyL P md ops U Q S (fuel + 1) listed a w :=
  hlReady hr (by simp) fun j hj => by
    obtain rfl : j = i := by simpa using hj
    exact wpOp_step (get_of_drop ho) (fun K' hK => h K' (fun a w hW => hK a w ⟨fun h => (by rw [hl] at h; cases h), hW⟩))
/-- All have come up. -/
theorem hlDone {listed : Array Bool} {a : Act} {w : World} (hr : Region.ready md ops listed = []) (h : Q .normal a w) : ∀ fuel, wpAnyL P md ops U Q S fuel listed a w
  | 0 => ⟨hr, h⟩
  | _ + 1 => ⟨fun _ => h, by rw [hr]; simp⟩
theorem wp_region_L (U : List Nat) {id : Nat} {a : Act} {w : World} (hm : P.follows .mixedOrders = true) (hS : S w.drew)
    (h : S w.drew → wpAnyL P .any ops U Q S ops.size (Array.replicate ops.size false) a w.drew) : (Code.region id ops true).wp P Q a w :=
  wp_region_any hm (wpAny_of_L _ _ _ _ (h hS))
end
end Go.Proofs.YtmkkdenhjfjmgaaGreat
