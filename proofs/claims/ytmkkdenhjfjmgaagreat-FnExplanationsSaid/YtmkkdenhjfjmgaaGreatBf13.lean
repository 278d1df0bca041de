/- Joined: XFst XFsu XFws XDel XMnw. -/
import Derived.Test.YtmkkdenhjfjmgaaGreatBf12
import Derived.Test.YtmkkdenhjfjmgaaGreatBf08
import Derived.Test.YtmkkdenhjfjmgaaGreatBf04
import Derived.Test.YtmkkdenhjfjmgaaGreatBf01
import Derived.Test.YtmkkdenhjfjmgaaGreatBf03
import Derived.Deep.RegionHeld3
namespace Go.Proofs.YtmkkdenhjfjmgaaGreat
open Go.RowKit Go.Sort
set_option maxRecDepth 100000

theorem exTo_go {σ : Type} {step : σ → List Int → σ × Bool} {p : Pln} {d : List Int} {k : Nat} {s0 s : σ} (h : runV step (exTo p d k) s0 = (s, false)) : runV step (exTo p d (k + 1)) s0 = runV step (exl p d k) s := by
  rw [exTo_succ, runV_go (by rw [h]), h]
theorem exA_stop {σ : Type} {step : σ → List Int → σ × Bool} {p : Pln} {d : List Int} {k : Nat} {s0 : σ} (hk : k ≤ (sps p d).length) (h : (runV step (exTo p d (k + 1)) s0).2 = true) : runV step (exA p d) s0 = runV step (exTo p d (k + 1)) s0 := by
  obtain ⟨r, hr⟩ := exTo_pre p d (show k + 1 ≤ (sps p d).length + 1 by omega)
  unfold exA; rw [hr, runV_stop h]
/-- Only new blocks and those of T have been written. -/
theorem Mv.alloc (T : Nat → Prop) (w : World) (b : Obj) : Mv T T w (w.alloc b) := Mv.of_below ((Below.refl _ _).alloc (Nat.le_refl _) b)
theorem Mv.set {T : Nat → Prop} {w : World} {g j : Nat} (h : T g ∨ w.heap.size ≤ g) (u : Value) : Mv T T w (w.setCell ⟨g, j, none⟩ u) :=
  ⟨rfl, rfl, rfl, by simp, fun k hk hn => heap_setCell_other w ⟨g, j, none⟩ k u fun e => by
    have e : k = g := e
    subst e
    rcases h with h | h
    · exact hn h
    · omega, fun _ h => .inl h⟩
set_option maxHeartbeats 6400000 in
theorem explanations_any {σ : Type} {Lv : σ → Prop} {J : σ → (Nat → Prop) → World → Prop} {step : σ → List Int → σ × Bool} {F : FuncId} {C : Array Value} {u : World} {p : Pln} {d : List Int} (HU : VisU Lv J step F C u p d)
    (hF : IsFn F) (hok : dwOk p d = true) (hfb : ∀ i : Nat, (lgA p i).fb.length ≤ 1100000) {v vd : Value} (hp : PlnR u v p) (hd : Rd u vd d)
    (s : σ) (T : Nat → Prop) (w : World) (hLv : Lv s) (hJ : J s T w) (hbel : Below u.heap.size u w) (htb : ∀ g, T g → u.heap.size ≤ g) :
    Calls Tryz.prog 92 #[v, vd, .func (.func F) #[] C] w fun e w' => e = .returned (.tuple #[]) ∧ MvQ J (runV step (exA p d) s).1 T w w' := by
  obtain ⟨a1, m1, c1, a2, m2, c2, a3, m3, c3, hv⟩ : ∃ a1 m1 c1 a2 m2 c2 a3 m3 c3, v = .agg #[.slice a1 m1 c1, .slice a2 m2 c2, .slice a3 m3 c3] := by
    obtain ⟨u1, u2, u3, e, r⟩ := id hp
    obtain ⟨a1, m1, c1, a2, m2, c2, a3, m3, c3, e1, e2, e3⟩ := PlB.slices (show PlnR u (.agg #[u1, u2, u3]) p from by rw [← e]; exact hp)
    exact ⟨a1, m1, c1, a2, m2, c2, a3, m3, c3, by rw [e, e1, e2, e3]⟩
  subst hv
  have HSU := Lib.hid (fun w' (hb : Below u.heap.size u w') => suspects_any _ vd p d w' (hp.behind hb) (hd.belowAll hb) hok hfb)
  obtain ⟨ad, cd, nd, -, rfl, -, -, -⟩ := hd.opn
  obtain ⟨n, HN⟩ : ∃ n, Hid ((sps p d).length = n) := ⟨_, rfl⟩
  have hn23 : n ≤ 23 := by have h1 := HN.out; have h2 := susTo_len p d (grps p.n).length; have h3 := (plnOk_sz (dwOk_parts hok).1).2.2.2; unfold sps at h1; omega
  have HCV := Lib.hid (fun (q0 q1 q2 q3 : Nat) (va : Value) =>
    choices_vis (Lv := Lv) (J := fun s T w => J s T w ∧ Env2 u w T q0 q1 q2 q3 va (.slice a1 m1 c1) (.slice a2 m2 c2) (.slice a3 m3 c3) (.slice ad nd cd) (.func (.func F) #[] C) (sps p d)) (step := stE p d (sps p d) step) (n := (sps p d).length) (q0 := q0) (q1 := q1) (q2 := q2) (q3 := q3)
      ⟨fun s T w g h => HU.lt s T w g h.1, fun s T w w' h hb => ⟨HU.beh s T w w' h.1 hb, h.2.step (Mv.of_below hb)⟩, (fun s ys hl he => by
        unfold stE at he ⊢
        split at he
        · rename_i e; rw [if_pos e]; exact HU.live _ _ hl he
        · rename_i e; rw [if_neg e]; exact hl), fun s T w vl ys hlv h hl hyl hy => (explanations1_any HU hF hok hfb hp hd s T w vl ys hlv h.1 h.2 hl hyl hy).mono (by
        rintro e w' ⟨e1, T', e2, e3⟩
        exact ⟨e1, T', ⟨e2, h.2.step e3⟩, e3⟩)⟩ (by rw [HN.out]; exact hn23))
  have HLV := Lib.hid hLv
  have HRL := Lib.hid (fun xs s h e => runV_live HU.live xs s h e)
  have HRX := Lib.hid (fun (c : Nat) (s : σ) => runV_exl (p := p) (d := d) (step := step) (c := c) (s := s))
  have HG := Lib.hid (fun (k : Nat) (s' : σ) (h : runV step (exTo p d k) s = (s', false)) => exTo_go (step := step) h)
  have HS := Lib.hid (fun (k : Nat) (hk : k ≤ (sps p d).length) h => exA_stop (step := step) (s0 := s) hk h)
  have H0 := Lib.hid (show runV step (exTo p d 0) s = (s, false) from rfl)
  have HA := Lib.hid (show exTo p d ((sps p d).length + 1) = exA p d from rfl)
  have HBE := Lib.hid HU.beh
  have HTB := Lib.hid htb
  rw [HN.out] at HCV HRX HS HA
  -- the boxes
  have b1 := (Below.refl w.heap.size w).alloc (Nat.le_refl _) (.cells #[.slice a1 m1 c1, .slice a2 m2 c2, .slice a3 m3 c3] 38)
  have b2 := b1.alloc b1.size (.cells #[.slice ad nd cd] 29)
  have b3 := b2.alloc b2.size (.cells #[.func (.func F) #[] C] 119)
  have k1 := heap_alloc_new w (.cells #[.slice a1 m1 c1, .slice a2 m2 c2, .slice a3 m3 c3] 38)
  have k2 := heap_alloc_new (w.alloc (.cells #[.slice a1 m1 c1, .slice a2 m2 c2, .slice a3 m3 c3] 38)) (.cells #[.slice ad nd cd] 29)
  have k3 := heap_alloc_new ((w.alloc (.cells #[.slice a1 m1 c1, .slice a2 m2 c2, .slice a3 m3 c3] 38)).alloc (.cells #[.slice ad nd cd] 29)) (.cells #[.func (.func F) #[] C] 119)
  have k1' := (heap_alloc_old _ (.cells #[.slice ad nd cd] 29) (Array.getElem?_eq_some_iff.1 k1).1).trans k1
  have k1'' := (heap_alloc_old _ (.cells #[.func (.func F) #[] C] 119) (Array.getElem?_eq_some_iff.1 k1').1).trans k1'
  have k2' := (heap_alloc_old _ (.cells #[.func (.func F) #[] C] 119) (Array.getElem?_eq_some_iff.1 k2).1).trans k2
  have z1 : (w.alloc (.cells #[.slice a1 m1 c1, .slice a2 m2 c2, .slice a3 m3 c3] 38)).heap.size = w.heap.size + 1 := by simp
  have z2 : ((w.alloc (.cells #[.slice a1 m1 c1, .slice a2 m2 c2, .slice a3 m3 c3] 38)).alloc (.cells #[.slice ad nd cd] 29)).heap.size = w.heap.size + 1 + 1 := by simp
  rw [z1] at k2'
  rw [z2] at k3
  have HB3 := Lib.hid b3
  have K1 := Lib.hid k1''
  have K2 := Lib.hid k2'
  have K3 := Lib.hid k3
  have HBU := Lib.hid (hbel.trans (b3.mono hbel.size))
  have HJ := Lib.hid (HBE.out _ _ _ _ hJ b3)
  have HM3 := Lib.hid (Mv.of_below (T := T) b3)
  have HTN := Lib.hid (fun g ht => HU.lt s T w g hJ ht)
  have e1 := blkc K1.out (j := 0) rfl
  have e2 := blkc K1.out (j := 1) rfl
  have e3 := blkc K1.out (j := 2) rfl
  have e4 := blkc K2.out (j := 0) rfl
  have hz3 : (((w.alloc (.cells #[.slice a1 m1 c1, .slice a2 m2 c2, .slice a3 m3 c3] 38)).alloc (.cells #[.slice ad nd cd] 29)).alloc (.cells #[.func (.func F) #[] C] 119)).heap.size = w.heap.size + 3 := by simp
  have HZ3 := Lib.hid hz3
  clear b1 b2 b3 k1 k2 k3 k1' k1'' k2' z1 z2 hbel htb hJ hLv hp hd hfb hok HU hF hz3
  generalize sps p d = all at *
  go_enter Tryz.func92, Tryz.ntmps92
  go_wp2_with fail
  generalize ((w.alloc (.cells #[.slice a1 m1 c1, .slice a2 m2 c2, .slice a3 m3 c3] 38)).alloc (.cells #[.slice ad nd cd] 29)).alloc (.cells #[.func (.func F) #[] C] 119) = w3 at *
  refine (HSU.out w3 HBU.out).mono ?_
  rintro e w4 ⟨v4, rfl, o4, b4⟩
  have q1 := kept_o' K1.out b4
  have q2 := kept_o' K2.out b4
  have q3 := kept_o' K3.out b4
  have HB4 := Lib.hid (HB3.out.trans (b4.mono HB3.out.size))
  have HU4 := Lib.hid (HBU.out.trans (b4.mono HBU.out.size))
  have HJ4 := Lib.hid (HBE.out _ _ _ _ HJ.out b4)
  have b5 := (Below.refl w4.heap.size w4).alloc (Nat.le_refl _) (.cells #[v4] 29)
  have g6 := heap_alloc_new w4 (.cells #[v4] 29)
  have HE6 := Lib.hid (show Env2 u (w4.alloc (.cells #[v4] 29)) T w4.heap.size w.heap.size (w.heap.size + 1) (w.heap.size + 1 + 1) v4 (.slice a1 m1 c1) (.slice a2 m2 c2) (.slice a3 m3 c3) (.slice ad nd cd) (.func (.func F) #[] C) all from by
    have hs4 := b4.size
    have hs3 := HZ3.out
    have hn : ∀ g, w.heap.size ≤ g → ¬ T g := fun g h1 h2 => by have := HTN.out g h2; omega
    exact ⟨g6, kept_o' q1 b5, kept_o' q2 b5, kept_o' q3 b5, hn _ (by omega), hn _ (Nat.le_refl _), hn _ (by omega), hn _ (by omega), (o4.belowAll b5).mono (Nat.zero_le _), fun g hg => hn g (by have := (o4.lt g hg).1; omega), HU4.out.trans (b5.mono HU4.out.size), HTB.out⟩)
  have HJ6 := Lib.hid (HBE.out _ _ _ _ HJ4.out b5)
  have HM6 := Lib.hid ((Mv.of_below (T := T) HB4.out).trans (Mv.of_below b5))
  obtain ⟨b, c, n4, HN4, rfl, -, -, -⟩ := o4.rd.opn
  obtain rfl : n = n4 := by have := HN.out; have := HN4.out; omega
  have HQ := Lib.hid (HCV.out w4.heap.size w.heap.size (w.heap.size + 1) (w.heap.size + 1 + 1) (.slice b n c))
  have hnn : IntKind.i64.wrap ((n : Int) + 1) = (n : Int) + 1 := IntWalk.i64_in _ (by omega)
  clear b4 b5 g6 o4 q1 q2 q3 e1 e2 e3 e4 HCV K1 K2 K3
  go_wp2
  generalize hw6 : w4.alloc (.cells #[.slice b n c] 29) = w6 at *
  clear hw6
  go_loopw [7, 8, 15] (fun _ _ i wr => ∃ (k : Nat) (s' : σ) (T' : Nat → Prop), k ≤ n + 1 ∧ i = .int .i64 k ∧ Hid (runV step (exTo p d k) s = (s', false)) ∧ Hid (Lv s') ∧ Hid (J s' T' wr ∧ Env2 u wr T' w4.heap.size w.heap.size (w.heap.size + 1) (w.heap.size + 1 + 1) (.slice b n c) (.slice a1 m1 c1) (.slice a2 m2 c2) (.slice a3 m3 c3) (.slice ad nd cd) (.func (.func F) #[] C) all) ∧ Hid (Mv T T' w wr)) (fun _ _ i _ => n + 1 - (intOf i).toNat)
  case atStart => exact ⟨0, s, T, Nat.zero_le _, rfl, H0.out, HLV.out, ⟨HJ6.out, HE6.out⟩, HM6.out⟩
  case round =>
    obtain ⟨k, s', T', hk, rfl, HX, HLS, HJE, HM⟩ := hrel
    by_cases hlt : k < n + 1
    · have hltI : (k : Int) < (n : Int) + 1 := by omega
      have t0 := blkc HJE.out.2.h0 (j := 0) rfl
      have hcall := HQ.out k 0 (.slice none 0 0) [] s' T' wr HLS.out HJE.out (.inl ⟨rfl, rfl⟩) (fun g hg => by simp [Value.ownBlock] at hg) (Nat.zero_le _) (by simp; omega) (fun y hy => by cases hy)
      rw [HRX.out k s'] at hcall
      have HGK := Lib.hid (HG.out k s' HX.out)
      have HSK := Lib.hid (HS.out k (by omega))
      generalize hX : runV step (exl p d k) s' = r at *
      obtain ⟨r1, r2⟩ := r
      have HC := Lib.hid hcall
      clear hcall hX
      go_wp2_with (go_at_call 143; refine HC.out.mono ?_; rintro e w7 ⟨rfl, T7, h1, h2⟩; cases r2)
      · have HJ7 := Lib.hid h1
        have HM7 := Lib.hid (HM.out.trans h2)
        have HLV7 := Lib.hid (show Lv r1 from by have h := HRL.out _ s HLV.out (show (runV step (exTo p d (k + 1)) s).2 = false by rw [HGK.out]); rw [HGK.out] at h; exact h)
        clear h1 h2
        go_roundw
        case rel => exact ⟨k + 1, r1, T7, by omega, by go_num, HGK.out, HLV7.out, HJ7.out, HM7.out⟩
        case measure => simp [intOf]; omega
      · have HJ7 := Lib.hid h1.1
        have HM7 := Lib.hid (HM.out.trans h2)
        have HR := Lib.hid (show (runV step (exA p d) s).1 = r1 from by rw [HSK.out (by rw [HGK.out]), HGK.out])
        clear h1 h2
        refine bodyPost_ret (results_none rfl _ _ _) rfl ?_
        exact ⟨rfl, T7, by rw [HR.out]; exact HJ7.out, HM7.out⟩
    · obtain rfl : k = n + 1 := by omega
      have HR := Lib.hid (show (runV step (exA p d) s).1 = s' from by rw [← HA.out, HX.out])
      have HJ7 := Lib.hid HJE.out.1
      go_wp2
      go_end0
      exact ⟨rfl, T', by rw [HR.out]; exact HJ7.out, HM.out⟩
end Go.Proofs.YtmkkdenhjfjmgaaGreat
namespace Go.Proofs.YtmkkdenhjfjmgaaGreat
open Go.RowKit Go.Sort
set_option maxRecDepth 100000

/-- The two variables that the visitor fills. -/
structure JF (base qo qf : Nat) (s : Option (List Int)) (T : Nat → Prop) (w : World) : Prop where
  t : ∀ g, T g ↔ g = qo ∨ g = qf
  ne : qo ≠ qf
  c : ∃ vo : Value, w.heap[qo]? = some (.cells #[vo] 29 (0, 0)) ∧ Own w base vo (s.getD []) ∧ ∀ g, vo.ownBlock = some g → ¬ T g
  f : w.heap[qf]? = some (.cells #[.bool s.isSome] 4 (0, 0))
theorem JF.lt {base qo qf : Nat} {s : Option (List Int)} {T : Nat → Prop} {w : World} (h : JF base qo qf s T w) {g : Nat} (hg : T g) : g < w.heap.size := by
  obtain ⟨vo, h1, -⟩ := h.c
  rcases (h.t g).1 hg with rfl | rfl
  · exact (Array.getElem?_eq_some_iff.1 h1).1
  · exact (Array.getElem?_eq_some_iff.1 h.f).1
theorem JF.beh {base qo qf : Nat} {s : Option (List Int)} {T : Nat → Prop} {w w' : World} (h : JF base qo qf s T w) (hb : Below w.heap.size w w') : JF base qo qf s T w' := by
  obtain ⟨vo, h1, h2, h3⟩ := h.c
  exact ⟨h.t, h.ne, ⟨vo, kept_o' h1 hb, h2.belowAll hb, h3⟩, kept_o' h.f hb⟩
set_option maxHeartbeats 1600000 in
theorem firstExp1_any {base qo qf : Nat} (s : Option (List Int)) (T : Nat → Prop) (w : World) (vl : Value) (ys : List Int) (h : JF base qo qf s T w) (ho : Own w base vl ys) (hT : ∀ g, vl.ownBlock = some g → ¬ T g) :
    Calls Tryz.prog 128 #[vl, ptr qo, ptr qf] w fun e w' => e = .returned (.bool true) ∧ MvQ (JF base qo qf) (some ys) T w w' := by
  obtain ⟨vo, h1, -, -⟩ := h.c
  have h2 := h.f
  have m1 : Mv T T w (w.setCell ⟨qo, 0, none⟩ vl) := Mv.set (.inl ((h.t qo).2 (.inl rfl))) vl
  have m2 : Mv T T (w.setCell ⟨qo, 0, none⟩ vl) ((w.setCell ⟨qo, 0, none⟩ vl).setCell ⟨qf, 0, none⟩ (.bool true)) := Mv.set (.inl ((h.t qf).2 (.inr rfl))) _
  have g1 := heap_setCell_same w qo 0 _ _ vl h1
  have g2 : (w.setCell ⟨qo, 0, none⟩ vl).heap[qf]? = some (.cells #[.bool s.isSome] 4 (0, 0)) := (heap_setCell_other w ⟨qo, 0, none⟩ qf vl (fun e => h.ne e.symm)).trans h2
  have g3 := heap_setCell_same _ qf 0 _ _ (.bool true) g2
  have g4 : ((w.setCell ⟨qo, 0, none⟩ vl).setCell ⟨qf, 0, none⟩ (.bool true)).heap[qo]? = some (.cells #[vl] 29 (0, 0)) := (heap_setCell_other _ ⟨qf, 0, none⟩ qo (.bool true) h.ne).trans g1
  have HJ := Lib.hid (show JF base qo qf (some ys) T ((w.setCell ⟨qo, 0, none⟩ vl).setCell ⟨qf, 0, none⟩ (.bool true)) from ⟨h.t, h.ne, ⟨vl, g4, ho.keptM (m1.trans m2) hT, hT⟩, g3⟩)
  have HM := Lib.hid (m1.trans m2)
  have c1 := blkc h1 (j := 0) rfl
  have c2 := blkc g2 (j := 0) rfl
  have r1 := frozen_of_row w qo 0 _ _ h1
  have r2 := frozen_of_row _ qf 0 _ _ g2
  obtain ⟨a, c, n, -, rfl, -, -, -⟩ := ho.rd.opn
  clear m1 m2 g1 g2 g3 g4 h1 h2 h ho hT
  go_enter Tryz.func128, Tryz.ntmps128
  go_wp2
  go_ret
  exact ⟨rfl, T, HJ.out, HM.out⟩
theorem visF (base qo qf : Nat) (u : World) (hu : u.heap.size = base) (p : Pln) (d : List Int) : VisU (fun _ => True) (JF base qo qf) stF 128 #[ptr qo, ptr qf] u p d where
  lt := fun _ _ _ _ h hg => h.lt hg
  beh := fun _ _ _ _ h hb => h.beh hb
  live := fun _ _ h _ => h
  call := fun s T w0 w vl ys _ hJ hb hu0 _ ho _ _ _ => by
    have hs := hu0.size
    rw [hu] at hs
    exact firstExp1_any s T w vl ys (hJ.beh hb) (ho.mono hs) fun g hg ht => by
      have h1 := hJ.lt ht
      have h2 := (ho.lt g hg).1
      omega
set_option maxHeartbeats 3200000 in
theorem firstExplanation_any (v vd : Value) (p : Pln) (d : List Int) (w : World) (hp : PlnR w v p) (hd : Rd w vd d) (hok : dwOk p d = true) (hfb : ∀ i : Nat, (lgA p i).fb.length ≤ 1100000) :
    Calls Tryz.prog 79 #[v, vd] w fun e w' => ∃ v', e = .returned (.tuple #[v', .bool (fewB p d)]) ∧ Own w' w.heap.size v' (fewL p d) ∧ Below w.heap.size w w' := by
  have HFN := Lib.hid (show IsFn 128 from isFn_of rfl rfl rfl)
  have HEX := Lib.hid (fun qo qf (T : Nat → Prop) w' hJ (hb : Below w.heap.size w w') htb => explanations_any (visF w.heap.size qo qf w rfl p d) HFN.out hok hfb hp hd none T w' trivial hJ hb htb)
  obtain ⟨a1, m1, c1, a2, m2, c2, a3, m3, c3, hv⟩ : ∃ a1 m1 c1 a2 m2 c2 a3 m3 c3, v = .agg #[.slice a1 m1 c1, .slice a2 m2 c2, .slice a3 m3 c3] := by
    obtain ⟨u1, u2, u3, e, r⟩ := id hp
    obtain ⟨a1, m1, c1, a2, m2, c2, a3, m3, c3, e1, e2, e3⟩ := PlB.slices (show PlnR w (.agg #[u1, u2, u3]) p from by rw [← e]; exact hp)
    exact ⟨a1, m1, c1, a2, m2, c2, a3, m3, c3, by rw [e, e1, e2, e3]⟩
  subst hv
  obtain ⟨ad, cd, nd, -, rfl, -, -, -⟩ := hd.opn
  have b1 := (Below.refl w.heap.size w).alloc (Nat.le_refl _) (.cells #[.slice a1 m1 c1, .slice a2 m2 c2, .slice a3 m3 c3] 38)
  have b2 := b1.alloc b1.size (.cells #[] 3)
  have b3 := b2.alloc b2.size (.cells #[.slice (some ⟨w.heap.size + 1, 0, none⟩) 0 0] 29)
  have b4 := b3.alloc b3.size (.cells #[.bool false] 4)
  have k1 := heap_alloc_new w (.cells #[.slice a1 m1 c1, .slice a2 m2 c2, .slice a3 m3 c3] 38)
  have z1 : (w.alloc (.cells #[.slice a1 m1 c1, .slice a2 m2 c2, .slice a3 m3 c3] 38)).heap.size = w.heap.size + 1 := by simp
  have z2 : ((w.alloc (.cells #[.slice a1 m1 c1, .slice a2 m2 c2, .slice a3 m3 c3] 38)).alloc (.cells #[] 3)).heap.size = w.heap.size + 1 + 1 := by simp
  have z3 : (((w.alloc (.cells #[.slice a1 m1 c1, .slice a2 m2 c2, .slice a3 m3 c3] 38)).alloc (.cells #[] 3)).alloc (.cells #[.slice (some ⟨w.heap.size + 1, 0, none⟩) 0 0] 29)).heap.size = w.heap.size + 1 + 1 + 1 := by simp
  have o2 := own_none (w.alloc (.cells #[.slice a1 m1 c1, .slice a2 m2 c2, .slice a3 m3 c3] 38)) 3
  rw [z1] at o2
  have k3 := heap_alloc_new ((w.alloc (.cells #[.slice a1 m1 c1, .slice a2 m2 c2, .slice a3 m3 c3] 38)).alloc (.cells #[] 3)) (.cells #[.slice (some ⟨w.heap.size + 1, 0, none⟩) 0 0] 29)
  rw [z2] at k3
  have k4 := heap_alloc_new (((w.alloc (.cells #[.slice a1 m1 c1, .slice a2 m2 c2, .slice a3 m3 c3] 38)).alloc (.cells #[] 3)).alloc (.cells #[.slice (some ⟨w.heap.size + 1, 0, none⟩) 0 0] 29)) (.cells #[.bool false] 4)
  rw [z3] at k4
  have x2 := (Below.refl _ ((w.alloc (.cells #[.slice a1 m1 c1, .slice a2 m2 c2, .slice a3 m3 c3] 38)).alloc (.cells #[] 3))).alloc (Nat.le_refl _) (.cells #[.slice (some ⟨w.heap.size + 1, 0, none⟩) 0 0] 29)
  have x3 := (Below.refl _ (((w.alloc (.cells #[.slice a1 m1 c1, .slice a2 m2 c2, .slice a3 m3 c3] 38)).alloc (.cells #[] 3)).alloc (.cells #[.slice (some ⟨w.heap.size + 1, 0, none⟩) 0 0] 29))).alloc (Nat.le_refl _) (.cells #[.bool false] 4)
  have o4 := (o2.belowAll x2).belowAll x3
  have HJ := Lib.hid (show JF w.heap.size (w.heap.size + 1 + 1) (w.heap.size + 1 + 1 + 1) none (fun g => g = w.heap.size + 1 + 1 ∨ g = w.heap.size + 1 + 1 + 1) ((((w.alloc (.cells #[.slice a1 m1 c1, .slice a2 m2 c2, .slice a3 m3 c3] 38)).alloc (.cells #[] 3)).alloc (.cells #[.slice (some ⟨w.heap.size + 1, 0, none⟩) 0 0] 29)).alloc (.cells #[.bool false] 4)) from
    ⟨fun g => Iff.rfl, by omega, ⟨_, kept_o' k3 x3, o4.mono (by omega), fun g hg => by
      have : w.heap.size + 1 = g := by simpa [Value.ownBlock] using hg
      omega⟩, k4⟩)
  have HB4 := Lib.hid b4
  have hlt : w.heap.size < (w.alloc (.cells #[.slice a1 m1 c1, .slice a2 m2 c2, .slice a3 m3 c3] 38)).heap.size := by omega
  have e0 := blkc k1 (j := 0) rfl
  have e1 := blkc k1 (j := 1) rfl
  have e2 := blkc k1 (j := 2) rfl
  have HRF := Lib.hid (runV_few p d)
  clear b1 b2 b3 b4 z1 z2 z3 o2 k3 k4 x2 x3 o4 hp hd hok hfb k1
  unfold fewL fewB
  generalize fewO p d = O at *
  go_enter Tryz.func79, Tryz.ntmps79
  go_wp2_with fail
  generalize (((w.alloc (.cells #[.slice a1 m1 c1, .slice a2 m2 c2, .slice a3 m3 c3] 38)).alloc (.cells #[] 3)).alloc (.cells #[.slice (some ⟨w.heap.size + 1, 0, none⟩) 0 0] 29)).alloc (.cells #[.bool false] 4) = w4 at *
  refine (HEX.out (w.heap.size + 1 + 1) (w.heap.size + 1 + 1 + 1) _ w4 HJ.out HB4.out (fun g hg => by
    have hg : g = w.heap.size + 1 + 1 ∨ g = w.heap.size + 1 + 1 + 1 := hg
    omega)).mono ?_
  rintro e w5 ⟨rfl, T5, h1, h2⟩
  rw [HRF.out] at h1
  obtain ⟨vo, q1, q2, -⟩ := h1.c
  have q3 := h1.f
  have HO := Lib.hid q2
  have HB5 := Lib.hid (h2.below HB4.out HB4.out.size (fun g hg => by
    have hg : g = w.heap.size + 1 + 1 ∨ g = w.heap.size + 1 + 1 + 1 := hg
    omega))
  have y1 := blkc q1 (j := 0) rfl
  have y2 := blkc q3 (j := 0) rfl
  obtain ⟨a7, c7, n7, -, rfl, -, -, -⟩ := q2.rd.opn
  clear h1 h2 q1 q2 q3 e0 e1 e2
  go_wp2
  go_quiet (fail)
  go_wp2
  go_ret2
  exact ⟨_, rfl, HO.out.belowAll (Dr.below ⟨_, rfl⟩ (Below.refl _ _)), Dr.below ⟨_, rfl⟩ HB5.out⟩
/-! ### FewestFailures -/
def ffR (p : Pln) (d : List Int) : List Int := if dwOk p d then fewL p d else []
def ffB (p : Pln) (d : List Int) : Bool := dwOk p d && fewB p d
def FfP (p : Pln) (d : List Int) (w : World) (e : Ending) (w' : World) : Prop := ∃ v, e = .returned (.tuple #[v, .bool (ffB p d), .bool (dwOk p d)]) ∧ Ofr w' w.heap.size (inD (ffR p d)) v ∧ Below w.heap.size w w'
set_option maxHeartbeats 1600000 in
theorem implFew_any (v vg : Value) (p : Pln) (d : List Int) (w : World) (h : PlnR w v p) (hv : Rd w vg d) (hfb : ∀ i : Nat, (lgA p i).fb.length ≤ 1100000) :
    Calls Tryz.prog 36 #[v, vg] w (FfP p d w) := by
  have HGS := Lib.hid (fun w' (hb : Below w.heap.size w w') => isDown_any v vg p d w' (h.behind hb) (hv.belowAll hb) hfb)
  have HHI := Lib.hid (fun (ho : dwOk p d = true) w' (hb : Below w.heap.size w w') => firstExplanation_any v vg p d w' (h.behind hb) (hv.belowAll hb) ho hfb)
  obtain ⟨u1, u2, u3, rfl, r1, r2, r3, hsm⟩ := h
  have hnet : NetR w (.agg #[u1, u2]) p.n := ⟨u1, u2, rfl, r1, r2, hsm⟩
  obtain ⟨⟨a1, m1, c1, rfl⟩, a2, m2, c2, rfl⟩ := slice_of_net hnet
  obtain ⟨a3, m3, c3, rfl, -, -, -, -⟩ := lgt_opn r3
  obtain ⟨ag, cg, ng, -, rfl, -, -, -⟩ := hv.opn
  obtain ⟨bx, bc, blt, -⟩ := box_facts w #[.slice a1 m1 c1, .slice a2 m2 c2, .slice a3 m3 c3] 38
  have q0 := bc 0 _ rfl
  have q1 := bc 1 _ rfl
  have q2 := bc 2 _ rfl
  have HBX := Lib.hid bx
  have HRY := Lib.hid (show dwOk p d = true → ffR p d = fewL p d from fun e => by unfold ffR; rw [if_pos e])
  have HRN := Lib.hid (show dwOk p d = false → ffR p d = [] from fun e => by unfold ffR; rw [e]; rfl)
  have HBB := Lib.hid (show ffB p d = (dwOk p d && fewB p d) from rfl)
  unfold FfP
  generalize ffR p d = R at *
  generalize ffB p d = B at *
  generalize fewL p d = H at *
  generalize fewB p d = HB at *
  clear hv r1 r2 r3 hsm hnet hfb bx bc
  go_enter Tryz.func36, Tryz.ntmps36
  go_wp2_with fail
  generalize w.alloc (.cells #[.slice a1 m1 c1, .slice a2 m2 c2, .slice a3 m3 c3] 38) = w1 at *
  have HV1 := Lib.hid (HGS.out w1 HBX.out)
  cases hok : dwOk p d
  · have HE := Lib.hid (HRN.out hok)
    have HE2 := Lib.hid (show B = false by rw [HBB.out, hok]; rfl)
    rw [hok] at HV1
    have HOK := Lib.hid hok
    clear HGS HHI HRY HRN HBB hok
    refine HV1.out.mono ?_
    rintro e w2 ⟨rfl, b2⟩
    have HB2 := Lib.hid (HBX.out.trans (b2.mono HBX.out.size))
    clear b2
    go_wp2
    refine bodyPost_ret (results_tmp3 rfl _ _ _) rfl ?_
    exact ⟨_, by rw [HOK.out, HE2.out]; rfl, by rw [HE.out]; exact Ofr.nil _ _ _, HB2.out⟩
  have HE := Lib.hid (HRY.out hok)
  have HE2 := Lib.hid (show B = HB by rw [HBB.out, hok]; rfl)
  have HH := Lib.hid (HHI.out hok)
  rw [hok] at HV1
  have HOK := Lib.hid hok
  clear HGS HHI HRY HRN HBB hok
  refine HV1.out.mono ?_
  rintro e w2 ⟨rfl, b2⟩
  have e0 := (b2.cell (p := ⟨w.heap.size, 0, none⟩) blt).trans q0
  have e1 := (b2.cell (p := ⟨w.heap.size, 1, none⟩) blt).trans q1
  have e2 := (b2.cell (p := ⟨w.heap.size, 2, none⟩) blt).trans q2
  have HB2 := Lib.hid (HBX.out.trans (b2.mono HBX.out.size))
  clear b2 q0 q1 q2
  go_wp2_with fail
  refine (HH.out w2 HB2.out).mono ?_
  rintro e w3 ⟨v3, rfl, o3, b3⟩
  obtain ⟨a5, c5, n5, -, rfl, -, -, -⟩ := o3.rd.opn
  have HB3 := Lib.hid (HB2.out.trans (b3.mono HB2.out.size))
  have HO3 := Lib.hid (o3.mono HB2.out.size)
  clear b3 o3
  go_wp2
  refine bodyPost_ret (results_tmp3 rfl _ _ _) rfl ?_
  exact ⟨_, by rw [HOK.out, HE2.out]; rfl, by rw [HE.out]; exact HO3.out.ofr, HB3.out⟩
end Go.Proofs.YtmkkdenhjfjmgaaGreat
namespace Go.Proofs.YtmkkdenhjfjmgaaGreat
open Go.RowKit Go.Sort
set_option maxRecDepth 100000

theorem uq_exl {p : Pln} {d : List Int} (hd : dwOk p d = true) (c : Nat) : (chv (sps p d) c 0 []).filter (uq (hmks p) (dmk p d)) = exl p d c := (exl_spec hd c).symm
/-- The first element of a fresh row of lists. -/
theorem GrX.first {w : World} {base lo n cap g : Nat} {T : TypeId} {x : List Int} {xs : List (List Int)} {us : List Value} {fs : List (List Nat)} (h : GrX w base lo T 1 (.slice (some ⟨g, 0, none⟩) n cap) n ((x :: xs).map inD) us fs) : ∃ u, w.cell? ⟨g, 0, none⟩ = some u ∧ Own w lo u x := by
  have h1 := h.e.ul
  have h2 := h.e.fl
  rw [List.length_map] at h1 h2
  have hu : 0 < us.length := by rw [h1]; simp
  have hf : 0 < fs.length := by rw [h2]; simp
  refine ⟨us[0], ?_, ((h.e.els 0 (inD x) us[0] fs[0] rfl (List.getElem?_eq_getElem hu) (List.getElem?_eq_getElem hf)).toOwn (fun k hk => h.e.lo k (List.mem_flatten.2 ⟨_, List.getElem_mem hf, hk⟩))).1⟩
  have := h.cells 0 _ (List.getElem?_eq_getElem hu)
  simpa [Addr.add] using this
theorem exTo_zero (p : Pln) (d : List Int) : exTo p d 0 = [] := rfl
theorem exTo_more {p : Pln} {d : List Int} {k : Nat} (h : exTo p d k = []) (h2 : exl p d k = []) : exTo p d (k + 1) = [] := by rw [exTo_succ, h, h2]; rfl
set_option maxHeartbeats 3200000 in
theorem l25Fewest_any (vh : Value) (p : Pln) (d : List Int) (w : World) (hh : Rd w vh (nats (hmks p))) (hd : dwOk p d = true) :
    Calls Tryz.prog 78 #[vh, .int .i64 (dmk p d)] w fun e w' => ∃ v', e = .returned (.tuple #[v', .bool (fewB p d)]) ∧ Own w' w.heap.size v' (fewL p d) ∧ Below w.heap.size w w' := by
  have HSU := Lib.hid (l25Suspects_any vh p d w hh hd)
  have hsz := plnOk_sz (dwOk_parts hd).1
  obtain ⟨n, HN⟩ : ∃ n, Hid ((sps p d).length = n) := ⟨_, rfl⟩
  have hn23 : n ≤ 23 := by have h1 := HN.out; have h2 := susTo_len p d (grps p.n).length; have h3 := hsz.2.2.2; unfold sps at h1; omega
  have HCH := Lib.hid (fun (k : Nat) (hk : k ≤ n) vs w' base vc (h1 : Rd w' vh (nats (hmks p))) (h2 : Rd w' vs (sps p d)) (h3 : Own w' base vc []) (h4 : base ≤ w'.heap.size) =>
    l25Choose_any (hmks p) (sps p d) (dmk p d) (fun m hm => Nat.lt_of_lt_of_le (hmks_mem p m hm) (Nat.pow_le_pow_right (by omega) hsz.2.1)) (fun i hi => by unfold hmks; rw [List.length_map]; exact sps_bd (fun y hy => hy) i hi) (by rw [HN.out]; exact hn23) k 0 vh vs vc [] base w' h1 h2 h3 h4 (Nat.zero_le _) (by simp; omega) (fun i hi => by cases hi))
  have HUX := Lib.hid (fun c => @uq_exl p d hd c)
  have HHR := Lib.hid (fun w' (hb : Below w.heap.size w w') => hh.belowAll hb)
  have HFA := Lib.hid (fun k hk h0 x xs h => @few_at p d k hk h0 x xs h)
  have HFN := Lib.hid (@few_none p d)
  rw [HN.out] at HFA HFN
  obtain ⟨ah, ch, nh, -, rfl, -, -, -⟩ := hh.opn
  unfold fewL fewB
  generalize fewO p d = O at *
  generalize dmk p d = M at *
  clear hsz hh hd
  go_enter Tryz.func78, Tryz.ntmps78
  go_wp2_with fail
  refine HSU.out.mono ?_
  rintro e w2 ⟨v2, rfl, o2, b2⟩
  have HRS := Lib.hid (fun w' (hb : Below w2.heap.size w2 w') => o2.rd.belowAll hb)
  obtain ⟨a7, c7, n7, HN7, rfl, -, -, -⟩ := o2.rd.opn
  obtain rfl : n = n7 := by have := HN.out; have := HN7.out; omega
  have HB2 := Lib.hid b2
  clear b2 o2 HSU
  go_wp2
  go_loopw [7, 8] (fun i _ wr => ∃ (k : Nat), k ≤ n + 1 ∧ i = .int .i64 k ∧ Hid (exTo p d k = []) ∧ Hid (Below w2.heap.size w2 wr)) (fun i _ _ => n + 1 - (intOf i).toNat)
  case atStart => exact ⟨0, Nat.zero_le _, rfl, exTo_zero p d, Below.refl _ _⟩
  case round =>
    obtain ⟨k, hk, rfl, HX, HB⟩ := hrel
    have HBW := Lib.hid (HB2.out.trans (HB.out.mono HB2.out.size))
    by_cases hlt : k ≤ n
    · have hltI : (k : Int) ≤ (n : Int) := by omega
      have hb1 := (Below.refl wr.heap.size wr).alloc (Nat.le_refl _) (.cells #[] 3)
      have hcall := HCH.out k hlt (.slice a7 n c7) (wr.alloc (.cells #[] 3)) w.heap.size (.slice (some ⟨wr.heap.size, 0, none⟩) 0 0) (HHR.out _ (HBW.out.trans (hb1.mono HBW.out.size))) (HRS.out _ (HB.out.trans (hb1.mono HB.out.size))) ((own_none wr 3).mono HBW.out.size) (Nat.le_trans HBW.out.size hb1.size)
      rw [HUX.out k] at hcall
      have HC := Lib.hid hcall
      have HB1 := Lib.hid (HB.out.trans (hb1.mono HB.out.size))
      have HF1 := Lib.hid (HFA.out k hlt HX.out)
      have HX1 := Lib.hid (@exTo_more p d k HX.out)
      generalize exl p d k = L at *
      clear hcall hb1 hlt
      go_wp2_with fail
      generalize wr.alloc (.cells #[] 3) = w3 at *
      refine HC.out.mono ?_
      rintro e w4 ⟨v4, rfl, h4⟩
      obtain ⟨g, m, cap, us, fs, rfl, hm, hG, b4⟩ := h4
      have HB4 := Lib.hid (HB1.out.trans (b4.mono HB1.out.size))
      clear b4
      cases L with
      | nil =>
        obtain rfl : m = 0 := by simpa using hm.symm
        have HE := Lib.hid (HX1.out rfl)
        clear hG hm
        go_wp2
        go_roundw
        case rel => exact ⟨k + 1, by omega, by go_num, HE.out, HB4.out⟩
        case measure => simp [intOf]; omega
      | cons x xs =>
        have HO := Lib.hid (HF1.out x xs rfl)
        obtain ⟨u, hu, ho⟩ := hG.first
        have hm0 : 0 < m := by rw [← hm]; simp
        have hmI : (0 : Int) < (m : Int) := by omega
        have HOW := Lib.hid ho
        have HB5 := Lib.hid (HB2.out.trans (HB4.out.mono HB2.out.size))
        obtain ⟨a5, c5, n5, -, rfl, -, -, -⟩ := ho.rd.opn
        clear hG hm ho
        go_wp2
        go_ret2
        exact ⟨_, by rw [HO.out]; rfl, by rw [HO.out]; exact HOW.out, HB5.out⟩
    · obtain rfl : k = n + 1 := by omega
      have HO := Lib.hid (HFN.out HX.out)
      have hltI : ¬ ((n : Int) + 1) ≤ (n : Int) := by omega
      have HON := Lib.hid ((own_none wr 3).mono HBW.out.size)
      have HB5 := Lib.hid (HBW.out.alloc HBW.out.size (.cells #[] 3))
      clear hlt
      go_wp2
      go_ret2
      exact ⟨_, by rw [HO.out]; rfl, by rw [HO.out]; exact HON.out, HB5.out⟩
set_option maxHeartbeats 1600000 in
theorem specFew_any (v vg : Value) (p : Pln) (d : List Int) (w : World) (h : PlnR w v p) (hv : Rd w vg d) (hfb : ∀ i : Nat, (lgA p i).fb.length ≤ 1100000) :
    Calls Tryz.prog 35 #[v, vg] w (FfP p d w) := by
  have HDW := Lib.hid (fun w' (hb : Below w.heap.size w w') => l25Down_any v vg p d w' (h.behind hb) (hv.belowAll hb) hfb)
  have HHI := Lib.hid (fun (ho : dwOk p d = true) w' (hb : Below w.heap.size w w') => l25Hits_any v p w' (h.behind hb) (plnOk_sz (dwOk_parts ho).1).2.2.1 (plnOk_sz (dwOk_parts ho).1).2.1)
  have HSU := Lib.hid (fun (ho : dwOk p d = true) w' vh (hh : Rd w' vh (nats (hmks p))) => l25Fewest_any vh p d w' hh ho)
  obtain ⟨u1, u2, u3, rfl, r1, r2, r3, hsm⟩ := h
  have hnet : NetR w (.agg #[u1, u2]) p.n := ⟨u1, u2, rfl, r1, r2, hsm⟩
  obtain ⟨⟨a1, m1, c1, rfl⟩, a2, m2, c2, rfl⟩ := slice_of_net hnet
  obtain ⟨a3, m3, c3, rfl, -, -, -, -⟩ := lgt_opn r3
  obtain ⟨ag, cg, ng, -, rfl, -, -, -⟩ := hv.opn
  obtain ⟨bx, bc, blt, -⟩ := box_facts w #[.slice a1 m1 c1, .slice a2 m2 c2, .slice a3 m3 c3] 38
  have q0 := bc 0 _ rfl
  have q1 := bc 1 _ rfl
  have q2 := bc 2 _ rfl
  have HBX := Lib.hid bx
  have HRY := Lib.hid (show dwOk p d = true → ffR p d = fewL p d from fun e => by unfold ffR; rw [if_pos e])
  have HRN := Lib.hid (show dwOk p d = false → ffR p d = [] from fun e => by unfold ffR; rw [e]; rfl)
  have HBB := Lib.hid (show ffB p d = (dwOk p d && fewB p d) from rfl)
  have HDR := Lib.hid (show dwOk p d = true → dwR p d = dmk p d from fun e => by unfold dwR; rw [if_pos e])
  unfold FfP
  unfold DwP at HDW
  generalize ffR p d = R at *
  generalize ffB p d = B at *
  generalize fewL p d = H at *
  generalize fewB p d = HB at *
  generalize dwR p d = M0 at *
  clear hv r1 r2 r3 hsm hnet hfb bx bc
  go_enter Tryz.func35, Tryz.ntmps35
  go_wp2_with fail
  generalize w.alloc (.cells #[.slice a1 m1 c1, .slice a2 m2 c2, .slice a3 m3 c3] 38) = w1 at *
  have HV1 := Lib.hid (HDW.out w1 HBX.out)
  cases hok : dwOk p d
  · have HE := Lib.hid (HRN.out hok)
    have HE2 := Lib.hid (show B = false by rw [HBB.out, hok]; rfl)
    rw [hok] at HV1
    have HOK := Lib.hid hok
    clear HDW HHI HSU HRY HRN HDR HBB hok
    refine HV1.out.mono ?_
    rintro e w2 ⟨rfl, b2⟩
    have HB2 := Lib.hid (HBX.out.trans (b2.mono HBX.out.size))
    have HON := Lib.hid (own_none w2 3)
    have HB3 := Lib.hid (HB2.out.alloc HB2.out.size (.cells #[] 3))
    have HSZ := Lib.hid HB2.out.size
    clear b2
    go_wp2
    refine bodyPost_ret (results_tmp3 rfl _ _ _) rfl ?_
    exact ⟨_, by rw [HOK.out, HE2.out]; rfl, by rw [HE.out]; exact (HON.out.mono HSZ.out).ofr, HB3.out⟩
  have HE := Lib.hid (HRY.out hok)
  have HE2 := Lib.hid (show B = HB by rw [HBB.out, hok]; rfl)
  have HH := Lib.hid (HHI.out hok)
  have HS := Lib.hid (HSU.out hok)
  have HMM := HDR.out hok
  rw [hok, HMM] at HV1
  have HOK := Lib.hid hok
  clear HDW HHI HSU HRY HRN HDR hok HMM HBB
  generalize dmk p d = M at *
  refine HV1.out.mono ?_
  rintro e w2 ⟨rfl, b2⟩
  have e0 := (b2.cell (p := ⟨w.heap.size, 0, none⟩) blt).trans q0
  have e1 := (b2.cell (p := ⟨w.heap.size, 1, none⟩) blt).trans q1
  have e2 := (b2.cell (p := ⟨w.heap.size, 2, none⟩) blt).trans q2
  have HB2 := Lib.hid (HBX.out.trans (b2.mono HBX.out.size))
  clear b2 q0 q1 q2
  go_wp2_with fail
  refine (HH.out w2 HB2.out).mono ?_
  rintro e w3 ⟨v3, rfl, o3, b3⟩
  have HB3 := Lib.hid (HB2.out.trans (b3.mono HB2.out.size))
  have HS3 := Lib.hid (HS.out w3 v3 o3.rd)
  obtain ⟨a5, c5, n5, -, rfl, -, -, -⟩ := o3.rd.opn
  clear b3 o3
  go_wp2_with fail
  refine HS3.out.mono ?_
  rintro e w4 ⟨v4, rfl, o4, b4⟩
  obtain ⟨a7, c7, n7, -, rfl, -, -, -⟩ := o4.rd.opn
  have HB4 := Lib.hid (HB3.out.trans (b4.mono HB3.out.size))
  have HO4 := Lib.hid (o4.mono HB3.out.size)
  clear b4 o4
  go_wp2
  refine bodyPost_ret (results_tmp3 rfl _ _ _) rfl ?_
  exact ⟨_, by rw [HOK.out, HE2.out]; rfl, by rw [HE.out]; exact HO4.out.ofr, HB4.out⟩
theorem exA_mem {p : Pln} {d x : List Int} (hd : dwOk p d = true) (h : x ∈ exA p d) : x.length ≤ 23 ∧ (∀ g ∈ x, g ∈ sps p d) ∧ expB p d x = true := by
  unfold exA exTo at h
  obtain ⟨k, hk, hx⟩ := List.mem_flatMap.1 h
  have hk := List.mem_range.1 hk
  have h1 := (List.mem_filter.1 hx)
  have h2 := (chv_mem h1.1).1
  have h3 := susTo_len p d (grps p.n).length
  have h4 := (plnOk_sz (dwOk_parts hd).1).2.2.2
  refine ⟨?_, exl_sus hx, h1.2⟩
  unfold sps at hk
  simp at h2
  omega
theorem ffR_len {p : Pln} {d : List Int} : (ffR p d).length ≤ 23 := by
  unfold ffR
  split
  · rename_i h
    unfold fewL fewO
    cases e : exA p d with
    | nil => simp
    | cons x xs => exact (exA_mem h (by rw [e]; simp)).1
  · simp
end Go.Proofs.YtmkkdenhjfjmgaaGreat
namespace Go.Proofs.YtmkkdenhjfjmgaaGreat
open Go.RowKit Go.Sort Go.Lib

theorem deleteI_own (v : Value) (xs : List Int) (base : Nat) (w : World) (k : Nat) (h : Own w base v xs) (hk : k < xs.length) :
    Calls Tryz.prog 94 #[v, .int .i64 k, .int .i64 ((k : Int) + 1)] w fun e w' => ∃ v', e = .returned v' ∧ v'.ownBlock = v.ownBlock ∧ Own w' base v' (xs.eraseIdx k) ∧ w.grownBy w' v.ownBlock := by
  have h0 := h
  rcases h with ⟨rfl, rfl⟩ | ⟨g, off, cap, cur, rfl, hb, ⟨T, hg⟩, h1, h2, h3, h4⟩
  · simp at hk
  · have hc := Tryz.slices_Delete_int g off cap k (k + 1) xs w h0.holds h1 (by unfold maxLen at h2; omega) (by omega) (by omega)
    rw [show ((k + 1 : Nat) : Int) = (k : Int) + 1 from by omega] at hc
    refine hc.mono ?_
    rintro e w' ⟨rfl, q, rfl⟩
    have hT : (xs.take k ++ xs.drop (k + 1) ++ List.replicate (k + 1 - k) 0).length = xs.length := by simp; omega
    have := h0.putRow (q := q) (os := #[]) (ts := xs.take k ++ xs.drop (k + 1) ++ List.replicate (k + 1 - k) 0) (m := xs.length - (k + 1 - k)) hT (by omega)
    rw [List.take_left' (by simp; omega), grow_empty] at this
    have g2 := grownBy_putRow (w := w) (g := g) (off := off) (n := q) (os := #[]) (xs.take k ++ xs.drop (k + 1) ++ List.replicate (k + 1 - k) 0).toArray
    rw [grow_empty] at g2
    exact ⟨_, rfl, rfl, by rw [List.eraseIdx_eq_take_drop_succ]; exact this, g2⟩
theorem cloneI_own (v : Value) (xs : List Int) (w : World) (h : Rd w v xs) (h0 : 0 < xs.length) (hl : xs.length ≤ 1000000) :
    Calls Tryz.prog 95 #[v] w fun e w' => ∃ v', e = .returned v' ∧ Own w' w.heap.size v' xs ∧ Below w.heap.size w w' := by
  rcases h with ⟨_, h⟩ | ⟨b, off, cap, rfl, h1, h2, h3, h4⟩
  · rw [h] at h0; simp at h0
  · refine (Tryz.slices_Clone_int b off xs.length cap xs w (Nat.le_refl _) (by omega) (fun j hj => by rw [h4 j hj]; simp [hj])).mono ?_
    rintro e w' ⟨v', rfl, r, -, hb⟩
    rw [List.take_length] at r
    exact ⟨_, rfl, own_of_row r, hb⟩
end Go.Proofs.YtmkkdenhjfjmgaaGreat
namespace Go.Proofs.YtmkkdenhjfjmgaaGreat
open Go.RowKit Go.Sort
set_option maxRecDepth 100000

theorem needB_no {p : Pln} {d ys : List Int} {k : Nat} (hk : k < ys.length) (h : expB p d (ys.eraseIdx k) = true) : needB p d ys = false := by
  unfold needB
  rw [show (List.range ys.length).any (fun k => expB p d (ys.eraseIdx k)) = true from List.any_eq_true.2 ⟨k, List.mem_range.2 hk, h⟩]; rfl
theorem needB_yes {p : Pln} {d ys : List Int} (h : ∀ k, k < ys.length → expB p d (ys.eraseIdx k) = false) : needB p d ys = true := by
  unfold needB
  rw [show (List.range ys.length).any (fun k => expB p d (ys.eraseIdx k)) = false from by rw [List.any_eq_false]; intro k hk; rw [h k (List.mem_range.1 hk)]; simp]; rfl
theorem stM_no {p : Pln} {d ys : List Int} {s : List (List Int)} (h : needB p d ys = false) : stM p d s ys = (s, false) := by unfold stM; rw [h]; rfl
theorem stM_yes {p : Pln} {d ys : List Int} {s : List (List Int)} (h : needB p d ys = true) : stM p d s ys = (s ++ [ys], decide (40 < s.length + 1)) := by unfold stM; rw [if_pos h]
/-- The visitor's variables. -/
structure JMs (base bo bp bd : Nat) (a1 a2 a3 vd : Value) (s : List (List Int)) (T : Nat → Prop) (w : World) (g m cap : Nat) (us : List Value) (fs : List (List Nat)) : Prop where
  t : ∀ q, T q ↔ q = bo ∨ q = g
  ho : w.heap[bo]? = some (.cells #[.slice (some ⟨g, 0, none⟩) m cap] 63 (0, 0))
  hg : GrX w base (bo + 1) 29 1 (.slice (some ⟨g, 0, none⟩) m cap) m (s.map inD) us fs
  ne : g ≠ bo
  ml : s.length = m
  hp : w.heap[bp]? = some (.cells #[a1, a2, a3] 38 (0, 0))
  hd : w.heap[bd]? = some (.cells #[vd] 29 (0, 0))
  np : ¬ T bp
  nd : ¬ T bd
def JM (base bo bp bd : Nat) (a1 a2 a3 vd : Value) (s : List (List Int)) (T : Nat → Prop) (w : World) : Prop := ∃ g m cap us fs, JMs base bo bp bd a1 a2 a3 vd s T w g m cap us fs
theorem JMs.below {base bo bp bd : Nat} {a1 a2 a3 vd : Value} {s : List (List Int)} {T : Nat → Prop} {w w' : World} {g m cap : Nat} {us : List Value} {fs : List (List Nat)} (h : JMs base bo bp bd a1 a2 a3 vd s T w g m cap us fs) (hb : Below w.heap.size w w') : JMs base bo bp bd a1 a2 a3 vd s T w' g m cap us fs :=
  ⟨h.t, kept_o' h.ho hb, h.hg.below hb, h.ne, h.ml, kept_o' h.hp hb, kept_o' h.hd hb, h.np, h.nd⟩
theorem JMs.lt {base bo bp bd : Nat} {a1 a2 a3 vd : Value} {s : List (List Int)} {T : Nat → Prop} {w : World} {g m cap : Nat} {us : List Value} {fs : List (List Nat)} (h : JMs base bo bp bd a1 a2 a3 vd s T w g m cap us fs) {q : Nat} (hq : T q) : q < w.heap.size := by
  rcases (h.t q).1 hq with rfl | rfl
  · exact (Array.getElem?_eq_some_iff.1 h.ho).1
  · exact h.hg.lt q (.inl rfl)
theorem Mv.grown {T : Nat → Prop} {w w' : World} {v : Value} {g g' bo : Nat} (h : w.grownBy w' v.ownBlock) (hv : v.ownBlock = some g) (ht : ∀ q, T q ↔ q = bo ∨ q = g) (hat : v.ownBlock = some g' ∨ g' = w.heap.size) : Mv T (fun q => q = bo ∨ q = g') w w' :=
  ⟨h.os, h.tape, h.output, h.size, fun q hq hn => h.block q hq (fun e => hn ((ht q).2 (.inr (by rw [hv] at e; exact Option.some.inj e)))), fun q hq => by
    rcases hq with hq | hq
    · exact .inl ((ht q).2 (.inl hq))
    · rcases hat with e | e
      · exact .inl ((ht q).2 (.inr (by rw [hv] at e; rw [hq]; exact (Option.some.inj e).symm)))
      · exact .inr (by rw [hq, e]; exact Nat.le_refl _)⟩
set_option maxHeartbeats 6400000 in
theorem minExp1_any {base bo bp bd : Nat} {a1 a2 a3 vd : Value} {u : World} {p : Pln} {d : List Int} (hp : PlnR u (.agg #[a1, a2, a3]) p) (hd : Rd u vd d) (hok : dwOk p d = true) (hfb : ∀ i : Nat, (lgA p i).fb.length ≤ 1100000)
    (s : List (List Int)) (T : Nat → Prop) (w0 w : World) (vl : Value) (ys : List Int) (hs : s.length ≤ 40) (h : JM base bo bp bd a1 a2 a3 vd s T w0) (hb0 : Below w0.heap.size w0 w) (hu : Below u.heap.size u w) (hub : base ≤ w.heap.size) (ho : Own w w0.heap.size vl ys) (hy : ∀ y ∈ ys, y ∈ sps p d) (hyl : ys.length ≤ 23) :
    Calls Tryz.prog 93 #[vl, ptr bp, ptr bd, ptr bo] w fun e w' => e = .returned (.bool (stM p d s ys).2) ∧ MvQ (JM base bo bp bd a1 a2 a3 vd) (stM p d s ys).1 T w w' := by
  obtain ⟨g, m, cap, us, fs, h0⟩ := h
  have hj := h0.below hb0
  have hlt0 : ∀ q, (q = bo ∨ q = g) → q < w0.heap.size := fun q hq => h0.lt ((h0.t q).2 hq)
  have HEXP := Lib.hid (fun k w' (hb : Below u.heap.size u w') v' (hv : Rd w' v' (ys.eraseIdx k)) => explains_any (.agg #[a1, a2, a3]) vd v' p d (ys.eraseIdx k) w' (hp.behind hb) (hd.belowAll hb) hv (dwOk_parts hok).1 hfb (sps_bd fun y hy' => hy y (List.mem_of_mem_eraseIdx hy')) (by have := List.length_eraseIdx_le ys k; omega))
  have HCLN := Lib.hid (fun w' (hb : Below w.heap.size w w') h1 => cloneI_own vl ys w' (ho.rd.belowAll hb) h1 (by omega))
  have HDEL := Lib.hid (fun v base' w' k h1 h2 => deleteI_own v ys base' w' k h1 h2)
  have HSN := Lib.hid (fun k h1 h2 => @stM_no p d ys s (@needB_no p d ys k h1 h2))
  have HSY := Lib.hid (fun h1 => @stM_yes p d ys s (@needB_yes p d ys h1))
  have HJ := Lib.hid hj
  have HU := Lib.hid hu
  have HUB := Lib.hid hub
  have HO := Lib.hid ho
  have hfs0 : ∀ q ∈ fs.flatten, q < w0.heap.size := fun q hq => h0.hg.lt q (.inr hq)
  have hbo : bo < w0.heap.size := hlt0 bo (.inl rfl)
  have hgl : g < w0.heap.size := hlt0 g (.inr rfl)
  obtain ⟨fp, hels, hfp⟩ := ho.els (show bo + 1 ≤ w0.heap.size from hbo)
  have HELS := Lib.hid hels
  have HFP := Lib.hid (show ∀ k ∈ [fp].flatten, k ∉ fs.flatten ∧ (Value.slice (some ⟨g, 0, none⟩) m cap).ownBlock ≠ some k from fun k hk => by
    have h1 := (hfp k (by simpa using hk)).1
    exact ⟨fun e => by have := hfs0 k e; omega, fun e => by
      have h2 : g = k := by simpa [Value.ownBlock] using e
      omega⟩)
  have hml := hj.ml
  have hm40 : m ≤ 40 := by omega
  obtain ⟨b1, m1, c1, b2, m2, c2, b3, m3, c3, rfl, rfl, rfl⟩ := PlB.slices hp
  obtain ⟨ad, cd, nd, -, rfl, -, -, -⟩ := hd.opn
  obtain ⟨al, cl, nl, HNL, rfl, -, hnl, -⟩ := ho.rd.opn
  have e0 := blkc hj.hp (j := 0) rfl
  have e1 := blkc hj.hp (j := 1) rfl
  have e2 := blkc hj.hp (j := 2) rfl
  have e3 := blkc hj.hd (j := 0) rfl
  have e4 := blkc hj.ho (j := 0) rfl
  have lp := World.block_lt_of_cell? _ _ e0
  have ld := World.block_lt_of_cell? _ _ e3
  have lo := World.block_lt_of_cell? _ _ e4
  rw [HNL.out] at HSN HSY HCLN HDEL
  have hn23 : nl ≤ 23 := by have := HNL.out; omega
  generalize stM p d s ys = r at *
  clear h0 hj hlt0 hp hd hu ho hy hyl hels hfp hub hfb hok hml
  go_enter Tryz.func93, Tryz.ntmps93
  go_wp2
  go_loopw [6, 9] (fun _ i wr => ∃ k : Nat, k ≤ nl ∧ i = .int .i64 k ∧ Hid (∀ j, j < k → expB p d (ys.eraseIdx j) = false) ∧ Hid (Below w.heap.size w wr)) (fun _ i _ => nl - (intOf i).toNat)
  case atStart => exact ⟨0, Nat.zero_le _, rfl, fun j hj => absurd hj (Nat.not_lt_zero j), Below.refl _ _⟩
  case round =>
    obtain ⟨k, hk, rfl, HK, HB⟩ := hrel
    by_cases hlt : k < nl
    · have hltI : (k : Int) < (nl : Int) := by omega
      have hwk : IntKind.i64.wrap ((k : Int) + 1) = (k : Int) + 1 := IntWalk.i64_in _ (by omega)
      have g0 := (HB.out.cell (p := ⟨bp, 0, none⟩) lp).trans e0
      have g1 := (HB.out.cell (p := ⟨bp, 1, none⟩) lp).trans e1
      have g2 := (HB.out.cell (p := ⟨bp, 2, none⟩) lp).trans e2
      have g3 := (HB.out.cell (p := ⟨bd, 0, none⟩) ld).trans e3
      have lp' := Nat.lt_of_lt_of_le lp HB.out.size
      have ld' := Nat.lt_of_lt_of_le ld HB.out.size
      have HBU := Lib.hid (HU.out.trans (HB.out.mono HU.out.size))
      have HS := Lib.hid (fun (w' : World) (hb : Below wr.heap.size wr w') => show Below wr.heap.size wr w' ∧ w'.cell? ⟨bp, 0, none⟩ = some (.slice b1 m1 c1) ∧ w'.cell? ⟨bp, 1, none⟩ = some (.slice b2 m2 c2) ∧ w'.cell? ⟨bp, 2, none⟩ = some (.slice b3 m3 c3) ∧ w'.cell? ⟨bd, 0, none⟩ = some (.slice ad nd cd) from
        ⟨hb, (hb.cell lp').trans g0, (hb.cell lp').trans g1, (hb.cell lp').trans g2, (hb.cell ld').trans g3⟩)
      have HC1 := Lib.hid (fun (w' : World) (hb : Below wr.heap.size wr w') => (HCLN.out w' (HB.out.trans (hb.mono HB.out.size)) (by omega)).mono (show ∀ (e : Ending) (w5 : World), (∃ v', e = .returned v' ∧ Own w5 w'.heap.size v' ys ∧ Below w'.heap.size w' w5) → (∃ v', e = .returned v' ∧ Own w5 wr.heap.size v' ys ∧ Below wr.heap.size wr w5) from fun e w5 ⟨v', h1, h2, h3⟩ => ⟨v', h1, h2.mono hb.size, hb.trans (h3.mono hb.size)⟩))
      have HX1 := Lib.hid (fun (w' : World) (hb : Below wr.heap.size wr w') v' (hv : Rd w' v' (ys.eraseIdx k)) => (HEXP.out k w' (HBU.out.trans (hb.mono HBU.out.size)) v' hv).mono (show ∀ (e : Ending) (w5 : World), (e = .returned (.bool (expB p d (ys.eraseIdx k))) ∧ Below w'.heap.size w' w5) → (e = .returned (.bool (expB p d (ys.eraseIdx k))) ∧ Below wr.heap.size wr w5) from fun e w5 ⟨h1, h2⟩ => ⟨h1, hb.trans (h2.mono hb.size)⟩))
      have HD1 := Lib.hid (fun v w' h1 => HDEL.out v wr.heap.size w' k h1 hlt)
      have HSK := Lib.hid (HSN.out k hlt)
      have HST := Lib.hid (fun h => upto_not (P := fun j => expB p d (ys.eraseIdx j) = false) HK.out (k := k) h)
      have s0 : Below wr.heap.size wr wr.drew := (Below.refl wr.heap.size wr).drew
      clear g0 g1 g2 g3 hlt
      cases hx : expB p d (ys.eraseIdx k)
      · have HS2 := Lib.hid (HST.out hx)
        rw [hx] at HX1
        clear hx HST
        go_wp2
        go_region_held3 (fun w' => Below wr.heap.size wr w' ∧ w'.cell? ⟨bp, 0, none⟩ = some (.slice b1 m1 c1) ∧ w'.cell? ⟨bp, 1, none⟩ = some (.slice b2 m2 c2) ∧ w'.cell? ⟨bp, 2, none⟩ = some (.slice b3 m3 c3) ∧ w'.cell? ⟨bd, 0, none⟩ = some (.slice ad nd cd))
          (first | exact HS.out _ (by assumption))
          (first
            | (go_at_call 95; (with_reducible refine (HC1.out _ (And.left (by assumption))).mono ?_); rintro e w7 ⟨v7, rfl, o7, s7⟩; obtain ⟨a7, c7, n7, -, rfl, -⟩ := o7.rd.opn)
            | (go_at_call 94; (with_reducible refine (HD1.out _ _ o7).mono ?_); rintro e w8 ⟨v8, rfl, q8, o8, g8⟩; have s8 := s7.grown g8 s7.size (fun q hq => (o7.lt q hq).1); obtain ⟨a8, c8, n8, -, rfl, -⟩ := o8.rd.opn)
            | (go_at_call 70; (with_reducible refine (HX1.out _ s8 _ o8.rd).mono ?_); rintro e w9 ⟨rfl, s9⟩))
        have HB9 := Lib.hid (HB.out.trans (s9.mono HB.out.size))
        clear o7 o8 g8 s7 s8 q8 s9 s0 hwk
        go_wp2
        go_roundw
        case rel => exact ⟨k + 1, by omega, by go_num, HS2.out, HB9.out⟩
        case measure => simp [intOf]; omega
      · have HR := Lib.hid (HSK.out hx)
        rw [hx] at HX1
        clear hx HST
        go_wp2
        go_region_held3 (fun w' => Below wr.heap.size wr w' ∧ w'.cell? ⟨bp, 0, none⟩ = some (.slice b1 m1 c1) ∧ w'.cell? ⟨bp, 1, none⟩ = some (.slice b2 m2 c2) ∧ w'.cell? ⟨bp, 2, none⟩ = some (.slice b3 m3 c3) ∧ w'.cell? ⟨bd, 0, none⟩ = some (.slice ad nd cd))
          (first | exact HS.out _ (by assumption))
          (first
            | (go_at_call 95; (with_reducible refine (HC1.out _ (And.left (by assumption))).mono ?_); rintro e w7 ⟨v7, rfl, o7, s7⟩; obtain ⟨a7, c7, n7, -, rfl, -⟩ := o7.rd.opn)
            | (go_at_call 94; (with_reducible refine (HD1.out _ _ o7).mono ?_); rintro e w8 ⟨v8, rfl, q8, o8, g8⟩; have s8 := s7.grown g8 s7.size (fun q hq => (o7.lt q hq).1); obtain ⟨a8, c8, n8, -, rfl, -⟩ := o8.rd.opn)
            | (go_at_call 70; (with_reducible refine (HX1.out _ s8 _ o8.rd).mono ?_); rintro e w9 ⟨rfl, s9⟩))
        have HB9 := Lib.hid (HB.out.trans (s9.mono HB.out.size))
        clear o7 o8 g8 s7 s8 q8 s9 s0 hwk
        go_wp2
        go_ret
        exact ⟨by rw [HR.out]; rfl, T, by rw [HR.out]; exact ⟨g, m, cap, us, fs, HJ.out.below HB9.out⟩, Mv.of_below HB9.out⟩
    · obtain rfl : nl = k := by omega
      have HR := Lib.hid (HSY.out HK.out)
      have hjr := HJ.out.below HB.out
      have b5 := (Below.refl wr.heap.size wr).alloc (Nat.le_refl _) (.cells #[.slice al nl cl] 29)
      have HJ5 := Lib.hid (hjr.below b5)
      have HE5 := Lib.hid ((HELS.out.below HB.out).below b5)
      have HCL := Lib.hid (cell_one_new wr (.slice al nl cl) 29)
      have f0 := blkc hjr.ho (j := 0) rfl
      have HMB := Lib.hid ((Mv.of_below (T := T) HB.out).trans (Mv.of_below b5))
      have hsz : bo < (wr.alloc (.cells #[.slice al nl cl] 29)).heap.size := Nat.lt_of_lt_of_le lo (Nat.le_trans HB.out.size b5.size)
      have hbs : base ≤ (wr.alloc (.cells #[.slice al nl cl] 29)).heap.size := Nat.le_trans HUB.out (Nat.le_trans HB.out.size b5.size)
      have HSZ := Lib.hid hsz
      have HBS := Lib.hid hbs
      clear b5 hjr hsz hbs e0 e1 e2 e3 e4
      go_wp2_with (at_builtin; go_loud (refine wpList_grx rfl (.tmp 22) (.tmp 24) 63 29 rfl Tryz.underlying63 (.slice none 0 0) 1 24 Tryz.infoRows rfl (by decide) base (bo + 1) m (.slice (some ⟨g, 0, none⟩) m cap) (s.map inD) [inD ys] us [.slice al nl cl] fs [fp] rfl (by simp) HJ5.out.hg HBS.out ⟨wr.heap.size, 0, none⟩ 1 1 rfl rfl HCL.out (by simp [Value.oneCell']) HE5.out HFP.out (by unfold maxLen; omega) (by omega) ?_); intro g8 cap8 w8 G8 gr8 at8; have hb8 := (gr8.block bo HSZ.out (by simp [Value.ownBlock]; exact fun e => HJ.out.ne e.symm)).trans HJ5.out.ho; have c8 := blkc hb8 (j := 0) rfl; have r8 := frozen_of_row _ bo 0 _ _ hb8; have x8 := fun x => World.cell?_setCell_same w8 ⟨bo, 0, none⟩ x c8)
      have HG8 := Lib.hid G8
      have HGR := Lib.hid gr8
      have HAT := Lib.hid at8
      have HB8 := Lib.hid hb8
      clear G8 gr8 at8 hb8 c8 r8 x8
      go_ret
      have hml := HJ.out.ml
      have hjt := HJ5.out.t
      have hg8 : g8 = g ∨ g8 = (wr.alloc (.cells #[.slice al nl cl] 29)).heap.size := HAT.out.imp (fun e => by simpa [Value.ownBlock] using e.symm) id
      have hne : g8 ≠ bo := fun e => by
        have h1 := HSZ.out
        have h2 := HJ.out.ne
        rcases hg8 with h | h
        · exact h2 (h.symm.trans e)
        · omega
      have hbp : bp ≠ bo ∧ bp ≠ g := ⟨fun e => HJ.out.np ((HJ.out.t bp).2 (.inl e)), fun e => HJ.out.np ((HJ.out.t bp).2 (.inr e))⟩
      have hbd : bd ≠ bo ∧ bd ≠ g := ⟨fun e => HJ.out.nd ((HJ.out.t bd).2 (.inl e)), fun e => HJ.out.nd ((HJ.out.t bd).2 (.inr e))⟩
      have lp5 := (Array.getElem?_eq_some_iff.1 HJ5.out.hp).1
      have ld5 := (Array.getElem?_eq_some_iff.1 HJ5.out.hd).1
      have kept : ∀ q X, q < (wr.alloc (.cells #[.slice al nl cl] 29)).heap.size → q ≠ bo → q ≠ g → (wr.alloc (.cells #[.slice al nl cl] 29)).heap[q]? = X → (w8.setCell ⟨bo, 0, none⟩ (.slice (some ⟨g8, 0, none⟩) (m + 1) cap8)).heap[q]? = X := fun q X h1 h2 h3 h4 =>
        (heap_setCell_other w8 ⟨bo, 0, none⟩ q _ h2).trans ((HGR.out.block q h1 (by simp [Value.ownBlock]; exact h3)).trans h4)
      have HJM8 : JMs base bo bp bd (.slice b1 m1 c1) (.slice b2 m2 c2) (.slice b3 m3 c3) (.slice ad nd cd) (s ++ [ys]) (fun q => q = bo ∨ q = g8) (w8.setCell ⟨bo, 0, none⟩ (.slice (some ⟨g8, 0, none⟩) (m + 1) cap8)) g8 (m + 1) cap8 (us ++ [.slice al nl cl]) (fs ++ [fp]) := by
        refine ⟨fun q => Iff.rfl, heap_setCell_same w8 bo 0 _ _ _ HB8.out, ?_, hne, by simp [hml], kept bp _ lp5 hbp.1 hbp.2 HJ5.out.hp, kept bd _ ld5 hbd.1 hbd.2 HJ5.out.hd, fun e => ?_, fun e => ?_⟩
        · rw [List.map_append]
          exact HG8.out.kept fun q hq => heap_setCell_other w8 ⟨bo, 0, none⟩ q _ (fun e => by
            have e : q = bo := e
            subst e
            rcases hq with hq | hq
            · exact hne (by simpa [Value.ownBlock] using hq)
            · have := HG8.out.e.lo q hq; omega)
        · rcases e with e | e
          · exact hbp.1 e
          · rcases hg8 with h | h
            · exact hbp.2 (e.trans h)
            · omega
        · rcases e with e | e
          · exact hbd.1 e
          · rcases hg8 with h | h
            · exact hbd.2 (e.trans h)
            · omega
      exact ⟨by rw [HR.out]; show _ = Ending.returned (.bool (decide (40 < s.length + 1))); rw [show decide (40 < s.length + 1) = decide (40 < (m : Int) + 1) from by rw [decide_eq_decide]; omega]; rfl, fun q => q = bo ∨ q = g8, by rw [HR.out]; exact ⟨_, _, _, _, _, HJM8⟩, HMB.out.trans ((Mv.grown HGR.out rfl HJ5.out.t HAT.out).trans (Mv.set (.inl (.inl rfl)) _))⟩
end Go.Proofs.YtmkkdenhjfjmgaaGreat
