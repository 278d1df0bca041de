/- Joined: XExp XFst XFsu XFws XMnw XNal XCerP XHld. -/
import Derived.Test.YtmkkdenhjfjmgaaGreatBf09
import Derived.Test.YtmkkdenhjfjmgaaGreatBf12
import Derived.Test.YtmkkdenhjfjmgaaGreatBf03
import Derived.Test.YtmkkdenhjfjmgaaGreatBf04
import Derived.Test.YtmkkdenhjfjmgaaGreatBf01
import Derived.Test.YtmkkdenhjfjmgaaGreatBf05
import Derived.Deep.RegionHeld3
import Derived.Test.YtmkkdenhjfjmgaaGreatBf08
import Derived.Test.YtmkkdenhjfjmgaaGreatBf10
import Derived.Test.YtmkkdenhjfjmgaaGreatBf07
namespace Go.Proofs.YtmkkdenhjfjmgaaGreat
open Go.RowKit Go.Sort
set_option maxRecDepth 100000

/-- The variables that the visitor of choices captures; what the own visitor writes lies apart from them. -/
structure Env2 (u w : World) (T : Nat → Prop) (q0 q1 q2 q3 : Nat) (va a1 a2 a3 vd vf : Value) (all : List Int) : Prop where
  h0 : w.heap[q0]? = some (.cells #[va] 29 (0, 0))
  h1 : w.heap[q1]? = some (.cells #[a1, a2, a3] 38 (0, 0))
  h2 : w.heap[q2]? = some (.cells #[vd] 29 (0, 0))
  h3 : w.heap[q3]? = some (.cells #[vf] 119 (0, 0))
  n0 : ¬ T q0
  n1 : ¬ T q1
  n2 : ¬ T q2
  n3 : ¬ T q3
  ra : Own w 0 va all
  na : ∀ g, va.ownBlock = some g → ¬ T g
  bel : Below u.heap.size u w
  tb : ∀ g, T g → u.heap.size ≤ g
theorem Env2.step {u w w' : World} {T T' : Nat → Prop} {q0 q1 q2 q3 : Nat} {va a1 a2 a3 vd vf : Value} {all : List Int} (h : Env2 u w T q0 q1 q2 q3 va a1 a2 a3 vd vf all) (hm : Mv T T' w w') : Env2 u w' T' q0 q1 q2 q3 va a1 a2 a3 vd vf all := by
  have l0 := (Array.getElem?_eq_some_iff.1 h.h0).1
  have l1 := (Array.getElem?_eq_some_iff.1 h.h1).1
  have l2 := (Array.getElem?_eq_some_iff.1 h.h2).1
  have l3 := (Array.getElem?_eq_some_iff.1 h.h3).1
  have hn : ∀ q, q < w.heap.size → ¬ T q → ¬ T' q := fun q hq hnq e => (hm.old q e).elim hnq (fun e => by omega)
  exact ⟨(hm.block q0 l0 h.n0).trans h.h0, (hm.block q1 l1 h.n1).trans h.h1, (hm.block q2 l2 h.n2).trans h.h2, (hm.block q3 l3 h.n3).trans h.h3, hn _ l0 h.n0, hn _ l1 h.n1, hn _ l2 h.n2, hn _ l3 h.n3, h.ra.keptM hm h.na,
    fun g hg => hn g (h.ra.lt g hg).2 (h.na g hg), hm.below h.bel h.bel.size h.tb, fun g hg => (hm.old g hg).elim (h.tb g) (fun e => Nat.le_trans h.bel.size e)⟩
/-- What is asked of the own visitor. -/
structure VisU {σ : Type} (Lv : σ → Prop) (J : σ → (Nat → Prop) → World → Prop) (step : σ → List Int → σ × Bool) (F : FuncId) (C : Array Value) (u : World) (p : Pln) (d : List Int) : Prop where
  lt : ∀ s T w g, J s T w → T g → g < w.heap.size
  beh : ∀ s T w w', J s T w → Below w.heap.size w w' → J s T w'
  live : ∀ s ys, Lv s → (step s ys).2 = false → Lv (step s ys).1
  call : ∀ s T w0 w vl ys, Lv s → J s T w0 → Below w0.heap.size w0 w → Below u.heap.size u w0 → (∀ g, T g → u.heap.size ≤ g) → Own w w0.heap.size vl ys → (∀ y ∈ ys, y ∈ sps p d) → ys.length ≤ 23 → expB p d ys = true →
    Calls Tryz.prog F (#[vl] ++ C) w fun e w' => e = .returned (.bool (step s ys).2) ∧ MvQ J (step s ys).1 T w w'
theorem sps_bd {p : Pln} {d : List Int} {ys : List Int} (h : ∀ y ∈ ys, y ∈ sps p d) : ∀ i : Nat, i < ys.length → 0 ≤ ys[i]?.getD 0 ∧ ys[i]?.getD 0 < (grps p.n).length := fun i hi => by
  rw [List.getElem?_eq_getElem hi]
  obtain ⟨k, e, hk, -⟩ := sps_mem (h _ (List.getElem_mem hi))
  show 0 ≤ ys[i] ∧ ys[i] < _
  omega
theorem ats_mem {all ys : List Int} (h : ∀ y ∈ ys, 0 ≤ y ∧ y < (all.length : Int)) : ∀ y ∈ ats all ys, y ∈ all := fun y hy => by
  unfold ats at hy
  obtain ⟨x, hx, rfl⟩ := List.mem_map.1 hy
  have := h x hx
  have hl : x.toNat < all.length := by omega
  rw [List.getElem?_eq_getElem hl]
  exact List.getElem_mem hl
theorem ats_len (all ys : List Int) : (ats all ys).length = ys.length := by unfold ats; rw [List.length_map]
def ExQ {σ : Type} (J : σ → (Nat → Prop) → World → Prop) (r : σ × Bool) (T : Nat → Prop) (w : World) (e : Ending) (w' : World) : Prop := e = .returned (.bool r.2) ∧ MvQ J r.1 T w w'
set_option maxHeartbeats 6400000 in
theorem explanations1_any {σ : Type} {Lv : σ → Prop} {J : σ → (Nat → Prop) → World → Prop} {step : σ → List Int → σ × Bool} {F : FuncId} {C : Array Value} {u : World} {p : Pln} {d : List Int} (HU : VisU Lv J step F C u p d)
    (hF : IsFn F) (hok : dwOk p d = true) (hfb : ∀ i : Nat, (lgA p i).fb.length ≤ 1100000) {q0 q1 q2 q3 : Nat} {va a1 a2 a3 vd : Value} (hp : PlnR u (.agg #[a1, a2, a3]) p) (hd : Rd u vd d)
    (s : σ) (T : Nat → Prop) (w : World) (vl : Value) (ys : List Int) (hLv : Lv s) (hJ : J s T w) (hE : Env2 u w T q0 q1 q2 q3 va a1 a2 a3 vd (.func (.func F) #[] C) (sps p d)) (hl : Rd w vl ys) (hyl : ys.length ≤ 23) (hy : ∀ y ∈ ys, 0 ≤ y ∧ y < ((sps p d).length : Int)) :
    Calls Tryz.prog 144 #[vl, ptr q0, ptr q1, ptr q2, ptr q3] w (ExQ J (stE p d (sps p d) step s ys) T w) := by
  have HEX := Lib.hid (fun w' (hb : Below u.heap.size u w') v' (hv : Rd w' v' (ats (sps p d) ys)) => explains_any (.agg #[a1, a2, a3]) vd v' p d (ats (sps p d) ys) w' (hp.behind hb) (hd.belowAll hb) hv (dwOk_parts hok).1 hfb (sps_bd (ats_mem hy)) (by rw [ats_len]; omega))
  have HCL := Lib.hid (fun w' v' (h2 : Below w.heap.size w w') (h4 : Own w' w.heap.size v' (ats (sps p d) ys)) (h6 : expB p d (ats (sps p d) ys) = true) => HU.call s T w w' v' (ats (sps p d) ys) hLv hJ h2 hE.bel hE.tb h4 (ats_mem hy) (by rw [ats_len]; exact hyl) h6)
  have hF := show ∀ (args : Array Value) (w : World), (callFunc F args).run Tryz.prog w = .ok (.enter F args) w from hF
  have HLT := Lib.hid HU.lt
  have HBE := Lib.hid HU.beh
  have HJ := Lib.hid hJ
  have HE := Lib.hid hE
  have HTK := Lib.hid (fun k hk => @ats_take (sps p d) ys k hk)
  have HTL := Lib.hid (fun k => show (ats (sps p d) (ys.take k)).length ≤ 4000000 by rw [ats_len, List.length_take]; omega)
  have HYB := Lib.hid (fun k (hk : k < ys.length) => show 0 ≤ ys[k]?.getD 0 ∧ ys[k]?.getD 0 < ((sps p d).length : Int) from by rw [List.getElem?_eq_getElem hk]; exact hy _ (List.getElem_mem hk))
  have HS0 := Lib.hid (show expB p d (ats (sps p d) ys) = false → stE p d (sps p d) step s ys = (s, false) from fun e => by unfold stE; rw [e]; rfl)
  have HS1 := Lib.hid (show expB p d (ats (sps p d) ys) = true → stE p d (sps p d) step s ys = step s (ats (sps p d) ys) from fun e => by unfold stE; rw [if_pos e])
  obtain ⟨al, cl, nl, HNL, rfl, -, hnl, hcl⟩ := hl.opn
  obtain ⟨aa, ca, na, HNA, rfl, -, hna, hca⟩ := hE.ra.rd.opn
  obtain ⟨ad, cd, nd, -, rfl, -, -, -⟩ := hd.opn
  obtain ⟨b1, m1, c1, b2, m2, c2, b3, m3, c3, rfl, rfl, rfl⟩ := PlB.slices hp
  have HCL2 := Lib.hid hcl
  have HCA := Lib.hid hca
  rw [HNL.out] at HTK HYB
  have HYE := Lib.hid (show ys.take nl = ys from List.take_of_length_le (Nat.le_of_eq HNL.out))
  rw [HNA.out] at HYB
  have e0 := blkc hE.h0 (j := 0) rfl
  have e1 := blkc hE.h1 (j := 0) rfl
  have e2 := blkc hE.h1 (j := 1) rfl
  have e3 := blkc hE.h1 (j := 2) rfl
  have e4 := blkc hE.h2 (j := 0) rfl
  have e5 := blkc hE.h3 (j := 0) rfl
  have l0 := World.block_lt_of_cell? _ _ e0
  have l1 := World.block_lt_of_cell? _ _ e1
  have l2 := World.block_lt_of_cell? _ _ e4
  have l3 := World.block_lt_of_cell? _ _ e5
  have HON := Lib.hid (own_none w 3)
  have HB0 := Lib.hid ((Below.refl w.heap.size w).alloc (Nat.le_refl _) (.cells #[] 3))
  clear hl hca hcl hJ hE hp hd hfb hok hy HU hLv
  unfold ExQ
  generalize stE p d (sps p d) step s ys = r at *
  generalize sps p d = all at *
  go_enter Tryz.func144, Tryz.ntmps144
  go_wp2
  generalize w.alloc (.cells #[] 3) = w1 at *
  go_loopw [7, 9, 13] (fun s7 _ i wr => ∃ k : Nat, k ≤ nl ∧ i = .int .i64 k ∧ Hid (Own wr w.heap.size s7 (ats all (ys.take k))) ∧ Hid (Below w.heap.size w wr)) (fun _ _ i _ => nl - (intOf i).toNat)
  case atStart => exact ⟨0, Nat.zero_le _, rfl, HON.out, HB0.out⟩
  case round =>
    obtain ⟨k, hk, rfl, HO, HB⟩ := hrel
    obtain ⟨a6, c6, m6, HN6, rfl, _, _, -⟩ := HO.out.rd.opn
    by_cases hlt : k < nl
    · have hltI : (k : Int) < (nl : Int) := by omega
      obtain ⟨b, off, rfl, hbs, hcs⟩ := HCL2.out (by omega)
      have y0 := (HB.out.cell (p := ⟨b, off + k, none⟩) hbs).trans (hcs k hlt)
      have hyb := HYB.out k hlt
      have HE2 := Lib.hid (HTK.out k hlt)
      have HLK := Lib.hid (HTL.out k)
      clear hcs
      generalize ys[k]?.getD 0 = y at *
      obtain ⟨yn, rfl⟩ : ∃ yn : Nat, y = (yn : Int) := ⟨y.toNat, by omega⟩
      rw [Int.toNat_natCast] at HE2
      have hyn : yn < na := by omega
      obtain ⟨ba, offa, rfl, hbsa, hcsa⟩ := HCA.out (by omega)
      have y1 := (HB.out.cell (p := ⟨ba, offa + yn, none⟩) hbsa).trans (hcsa yn hyn)
      have g0 := (HB.out.cell (p := ⟨q0, 0, none⟩) l0).trans e0
      have HSZ := Lib.hid HB.out.size
      clear hcsa hyb
      generalize all[yn]?.getD 0 = x at *
      go_wp2_with (at_builtin; go_loud (refine wpList_pushI rfl (.tmp 17) (.tmp 22) 29 rfl Tryz.underlying29 Tryz.infoI w.heap.size _ _ rfl HO.out rfl HLK.out HSZ.out ?_); intro v9 w9 o9 g9 l9; have HO9 := Lib.hid o9; have HB9 := Lib.hid (HB.out.grown g9 HB.out.size (fun q hq => (HO.out.lt q hq).1)); clear o9 g9 l9)
      go_roundw
      case rel => exact ⟨k + 1, hlt, by go_num, by rw [HE2.out]; exact HO9.out, HB9.out⟩
      case measure => simp [intOf]; omega
    · obtain rfl : nl = k := by omega
      rw [HYE.out] at HO
      have HBU := Lib.hid (HE.out.bel.trans (HB.out.mono HE.out.bel.size))
      have g1 := (HB.out.cell (p := ⟨q1, 0, none⟩) l1).trans e1
      have g2 := (HB.out.cell (p := ⟨q1, 1, none⟩) l1).trans e2
      have g3 := (HB.out.cell (p := ⟨q1, 2, none⟩) l1).trans e3
      have g4 := (HB.out.cell (p := ⟨q2, 0, none⟩) l2).trans e4
      have g5 := (HB.out.cell (p := ⟨q3, 0, none⟩) l3).trans e5
      have j3 : q3 < wr.heap.size := Nat.lt_of_lt_of_le l3 HB.out.size
      have HXX := Lib.hid (HEX.out wr HBU.out _ HO.out.rd)
      have HCX := Lib.hid (fun (w5 : World) (hb : Below wr.heap.size wr w5) h6 => HCL.out w5 (.slice a6 m6 c6) (HB.out.trans (hb.mono HB.out.size)) (HO.out.belowAll hb) h6)
      clear e0 e1 e2 e3 e4 e5
      cases hx : expB p d (ats all ys)
      · have HR := Lib.hid (HS0.out hx)
        rw [hx] at HXX
        clear hx
        go_wp2_with fail
        refine HXX.out.mono ?_
        rintro e w5 ⟨rfl, b5⟩
        have HB5 := Lib.hid (HB.out.trans (b5.mono HB.out.size))
        clear b5
        go_wp2
        go_ret
        exact ⟨by rw [HR.out]; rfl, T, by rw [HR.out]; exact HBE.out _ _ _ _ HJ.out HB5.out, Mv.of_below HB5.out⟩
      · have HR := Lib.hid (HS1.out hx)
        have HX := Lib.hid hx
        rw [hx] at HXX
        clear hx
        generalize step s (ats all ys) = r2 at *
        go_wp2_with fail
        refine HXX.out.mono ?_
        rintro e w5 ⟨rfl, b5⟩
        have k5 := (b5.cell (p := ⟨q3, 0, none⟩) j3).trans g5
        have HB5 := Lib.hid (HB.out.trans (b5.mono HB.out.size))
        have HC5 := Lib.hid (HCX.out w5 b5 HX.out)
        clear b5 g1 g2 g3 g4 g5
        go_wp2_with fail
        refine HC5.out.mono ?_
        rintro e w6 ⟨rfl, T6, h1, h2⟩
        have HJ6 := Lib.hid h1
        have HM6 := Lib.hid ((Mv.of_below HB5.out).trans h2)
        clear h1 h2
        go_wp2
        go_ret
        exact ⟨by rw [HR.out]; rfl, T6, by rw [HR.out]; exact HJ6.out, HM6.out⟩
end Go.Proofs.YtmkkdenhjfjmgaaGreat
namespace Go.Proofs.YtmkkdenhjfjmgaaGreat
open Go.RowKit Go.Sort
set_option maxRecDepth 100000

theorem exTo_go {σ : Type} {step : σ → List Int → σ × Bool} {p : Pln} {d : List Int} {k : Nat} {s0 s : σ} (h : runV step (exTo p d k) s0 = (s, false)) : runV step (exTo p d (k + 1)) s0 = runV step (exl p d k) s := by
  rw [exTo_succ, runV_go (by rw [h]), h]
theorem exA_stop {σ : Type} {step : σ → List Int → σ × Bool} {p : Pln} {d : List Int} {k : Nat} {s0 : σ} (hk : k ≤ (sps p d).length) (h : (runV step (exTo p d (k + 1)) s0).2 = true) : runV step (exA p d) s0 = runV step (exTo p d (k + 1)) s0 := by
  obtain ⟨r, hr⟩ := exTo_pre p d (show k + 1 ≤ (sps p d).length + 1 by omega)
  unfold exA; rw [hr, runV_stop h]
/-- Only new blocks and those of T have been written. -/
theorem Mv.alloc (T : Nat → Prop) (w : World) (b : Obj) : Mv T T w (w.alloc b) := Mv.of_below ((Below.refl _ _).alloc (Nat.le_refl _) b)
theorem Mv.set {T : Nat → Prop} {w : World} {g j : Nat} (h : T g ∨ w.heap.size ≤ g) (u : Value) : Mv T T w (w.setCell ⟨g, j, none⟩ u) :=
  ⟨rfl, rfl, rfl, by simp, fun k hk hn => heap_setCell_other w ⟨g, j, none⟩ k u fun e => by
    have e : k = g := e
    subst e
    rcases h with h | h
    · exact hn h
    · omega, fun _ h => .inl h⟩
set_option maxHeartbeats 6400000 in
theorem explanations_any {σ : Type} {Lv : σ → Prop} {J : σ → (Nat → Prop) → World → Prop} {step : σ → List Int → σ × Bool} {F : FuncId} {C : Array Value} {u : World} {p : Pln} {d : List Int} (HU : VisU Lv J step F C u p d)
    (hF : IsFn F) (hok : dwOk p d = true) (hfb : ∀ i : Nat, (lgA p i).fb.length ≤ 1100000) {v vd : Value} (hp : PlnR u v p) (hd : Rd u vd d)
    (s : σ) (T : Nat → Prop) (w : World) (hLv : Lv s) (hJ : J s T w) (hbel : Below u.heap.size u w) (htb : ∀ g, T g → u.heap.size ≤ g) :
    Calls Tryz.prog 92 #[v, vd, .func (.func F) #[] C] w fun e w' => e = .returned (.tuple #[]) ∧ MvQ J (runV step (exA p d) s).1 T w w' := by
  obtain ⟨a1, m1, c1, a2, m2, c2, a3, m3, c3, hv⟩ : ∃ a1 m1 c1 a2 m2 c2 a3 m3 c3, v = .agg #[.slice a1 m1 c1, .slice a2 m2 c2, .slice a3 m3 c3] := by
    obtain ⟨u1, u2, u3, e, r⟩ := id hp
    obtain ⟨a1, m1, c1, a2, m2, c2, a3, m3, c3, e1, e2, e3⟩ := PlB.slices (show PlnR u (.agg #[u1, u2, u3]) p from by rw [← e]; exact hp)
    exact ⟨a1, m1, c1, a2, m2, c2, a3, m3, c3, by rw [e, e1, e2, e3]⟩
  subst hv
  have HSU := Lib.hid (fun w' (hb : Below u.heap.size u w') => suspects_any _ vd p d w' (hp.behind hb) (hd.belowAll hb) hok hfb)
  obtain ⟨ad, cd, nd, -, rfl, -, -, -⟩ := hd.opn
  obtain ⟨n, HN⟩ : ∃ n, Hid ((sps p d).length = n) := ⟨_, rfl⟩
  have hn23 : n ≤ 23 := by have h1 := HN.out; have h2 := susTo_len p d (grps p.n).length; have h3 := (plnOk_sz (dwOk_parts hok).1).2.2.2; unfold sps at h1; omega
  have HCV := Lib.hid (fun (q0 q1 q2 q3 : Nat) (va : Value) =>
    choices_vis (Lv := Lv) (J := fun s T w => J s T w ∧ Env2 u w T q0 q1 q2 q3 va (.slice a1 m1 c1) (.slice a2 m2 c2) (.slice a3 m3 c3) (.slice ad nd cd) (.func (.func F) #[] C) (sps p d)) (step := stE p d (sps p d) step) (n := (sps p d).length) (q0 := q0) (q1 := q1) (q2 := q2) (q3 := q3)
      ⟨fun s T w g h => HU.lt s T w g h.1, fun s T w w' h hb => ⟨HU.beh s T w w' h.1 hb, h.2.step (Mv.of_below hb)⟩, (fun s ys hl he => by
        unfold stE at he ⊢
        split at he
        · rename_i e; rw [if_pos e]; exact HU.live _ _ hl he
        · rename_i e; rw [if_neg e]; exact hl), fun s T w vl ys hlv h hl hyl hy => (explanations1_any HU hF hok hfb hp hd s T w vl ys hlv h.1 h.2 hl hyl hy).mono (by
        rintro e w' ⟨e1, T', e2, e3⟩
        exact ⟨e1, T', ⟨e2, h.2.step e3⟩, e3⟩)⟩ (by rw [HN.out]; exact hn23))
  have HLV := Lib.hid hLv
  have HRL := Lib.hid (fun xs s h e => runV_live HU.live xs s h e)
  have HRX := Lib.hid (fun (c : Nat) (s : σ) => runV_exl (p := p) (d := d) (step := step) (c := c) (s := s))
  have HG := Lib.hid (fun (k : Nat) (s' : σ) (h : runV step (exTo p d k) s = (s', false)) => exTo_go (step := step) h)
  have HS := Lib.hid (fun (k : Nat) (hk : k ≤ (sps p d).length) h => exA_stop (step := step) (s0 := s) hk h)
  have H0 := Lib.hid (show runV step (exTo p d 0) s = (s, false) from rfl)
  have HA := Lib.hid (show exTo p d ((sps p d).length + 1) = exA p d from rfl)
  have HBE := Lib.hid HU.beh
  have HTB := Lib.hid htb
  rw [HN.out] at HCV HRX HS HA
  -- the boxes
  have b1 := (Below.refl w.heap.size w).alloc (Nat.le_refl _) (.cells #[.slice a1 m1 c1, .slice a2 m2 c2, .slice a3 m3 c3] 38)
  have b2 := b1.alloc b1.size (.cells #[.slice ad nd cd] 29)
  have b3 := b2.alloc b2.size (.cells #[.func (.func F) #[] C] 119)
  have k1 := heap_alloc_new w (.cells #[.slice a1 m1 c1, .slice a2 m2 c2, .slice a3 m3 c3] 38)
  have k2 := heap_alloc_new (w.alloc (.cells #[.slice a1 m1 c1, .slice a2 m2 c2, .slice a3 m3 c3] 38)) (.cells #[.slice ad nd cd] 29)
  have k3 := heap_alloc_new ((w.alloc (.cells #[.slice a1 m1 c1, .slice a2 m2 c2, .slice a3 m3 c3] 38)).alloc (.cells #[.slice ad nd cd] 29)) (.cells #[.func (.func F) #[] C] 119)
  have k1' := (heap_alloc_old _ (.cells #[.slice ad nd cd] 29) (Array.getElem?_eq_some_iff.1 k1).1).trans k1
  have k1'' := (heap_alloc_old _ (.cells #[.func (.func F) #[] C] 119) (Array.getElem?_eq_some_iff.1 k1').1).trans k1'
  have k2' := (heap_alloc_old _ (.cells #[.func (.func F) #[] C] 119) (Array.getElem?_eq_some_iff.1 k2).1).trans k2
  have z1 : (w.alloc (.cells #[.slice a1 m1 c1, .slice a2 m2 c2, .slice a3 m3 c3] 38)).heap.size = w.heap.size + 1 := by simp
  have z2 : ((w.alloc (.cells #[.slice a1 m1 c1, .slice a2 m2 c2, .slice a3 m3 c3] 38)).alloc (.cells #[.slice ad nd cd] 29)).heap.size = w.heap.size + 1 + 1 := by simp
  rw [z1] at k2'
  rw [z2] at k3
  have HB3 := Lib.hid b3
  have K1 := Lib.hid k1''
  have K2 := Lib.hid k2'
  have K3 := Lib.hid k3
  have HBU := Lib.hid (hbel.trans (b3.mono hbel.size))
  have HJ := Lib.hid (HBE.out _ _ _ _ hJ b3)
  have HM3 := Lib.hid (Mv.of_below (T := T) b3)
  have HTN := Lib.hid (fun g ht => HU.lt s T w g hJ ht)
  have e1 := blkc K1.out (j := 0) rfl
  have e2 := blkc K1.out (j := 1) rfl
  have e3 := blkc K1.out (j := 2) rfl
  have e4 := blkc K2.out (j := 0) rfl
  have hz3 : (((w.alloc (.cells #[.slice a1 m1 c1, .slice a2 m2 c2, .slice a3 m3 c3] 38)).alloc (.cells #[.slice ad nd cd] 29)).alloc (.cells #[.func (.func F) #[] C] 119)).heap.size = w.heap.size + 3 := by simp
  have HZ3 := Lib.hid hz3
  clear b1 b2 b3 k1 k2 k3 k1' k1'' k2' z1 z2 hbel htb hJ hLv hp hd hfb hok HU hF hz3
  generalize sps p d = all at *
  go_enter Tryz.func92, Tryz.ntmps92
  go_wp2_with fail
  generalize ((w.alloc (.cells #[.slice a1 m1 c1, .slice a2 m2 c2, .slice a3 m3 c3] 38)).alloc (.cells #[.slice ad nd cd] 29)).alloc (.cells #[.func (.func F) #[] C] 119) = w3 at *
  refine (HSU.out w3 HBU.out).mono ?_
  rintro e w4 ⟨v4, rfl, o4, b4⟩
  have q1 := kept_o' K1.out b4
  have q2 := kept_o' K2.out b4
  have q3 := kept_o' K3.out b4
  have HB4 := Lib.hid (HB3.out.trans (b4.mono HB3.out.size))
  have HU4 := Lib.hid (HBU.out.trans (b4.mono HBU.out.size))
  have HJ4 := Lib.hid (HBE.out _ _ _ _ HJ.out b4)
  have b5 := (Below.refl w4.heap.size w4).alloc (Nat.le_refl _) (.cells #[v4] 29)
  have g6 := heap_alloc_new w4 (.cells #[v4] 29)
  have HE6 := Lib.hid (show Env2 u (w4.alloc (.cells #[v4] 29)) T w4.heap.size w.heap.size (w.heap.size + 1) (w.heap.size + 1 + 1) v4 (.slice a1 m1 c1) (.slice a2 m2 c2) (.slice a3 m3 c3) (.slice ad nd cd) (.func (.func F) #[] C) all from by
    have hs4 := b4.size
    have hs3 := HZ3.out
    have hn : ∀ g, w.heap.size ≤ g → ¬ T g := fun g h1 h2 => by have := HTN.out g h2; omega
    exact ⟨g6, kept_o' q1 b5, kept_o' q2 b5, kept_o' q3 b5, hn _ (by omega), hn _ (Nat.le_refl _), hn _ (by omega), hn _ (by omega), (o4.belowAll b5).mono (Nat.zero_le _), fun g hg => hn g (by have := (o4.lt g hg).1; omega), HU4.out.trans (b5.mono HU4.out.size), HTB.out⟩)
  have HJ6 := Lib.hid (HBE.out _ _ _ _ HJ4.out b5)
  have HM6 := Lib.hid ((Mv.of_below (T := T) HB4.out).trans (Mv.of_below b5))
  obtain ⟨b, c, n4, HN4, rfl, -, -, -⟩ := o4.rd.opn
  obtain rfl : n = n4 := by have := HN.out; have := HN4.out; omega
  have HQ := Lib.hid (HCV.out w4.heap.size w.heap.size (w.heap.size + 1) (w.heap.size + 1 + 1) (.slice b n c))
  have hnn : IntKind.i64.wrap ((n : Int) + 1) = (n : Int) + 1 := IntWalk.i64_in _ (by omega)
  clear b4 b5 g6 o4 q1 q2 q3 e1 e2 e3 e4 HCV K1 K2 K3
  go_wp2
  generalize hw6 : w4.alloc (.cells #[.slice b n c] 29) = w6 at *
  clear hw6
  go_loopw [7, 8, 15] (fun _ _ i wr => ∃ (k : Nat) (s' : σ) (T' : Nat → Prop), k ≤ n + 1 ∧ i = .int .i64 k ∧ Hid (runV step (exTo p d k) s = (s', false)) ∧ Hid (Lv s') ∧ Hid (J s' T' wr ∧ Env2 u wr T' w4.heap.size w.heap.size (w.heap.size + 1) (w.heap.size + 1 + 1) (.slice b n c) (.slice a1 m1 c1) (.slice a2 m2 c2) (.slice a3 m3 c3) (.slice ad nd cd) (.func (.func F) #[] C) all) ∧ Hid (Mv T T' w wr)) (fun _ _ i _ => n + 1 - (intOf i).toNat)
  case atStart => exact ⟨0, s, T, Nat.zero_le _, rfl, H0.out, HLV.out, ⟨HJ6.out, HE6.out⟩, HM6.out⟩
  case round =>
    obtain ⟨k, s', T', hk, rfl, HX, HLS, HJE, HM⟩ := hrel
    by_cases hlt : k < n + 1
    · have hltI : (k : Int) < (n : Int) + 1 := by omega
      have t0 := blkc HJE.out.2.h0 (j := 0) rfl
      have hcall := HQ.out k 0 (.slice none 0 0) [] s' T' wr HLS.out HJE.out (.inl ⟨rfl, rfl⟩) (fun g hg => by simp [Value.ownBlock] at hg) (Nat.zero_le _) (by simp; omega) (fun y hy => by cases hy)
      rw [HRX.out k s'] at hcall
      have HGK := Lib.hid (HG.out k s' HX.out)
      have HSK := Lib.hid (HS.out k (by omega))
      generalize hX : runV step (exl p d k) s' = r at *
      obtain ⟨r1, r2⟩ := r
      have HC := Lib.hid hcall
      clear hcall hX
      go_wp2_with (go_at_call 143; refine HC.out.mono ?_; rintro e w7 ⟨rfl, T7, h1, h2⟩; cases r2)
      · have HJ7 := Lib.hid h1
        have HM7 := Lib.hid (HM.out.trans h2)
        have HLV7 := Lib.hid (show Lv r1 from by have h := HRL.out _ s HLV.out (show (runV step (exTo p d (k + 1)) s).2 = false by rw [HGK.out]); rw [HGK.out] at h; exact h)
        clear h1 h2
        go_roundw
        case rel => exact ⟨k + 1, r1, T7, by omega, by go_num, HGK.out, HLV7.out, HJ7.out, HM7.out⟩
        case measure => simp [intOf]; omega
      · have HJ7 := Lib.hid h1.1
        have HM7 := Lib.hid (HM.out.trans h2)
        have HR := Lib.hid (show (runV step (exA p d) s).1 = r1 from by rw [HSK.out (by rw [HGK.out]), HGK.out])
        clear h1 h2
        refine bodyPost_ret (results_none rfl _ _ _) rfl ?_
        exact ⟨rfl, T7, by rw [HR.out]; exact HJ7.out, HM7.out⟩
    · obtain rfl : k = n + 1 := by omega
      have HR := Lib.hid (show (runV step (exA p d) s).1 = s' from by rw [← HA.out, HX.out])
      have HJ7 := Lib.hid HJE.out.1
      go_wp2
      go_end0
      exact ⟨rfl, T', by rw [HR.out]; exact HJ7.out, HM.out⟩
end Go.Proofs.YtmkkdenhjfjmgaaGreat
namespace Go.Proofs.YtmkkdenhjfjmgaaGreat
open Go.RowKit Go.Sort
set_option maxRecDepth 100000

/-- The two variables that the visitor fills. -/
structure JF (base qo qf : Nat) (s : Option (List Int)) (T : Nat → Prop) (w : World) : Prop where
  t : ∀ g, T g ↔ g = qo ∨ g = qf
  ne : qo ≠ qf
  c : ∃ vo : Value, w.heap[qo]? = some (.cells #[vo] 29 (0, 0)) ∧ Own w base vo (s.getD []) ∧ ∀ g, vo.ownBlock = some g → ¬ T g
  f : w.heap[qf]? = some (.cells #[.bool s.isSome] 4 (0, 0))
theorem JF.lt {base qo qf : Nat} {s : Option (List Int)} {T : Nat → Prop} {w : World} (h : JF base qo qf s T w) {g : Nat} (hg : T g) : g < w.heap.size := by
  obtain ⟨vo, h1, -⟩ := h.c
  rcases (h.t g).1 hg with rfl | rfl
  · exact (Array.getElem?_eq_some_iff.1 h1).1
  · exact (Array.getElem?_eq_some_iff.1 h.f).1
theorem JF.beh {base qo qf : Nat} {s : Option (List Int)} {T : Nat → Prop} {w w' : World} (h : JF base qo qf s T w) (hb : Below w.heap.size w w') : JF base qo qf s T w' := by
  obtain ⟨vo, h1, h2, h3⟩ := h.c
  exact ⟨h.t, h.ne, ⟨vo, kept_o' h1 hb, h2.belowAll hb, h3⟩, kept_o' h.f hb⟩
set_option maxHeartbeats 1600000 in
theorem firstExp1_any {base qo qf : Nat} (s : Option (List Int)) (T : Nat → Prop) (w : World) (vl : Value) (ys : List Int) (h : JF base qo qf s T w) (ho : Own w base vl ys) (hT : ∀ g, vl.ownBlock = some g → ¬ T g) :
    Calls Tryz.prog 128 #[vl, ptr qo, ptr qf] w fun e w' => e = .returned (.bool true) ∧ MvQ (JF base qo qf) (some ys) T w w' := by
  obtain ⟨vo, h1, -, -⟩ := h.c
  have h2 := h.f
  have m1 : Mv T T w (w.setCell ⟨qo, 0, none⟩ vl) := Mv.set (.inl ((h.t qo).2 (.inl rfl))) vl
  have m2 : Mv T T (w.setCell ⟨qo, 0, none⟩ vl) ((w.setCell ⟨qo, 0, none⟩ vl).setCell ⟨qf, 0, none⟩ (.bool true)) := Mv.set (.inl ((h.t qf).2 (.inr rfl))) _
  have g1 := heap_setCell_same w qo 0 _ _ vl h1
  have g2 : (w.setCell ⟨qo, 0, none⟩ vl).heap[qf]? = some (.cells #[.bool s.isSome] 4 (0, 0)) := (heap_setCell_other w ⟨qo, 0, none⟩ qf vl (fun e => h.ne e.symm)).trans h2
  have g3 := heap_setCell_same _ qf 0 _ _ (.bool true) g2
  have g4 : ((w.setCell ⟨qo, 0, none⟩ vl).setCell ⟨qf, 0, none⟩ (.bool true)).heap[qo]? = some (.cells #[vl] 29 (0, 0)) := (heap_setCell_other _ ⟨qf, 0, none⟩ qo (.bool true) h.ne).trans g1
  have HJ := Lib.hid (show JF base qo qf (some ys) T ((w.setCell ⟨qo, 0, none⟩ vl).setCell ⟨qf, 0, none⟩ (.bool true)) from ⟨h.t, h.ne, ⟨vl, g4, ho.keptM (m1.trans m2) hT, hT⟩, g3⟩)
  have HM := Lib.hid (m1.trans m2)
  have c1 := blkc h1 (j := 0) rfl
  have c2 := blkc g2 (j := 0) rfl
  have r1 := frozen_of_row w qo 0 _ _ h1
  have r2 := frozen_of_row _ qf 0 _ _ g2
  obtain ⟨a, c, n, -, rfl, -, -, -⟩ := ho.rd.opn
  clear m1 m2 g1 g2 g3 g4 h1 h2 h ho hT
  go_enter Tryz.func128, Tryz.ntmps128
  go_wp2
  go_ret
  exact ⟨rfl, T, HJ.out, HM.out⟩
theorem visF (base qo qf : Nat) (u : World) (hu : u.heap.size = base) (p : Pln) (d : List Int) : VisU (fun _ => True) (JF base qo qf) stF 128 #[ptr qo, ptr qf] u p d where
  lt := fun _ _ _ _ h hg => h.lt hg
  beh := fun _ _ _ _ h hb => h.beh hb
  live := fun _ _ h _ => h
  call := fun s T w0 w vl ys _ hJ hb hu0 _ ho _ _ _ => by
    have hs := hu0.size
    rw [hu] at hs
    exact firstExp1_any s T w vl ys (hJ.beh hb) (ho.mono hs) fun g hg ht => by
      have h1 := hJ.lt ht
      have h2 := (ho.lt g hg).1
      omega
set_option maxHeartbeats 3200000 in
theorem firstExplanation_any (v vd : Value) (p : Pln) (d : List Int) (w : World) (hp : PlnR w v p) (hd : Rd w vd d) (hok : dwOk p d = true) (hfb : ∀ i : Nat, (lgA p i).fb.length ≤ 1100000) :
    Calls Tryz.prog 79 #[v, vd] w fun e w' => ∃ v', e = .returned (.tuple #[v', .bool (fewB p d)]) ∧ Own w' w.heap.size v' (fewL p d) ∧ Below w.heap.size w w' := by
  have HFN := Lib.hid (show IsFn 128 from isFn_of rfl rfl rfl)
  have HEX := Lib.hid (fun qo qf (T : Nat → Prop) w' hJ (hb : Below w.heap.size w w') htb => explanations_any (visF w.heap.size qo qf w rfl p d) HFN.out hok hfb hp hd none T w' trivial hJ hb htb)
  obtain ⟨a1, m1, c1, a2, m2, c2, a3, m3, c3, hv⟩ : ∃ a1 m1 c1 a2 m2 c2 a3 m3 c3, v = .agg #[.slice a1 m1 c1, .slice a2 m2 c2, .slice a3 m3 c3] := by
    obtain ⟨u1, u2, u3, e, r⟩ := id hp
    obtain ⟨a1, m1, c1, a2, m2, c2, a3, m3, c3, e1, e2, e3⟩ := PlB.slices (show PlnR w (.agg #[u1, u2, u3]) p from by rw [← e]; exact hp)
    exact ⟨a1, m1, c1, a2, m2, c2, a3, m3, c3, by rw [e, e1, e2, e3]⟩
  subst hv
  obtain ⟨ad, cd, nd, -, rfl, -, -, -⟩ := hd.opn
  have b1 := (Below.refl w.heap.size w).alloc (Nat.le_refl _) (.cells #[.slice a1 m1 c1, .slice a2 m2 c2, .slice a3 m3 c3] 38)
  have b2 := b1.alloc b1.size (.cells #[] 3)
  have b3 := b2.alloc b2.size (.cells #[.slice (some ⟨w.heap.size + 1, 0, none⟩) 0 0] 29)
  have b4 := b3.alloc b3.size (.cells #[.bool false] 4)
  have k1 := heap_alloc_new w (.cells #[.slice a1 m1 c1, .slice a2 m2 c2, .slice a3 m3 c3] 38)
  have z1 : (w.alloc (.cells #[.slice a1 m1 c1, .slice a2 m2 c2, .slice a3 m3 c3] 38)).heap.size = w.heap.size + 1 := by simp
  have z2 : ((w.alloc (.cells #[.slice a1 m1 c1, .slice a2 m2 c2, .slice a3 m3 c3] 38)).alloc (.cells #[] 3)).heap.size = w.heap.size + 1 + 1 := by simp
  have z3 : (((w.alloc (.cells #[.slice a1 m1 c1, .slice a2 m2 c2, .slice a3 m3 c3] 38)).alloc (.cells #[] 3)).alloc (.cells #[.slice (some ⟨w.heap.size + 1, 0, none⟩) 0 0] 29)).heap.size = w.heap.size + 1 + 1 + 1 := by simp
  have o2 := own_none (w.alloc (.cells #[.slice a1 m1 c1, .slice a2 m2 c2, .slice a3 m3 c3] 38)) 3
  rw [z1] at o2
  have k3 := heap_alloc_new ((w.alloc (.cells #[.slice a1 m1 c1, .slice a2 m2 c2, .slice a3 m3 c3] 38)).alloc (.cells #[] 3)) (.cells #[.slice (some ⟨w.heap.size + 1, 0, none⟩) 0 0] 29)
  rw [z2] at k3
  have k4 := heap_alloc_new (((w.alloc (.cells #[.slice a1 m1 c1, .slice a2 m2 c2, .slice a3 m3 c3] 38)).alloc (.cells #[] 3)).alloc (.cells #[.slice (some ⟨w.heap.size + 1, 0, none⟩) 0 0] 29)) (.cells #[.bool false] 4)
  rw [z3] at k4
  have x2 := (Below.refl _ ((w.alloc (.cells #[.slice a1 m1 c1, .slice a2 m2 c2, .slice a3 m3 c3] 38)).alloc (.cells #[] 3))).alloc (Nat.le_refl _) (.cells #[.slice (some ⟨w.heap.size + 1, 0, none⟩) 0 0] 29)
  have x3 := (Below.refl _ (((w.alloc (.cells #[.slice a1 m1 c1, .slice a2 m2 c2, .slice a3 m3 c3] 38)).alloc (.cells #[] 3)).alloc (.cells #[.slice (some ⟨w.heap.size + 1, 0, none⟩) 0 0] 29))).alloc (Nat.le_refl _) (.cells #[.bool false] 4)
  have o4 := (o2.belowAll x2).belowAll x3
  have HJ := Lib.hid (show JF w.heap.size (w.heap.size + 1 + 1) (w.heap.size + 1 + 1 + 1) none (fun g => g = w.heap.size + 1 + 1 ∨ g = w.heap.size + 1 + 1 + 1) ((((w.alloc (.cells #[.slice a1 m1 c1, .slice a2 m2 c2, .slice a3 m3 c3] 38)).alloc (.cells #[] 3)).alloc (.cells #[.slice (some ⟨w.heap.size + 1, 0, none⟩) 0 0] 29)).alloc (.cells #[.bool false] 4)) from
    ⟨fun g => Iff.rfl, by omega, ⟨_, kept_o' k3 x3, o4.mono (by omega), fun g hg => by
      have : w.heap.size + 1 = g := by simpa [Value.ownBlock] using hg
      omega⟩, k4⟩)
  have HB4 := Lib.hid b4
  have hlt : w.heap.size < (w.alloc (.cells #[.slice a1 m1 c1, .slice a2 m2 c2, .slice a3 m3 c3] 38)).heap.size := by omega
  have e0 := blkc k1 (j := 0) rfl
  have e1 := blkc k1 (j := 1) rfl
  have e2 := blkc k1 (j := 2) rfl
  have HRF := Lib.hid (runV_few p d)
  clear b1 b2 b3 b4 z1 z2 z3 o2 k3 k4 x2 x3 o4 hp hd hok hfb k1
  unfold fewL fewB
  generalize fewO p d = O at *
  go_enter Tryz.func79, Tryz.ntmps79
  go_wp2_with fail
  generalize (((w.alloc (.cells #[.slice a1 m1 c1, .slice a2 m2 c2, .slice a3 m3 c3] 38)).alloc (.cells #[] 3)).alloc (.cells #[.slice (some ⟨w.heap.size + 1, 0, none⟩) 0 0] 29)).alloc (.cells #[.bool false] 4) = w4 at *
  refine (HEX.out (w.heap.size + 1 + 1) (w.heap.size + 1 + 1 + 1) _ w4 HJ.out HB4.out (fun g hg => by
    have hg : g = w.heap.size + 1 + 1 ∨ g = w.heap.size + 1 + 1 + 1 := hg
    omega)).mono ?_
  rintro e w5 ⟨rfl, T5, h1, h2⟩
  rw [HRF.out] at h1
  obtain ⟨vo, q1, q2, -⟩ := h1.c
  have q3 := h1.f
  have HO := Lib.hid q2
  have HB5 := Lib.hid (h2.below HB4.out HB4.out.size (fun g hg => by
    have hg : g = w.heap.size + 1 + 1 ∨ g = w.heap.size + 1 + 1 + 1 := hg
    omega))
  have y1 := blkc q1 (j := 0) rfl
  have y2 := blkc q3 (j := 0) rfl
  obtain ⟨a7, c7, n7, -, rfl, -, -, -⟩ := q2.rd.opn
  clear h1 h2 q1 q2 q3 e0 e1 e2
  go_wp2
  go_quiet (fail)
  go_wp2
  go_ret2
  exact ⟨_, rfl, HO.out.belowAll (Dr.below ⟨_, rfl⟩ (Below.refl _ _)), Dr.below ⟨_, rfl⟩ HB5.out⟩
/-! ### FewestFailures -/
def ffR (p : Pln) (d : List Int) : List Int := if dwOk p d then fewL p d else []
def ffB (p : Pln) (d : List Int) : Bool := dwOk p d && fewB p d
def FfP (p : Pln) (d : List Int) (w : World) (e : Ending) (w' : World) : Prop := ∃ v, e = .returned (.tuple #[v, .bool (ffB p d), .bool (dwOk p d)]) ∧ Ofr w' w.heap.size (inD (ffR p d)) v ∧ Below w.heap.size w w'
end Go.Proofs.YtmkkdenhjfjmgaaGreat
namespace Go.Proofs.YtmkkdenhjfjmgaaGreat
open Go.RowKit Go.Sort
set_option maxRecDepth 100000

theorem uq_exl {p : Pln} {d : List Int} (hd : dwOk p d = true) (c : Nat) : (chv (sps p d) c 0 []).filter (uq (hmks p) (dmk p d)) = exl p d c := (exl_spec hd c).symm
/-- The first element of a fresh row of lists. -/
theorem GrX.first {w : World} {base lo n cap g : Nat} {T : TypeId} {x : List Int} {xs : List (List Int)} {us : List Value} {fs : List (List Nat)} (h : GrX w base lo T 1 (.slice (some ⟨g, 0, none⟩) n cap) n ((x :: xs).map inD) us fs) : ∃ u, w.cell? ⟨g, 0, none⟩ = some u ∧ Own w lo u x := by
  have h1 := h.e.ul
  have h2 := h.e.fl
  rw [List.length_map] at h1 h2
  have hu : 0 < us.length := by rw [h1]; simp
  have hf : 0 < fs.length := by rw [h2]; simp
  refine ⟨us[0], ?_, ((h.e.els 0 (inD x) us[0] fs[0] rfl (List.getElem?_eq_getElem hu) (List.getElem?_eq_getElem hf)).toOwn (fun k hk => h.e.lo k (List.mem_flatten.2 ⟨_, List.getElem_mem hf, hk⟩))).1⟩
  have := h.cells 0 _ (List.getElem?_eq_getElem hu)
  simpa [Addr.add] using this
theorem exTo_zero (p : Pln) (d : List Int) : exTo p d 0 = [] := rfl
theorem exTo_more {p : Pln} {d : List Int} {k : Nat} (h : exTo p d k = []) (h2 : exl p d k = []) : exTo p d (k + 1) = [] := by rw [exTo_succ, h, h2]; rfl
set_option maxHeartbeats 3200000 in
theorem l25Fewest_any (vh : Value) (p : Pln) (d : List Int) (w : World) (hh : Rd w vh (nats (hmks p))) (hd : dwOk p d = true) :
    Calls Tryz.prog 78 #[vh, .int .i64 (dmk p d)] w fun e w' => ∃ v', e = .returned (.tuple #[v', .bool (fewB p d)]) ∧ Own w' w.heap.size v' (fewL p d) ∧ Below w.heap.size w w' := by
  have HSU := Lib.hid (l25Suspects_any vh p d w hh hd)
  have hsz := plnOk_sz (dwOk_parts hd).1
  obtain ⟨n, HN⟩ : ∃ n, Hid ((sps p d).length = n) := ⟨_, rfl⟩
  have hn23 : n ≤ 23 := by have h1 := HN.out; have h2 := susTo_len p d (grps p.n).length; have h3 := hsz.2.2.2; unfold sps at h1; omega
  have HCH := Lib.hid (fun (k : Nat) (hk : k ≤ n) vs w' base vc (h1 : Rd w' vh (nats (hmks p))) (h2 : Rd w' vs (sps p d)) (h3 : Own w' base vc []) (h4 : base ≤ w'.heap.size) =>
    l25Choose_any (hmks p) (sps p d) (dmk p d) (fun m hm => Nat.lt_of_lt_of_le (hmks_mem p m hm) (Nat.pow_le_pow_right (by omega) hsz.2.1)) (fun i hi => by unfold hmks; rw [List.length_map]; exact sps_bd (fun y hy => hy) i hi) (by rw [HN.out]; exact hn23) k 0 vh vs vc [] base w' h1 h2 h3 h4 (Nat.zero_le _) (by simp; omega) (fun i hi => by cases hi))
  have HUX := Lib.hid (fun c => @uq_exl p d hd c)
  have HHR := Lib.hid (fun w' (hb : Below w.heap.size w w') => hh.belowAll hb)
  have HFA := Lib.hid (fun k hk h0 x xs h => @few_at p d k hk h0 x xs h)
  have HFN := Lib.hid (@few_none p d)
  rw [HN.out] at HFA HFN
  obtain ⟨ah, ch, nh, -, rfl, -, -, -⟩ := hh.opn
  unfold fewL fewB
  generalize fewO p d = O at *
  generalize dmk p d = M at *
  clear hsz hh hd
  go_enter Tryz.func78, Tryz.ntmps78
  go_wp2_with fail
  refine HSU.out.mono ?_
  rintro e w2 ⟨v2, rfl, o2, b2⟩
  have HRS := Lib.hid (fun w' (hb : Below w2.heap.size w2 w') => o2.rd.belowAll hb)
  obtain ⟨a7, c7, n7, HN7, rfl, -, -, -⟩ := o2.rd.opn
  obtain rfl : n = n7 := by have := HN.out; have := HN7.out; omega
  have HB2 := Lib.hid b2
  clear b2 o2 HSU
  go_wp2
  go_loopw [7, 8] (fun i _ wr => ∃ (k : Nat), k ≤ n + 1 ∧ i = .int .i64 k ∧ Hid (exTo p d k = []) ∧ Hid (Below w2.heap.size w2 wr)) (fun i _ _ => n + 1 - (intOf i).toNat)
  case atStart => exact ⟨0, Nat.zero_le _, rfl, exTo_zero p d, Below.refl _ _⟩
  case round =>
    obtain ⟨k, hk, rfl, HX, HB⟩ := hrel
    have HBW := Lib.hid (HB2.out.trans (HB.out.mono HB2.out.size))
    by_cases hlt : k ≤ n
    · have hltI : (k : Int) ≤ (n : Int) := by omega
      have hb1 := (Below.refl wr.heap.size wr).alloc (Nat.le_refl _) (.cells #[] 3)
      have hcall := HCH.out k hlt (.slice a7 n c7) (wr.alloc (.cells #[] 3)) w.heap.size (.slice (some ⟨wr.heap.size, 0, none⟩) 0 0) (HHR.out _ (HBW.out.trans (hb1.mono HBW.out.size))) (HRS.out _ (HB.out.trans (hb1.mono HB.out.size))) ((own_none wr 3).mono HBW.out.size) (Nat.le_trans HBW.out.size hb1.size)
      rw [HUX.out k] at hcall
      have HC := Lib.hid hcall
      have HB1 := Lib.hid (HB.out.trans (hb1.mono HB.out.size))
      have HF1 := Lib.hid (HFA.out k hlt HX.out)
      have HX1 := Lib.hid (@exTo_more p d k HX.out)
      generalize exl p d k = L at *
      clear hcall hb1 hlt
      go_wp2_with fail
      generalize wr.alloc (.cells #[] 3) = w3 at *
      refine HC.out.mono ?_
      rintro e w4 ⟨v4, rfl, h4⟩
      obtain ⟨g, m, cap, us, fs, rfl, hm, hG, b4⟩ := h4
      have HB4 := Lib.hid (HB1.out.trans (b4.mono HB1.out.size))
      clear b4
      cases L with
      | nil =>
        obtain rfl : m = 0 := by simpa using hm.symm
        have HE := Lib.hid (HX1.out rfl)
        clear hG hm
        go_wp2
        go_roundw
        case rel => exact ⟨k + 1, by omega, by go_num, HE.out, HB4.out⟩
        case measure => simp [intOf]; omega
      | cons x xs =>
        have HO := Lib.hid (HF1.out x xs rfl)
        obtain ⟨u, hu, ho⟩ := hG.first
        have hm0 : 0 < m := by rw [← hm]; simp
        have hmI : (0 : Int) < (m : Int) := by omega
        have HOW := Lib.hid ho
        have HB5 := Lib.hid (HB2.out.trans (HB4.out.mono HB2.out.size))
        obtain ⟨a5, c5, n5, -, rfl, -, -, -⟩ := ho.rd.opn
        clear hG hm ho
        go_wp2
        go_ret2
        exact ⟨_, by rw [HO.out]; rfl, by rw [HO.out]; exact HOW.out, HB5.out⟩
    · obtain rfl : k = n + 1 := by omega
      have HO := Lib.hid (HFN.out HX.out)
      have hltI : ¬ ((n : Int) + 1) ≤ (n : Int) := by omega
      have HON := Lib.hid ((own_none wr 3).mono HBW.out.size)
      have HB5 := Lib.hid (HBW.out.alloc HBW.out.size (.cells #[] 3))
      clear hlt
      go_wp2
      go_ret2
      exact ⟨_, by rw [HO.out]; rfl, by rw [HO.out]; exact HON.out, HB5.out⟩
set_option maxHeartbeats 1600000 in
theorem specFew_any (v vg : Value) (p : Pln) (d : List Int) (w : World) (h : PlnR w v p) (hv : Rd w vg d) (hfb : ∀ i : Nat, (lgA p i).fb.length ≤ 1100000) :
    Calls Tryz.prog 35 #[v, vg] w (FfP p d w) := by
  have HDW := Lib.hid (fun w' (hb : Below w.heap.size w w') => l25Down_any v vg p d w' (h.behind hb) (hv.belowAll hb) hfb)
  have HHI := Lib.hid (fun (ho : dwOk p d = true) w' (hb : Below w.heap.size w w') => l25Hits_any v p w' (h.behind hb) (plnOk_sz (dwOk_parts ho).1).2.2.1 (plnOk_sz (dwOk_parts ho).1).2.1)
  have HSU := Lib.hid (fun (ho : dwOk p d = true) w' vh (hh : Rd w' vh (nats (hmks p))) => l25Fewest_any vh p d w' hh ho)
  obtain ⟨u1, u2, u3, rfl, r1, r2, r3, hsm⟩ := h
  have hnet : NetR w (.agg #[u1, u2]) p.n := ⟨u1, u2, rfl, r1, r2, hsm⟩
  obtain ⟨⟨a1, m1, c1, rfl⟩, a2, m2, c2, rfl⟩ := slice_of_net hnet
  obtain ⟨a3, m3, c3, rfl, -, -, -, -⟩ := lgt_opn r3
  obtain ⟨ag, cg, ng, -, rfl, -, -, -⟩ := hv.opn
  obtain ⟨bx, bc, blt, -⟩ := box_facts w #[.slice a1 m1 c1, .slice a2 m2 c2, .slice a3 m3 c3] 38
  have q0 := bc 0 _ rfl
  have q1 := bc 1 _ rfl
  have q2 := bc 2 _ rfl
  have HBX := Lib.hid bx
  have HRY := Lib.hid (show dwOk p d = true → ffR p d = fewL p d from fun e => by unfold ffR; rw [if_pos e])
  have HRN := Lib.hid (show dwOk p d = false → ffR p d = [] from fun e => by unfold ffR; rw [e]; rfl)
  have HBB := Lib.hid (show ffB p d = (dwOk p d && fewB p d) from rfl)
  have HDR := Lib.hid (show dwOk p d = true → dwR p d = dmk p d from fun e => by unfold dwR; rw [if_pos e])
  unfold FfP
  unfold DwP at HDW
  generalize ffR p d = R at *
  generalize ffB p d = B at *
  generalize fewL p d = H at *
  generalize fewB p d = HB at *
  generalize dwR p d = M0 at *
  clear hv r1 r2 r3 hsm hnet hfb bx bc
  go_enter Tryz.func35, Tryz.ntmps35
  go_wp2_with fail
  generalize w.alloc (.cells #[.slice a1 m1 c1, .slice a2 m2 c2, .slice a3 m3 c3] 38) = w1 at *
  have HV1 := Lib.hid (HDW.out w1 HBX.out)
  cases hok : dwOk p d
  · have HE := Lib.hid (HRN.out hok)
    have HE2 := Lib.hid (show B = false by rw [HBB.out, hok]; rfl)
    rw [hok] at HV1
    have HOK := Lib.hid hok
    clear HDW HHI HSU HRY HRN HDR HBB hok
    refine HV1.out.mono ?_
    rintro e w2 ⟨rfl, b2⟩
    have HB2 := Lib.hid (HBX.out.trans (b2.mono HBX.out.size))
    have HON := Lib.hid (own_none w2 3)
    have HB3 := Lib.hid (HB2.out.alloc HB2.out.size (.cells #[] 3))
    have HSZ := Lib.hid HB2.out.size
    clear b2
    go_wp2
    refine bodyPost_ret (results_tmp3 rfl _ _ _) rfl ?_
    exact ⟨_, by rw [HOK.out, HE2.out]; rfl, by rw [HE.out]; exact (HON.out.mono HSZ.out).ofr, HB3.out⟩
  have HE := Lib.hid (HRY.out hok)
  have HE2 := Lib.hid (show B = HB by rw [HBB.out, hok]; rfl)
  have HH := Lib.hid (HHI.out hok)
  have HS := Lib.hid (HSU.out hok)
  have HMM := HDR.out hok
  rw [hok, HMM] at HV1
  have HOK := Lib.hid hok
  clear HDW HHI HSU HRY HRN HDR hok HMM HBB
  generalize dmk p d = M at *
  refine HV1.out.mono ?_
  rintro e w2 ⟨rfl, b2⟩
  have e0 := (b2.cell (p := ⟨w.heap.size, 0, none⟩) blt).trans q0
  have e1 := (b2.cell (p := ⟨w.heap.size, 1, none⟩) blt).trans q1
  have e2 := (b2.cell (p := ⟨w.heap.size, 2, none⟩) blt).trans q2
  have HB2 := Lib.hid (HBX.out.trans (b2.mono HBX.out.size))
  clear b2 q0 q1 q2
  go_wp2_with fail
  refine (HH.out w2 HB2.out).mono ?_
  rintro e w3 ⟨v3, rfl, o3, b3⟩
  have HB3 := Lib.hid (HB2.out.trans (b3.mono HB2.out.size))
  have HS3 := Lib.hid (HS.out w3 v3 o3.rd)
  obtain ⟨a5, c5, n5, -, rfl, -, -, -⟩ := o3.rd.opn
  clear b3 o3
  go_wp2_with fail
  refine HS3.out.mono ?_
  rintro e w4 ⟨v4, rfl, o4, b4⟩
  obtain ⟨a7, c7, n7, -, rfl, -, -, -⟩ := o4.rd.opn
  have HB4 := Lib.hid (HB3.out.trans (b4.mono HB3.out.size))
  have HO4 := Lib.hid (o4.mono HB3.out.size)
  clear b4 o4
  go_wp2
  refine bodyPost_ret (results_tmp3 rfl _ _ _) rfl ?_
  exact ⟨_, by rw [HOK.out, HE2.out]; rfl, by rw [HE.out]; exact HO4.out.ofr, HB4.out⟩
end Go.Proofs.YtmkkdenhjfjmgaaGreat
namespace Go.Proofs.YtmkkdenhjfjmgaaGreat
open Go.RowKit Go.Sort
set_option maxRecDepth 100000

/-- The visitor's variables. -/
structure JMs (base bo bp bd : Nat) (a1 a2 a3 vd : Value) (s : List (List Int)) (T : Nat → Prop) (w : World) (g m cap : Nat) (us : List Value) (fs : List (List Nat)) : Prop where
  t : ∀ q, T q ↔ q = bo ∨ q = g
  ho : w.heap[bo]? = some (.cells #[.slice (some ⟨g, 0, none⟩) m cap] 63 (0, 0))
  hg : GrX w base (bo + 1) 29 1 (.slice (some ⟨g, 0, none⟩) m cap) m (s.map inD) us fs
  ne : g ≠ bo
  ml : s.length = m
  hp : w.heap[bp]? = some (.cells #[a1, a2, a3] 38 (0, 0))
  hd : w.heap[bd]? = some (.cells #[vd] 29 (0, 0))
  np : ¬ T bp
  nd : ¬ T bd
theorem JMs.below {base bo bp bd : Nat} {a1 a2 a3 vd : Value} {s : List (List Int)} {T : Nat → Prop} {w w' : World} {g m cap : Nat} {us : List Value} {fs : List (List Nat)} (h : JMs base bo bp bd a1 a2 a3 vd s T w g m cap us fs) (hb : Below w.heap.size w w') : JMs base bo bp bd a1 a2 a3 vd s T w' g m cap us fs :=
  ⟨h.t, kept_o' h.ho hb, h.hg.below hb, h.ne, h.ml, kept_o' h.hp hb, kept_o' h.hd hb, h.np, h.nd⟩
theorem JMs.lt {base bo bp bd : Nat} {a1 a2 a3 vd : Value} {s : List (List Int)} {T : Nat → Prop} {w : World} {g m cap : Nat} {us : List Value} {fs : List (List Nat)} (h : JMs base bo bp bd a1 a2 a3 vd s T w g m cap us fs) {q : Nat} (hq : T q) : q < w.heap.size := by
  rcases (h.t q).1 hq with rfl | rfl
  · exact (Array.getElem?_eq_some_iff.1 h.ho).1
  · exact h.hg.lt q (.inl rfl)
theorem Mv.grown {T : Nat → Prop} {w w' : World} {v : Value} {g g' bo : Nat} (h : w.grownBy w' v.ownBlock) (hv : v.ownBlock = some g) (ht : ∀ q, T q ↔ q = bo ∨ q = g) (hat : v.ownBlock = some g' ∨ g' = w.heap.size) : Mv T (fun q => q = bo ∨ q = g') w w' :=
  ⟨h.os, h.tape, h.output, h.size, fun q hq hn => h.block q hq (fun e => hn ((ht q).2 (.inr (by rw [hv] at e; exact Option.some.inj e)))), fun q hq => by
    rcases hq with hq | hq
    · exact .inl ((ht q).2 (.inl hq))
    · rcases hat with e | e
      · exact .inl ((ht q).2 (.inr (by rw [hv] at e; rw [hq]; exact (Option.some.inj e).symm)))
      · exact .inr (by rw [hq, e]; exact Nat.le_refl _)⟩
end Go.Proofs.YtmkkdenhjfjmgaaGreat
namespace Go.Proofs.YtmkkdenhjfjmgaaGreat
open Go.RowKit Go.Sort
set_option maxRecDepth 100000

theorem GrX.keptM {w w' : World} {base lo size n : Nat} {e : TypeId} {v : Value} {ds : List Dt} {us : List Value} {fs : List (List Nat)} {T T' : Nat → Prop} (h : GrX w base lo e size v n ds us fs) (hm : Mv T T' w w') (hT : ∀ q, (v.ownBlock = some q ∨ q ∈ fs.flatten) → ¬ T q) : GrX w' base lo e size v n ds us fs :=
  h.kept fun q hq => hm.block q (h.lt q hq) (hT q hq)
end Go.Proofs.YtmkkdenhjfjmgaaGreat
namespace Go.Proofs.YtmkkdenhjfjmgaaGreat
open Go.RowKit Go.Sort

theorem rng_asc (G : Nat) (f : Nat → Bool) : (((List.range G).filter f).map fun g : Nat => (g : Int)).Pairwise (· < ·) := by
  rw [List.pairwise_map]
  exact (List.Pairwise.filter _ List.pairwise_lt_range).imp fun h => by omega
/-- Two rows of the call's own that lie apart. -/
def Apt (u v : Value) : Prop := ∀ q, u.ownBlock = some q → v.ownBlock ≠ some q
theorem Apt.nil (v : Value) : Apt (.slice none 0 0) v := fun q h => by simp [Value.ownBlock] at h
/-! ### Counting, as the reference does -/
end Go.Proofs.YtmkkdenhjfjmgaaGreat
namespace Go.Proofs.YtmkkdenhjfjmgaaGreat
open Go.RowKit

section
variable {P : Program} {ops : Array Oper} {Q : Exit → Act → World → Prop} {md : Region.Mode} {S : World → Prop} {U : List Nat}
/-- One of the operations U has not come up yet. -/
def lft (U : List Nat) (listed : Array Bool) : Bool := U.any fun k => !listed.getD k true
/-- One of the operations U that has not come up yet waits for number i. -/
def waits (md : Region.Mode) (ops : Array Oper) (U : List Nat) (listed : Array Bool) (i : Nat) : Bool := U.any fun m => !listed.getD m true && m != i && ((ops[m]?).map (·.after.any fun e => Region.binds md e && e.on == i)).getD false
theorem lft_of {listed : Array Bool} {m : Nat} (hm : m ∈ U) (hl : listed.getD m true = false) : lft U listed = true := by
  unfold lft
  exact List.any_eq_true.2 ⟨m, hm, by rw [hl]; rfl⟩
theorem waits_iff {listed : Array Bool} {i : Nat} : waits md ops U listed i = true ↔ ∃ m om, m ∈ U ∧ ops[m]? = some om ∧ m ≠ i ∧ listed.getD m true = false ∧ ∃ e ∈ om.after, Region.binds md e = true ∧ e.on = i := by
  unfold waits
  rw [List.any_eq_true]
  constructor
  · rintro ⟨m, h1, h2⟩
    simp only [Bool.and_eq_true, Bool.not_eq_true', bne_iff_ne, ne_eq] at h2
    obtain ⟨⟨h3, h4⟩, h5⟩ := h2
    cases ho : ops[m]? with
    | none => rw [ho] at h5; cases h5
    | some om =>
      rw [ho] at h5
      obtain ⟨e, he, hb⟩ := Array.any_eq_true'.1 (show om.after.any (fun e => Region.binds md e && e.on == i) = true from h5)
      simp only [Bool.and_eq_true, beq_iff_eq] at hb
      exact ⟨m, om, h1, ho, h4, h3, e, he, hb.1, hb.2⟩
  · rintro ⟨m, om, h1, ho, h4, h3, e, he, hb1, hb2⟩
    refine ⟨m, h1, ?_⟩
    simp only [Bool.and_eq_true, Bool.not_eq_true', bne_iff_ne, ne_eq]
    refine ⟨⟨h3, h4⟩, ?_⟩
    rw [ho]
    show om.after.any (fun e => Region.binds md e && e.on == i) = true
    exact Array.any_eq_true'.2 ⟨e, he, by simp [hb1, hb2]⟩
/-- Whatever order is picked, and S holds behind every operation behind which something is left to do. -/
def wpAnyL (P : Program) (md : Region.Mode) (ops : Array Oper) (U : List Nat) (Q : Exit → Act → World → Prop) (S : World → Prop) : Nat → Array Bool → Act → World → Prop
  | 0, listed, a, w => Region.ready md ops listed = [] ∧ Q .normal a w
  | fuel + 1, listed, a, w =>
    (Region.ready md ops listed = [] → Q .normal a w) ∧
    ∀ i ∈ Region.ready md ops listed, wpOp P ops Q i (fun a' w' => (lft U (listed.setIfInBounds i true) = true → S w') ∧ wpAnyL P md ops U Q S fuel (listed.setIfInBounds i true) a' w') a w
theorem wpAny_of_L : ∀ (fuel : Nat) (listed : Array Bool) (a : Act) (w : World), wpAnyL P md ops U Q S fuel listed a w → wpAny P md ops Q fuel listed a w
  | 0, _, _, _, h => h
  | fuel + 1, _, _, _, h => ⟨h.1, fun i hi => wpOp_mono (fun a' w' h' => wpAny_of_L fuel _ a' w' h'.2) (h.2 i hi)⟩
theorem wpAnyL_first {i : Nat} {oi : Oper} {v : Value} (hi : ops[i]? = some oi) (hsel : ∀ (j : Nat) (o : Oper) cs b, ops[j]? = some o → o.op ≠ .select cs b)
    (hQ : ∀ c a w, Q (.panic c) (a.put oi.dst v) w → Q (.panic c) a w) :
    ∀ (fuel : Nat) (listed : Array Bool) (a : Act) (w : World),
      (∀ j oj, ops[j]? = some oj → j ≠ i → listed.getD j true = false → (∀ e ∈ oj.after, Region.binds md e = true → e.on ≠ i) → oi.apart ops oj = true) →
      i ∈ Region.ready md ops listed → waits md ops U listed i = true → YieldsIf P ops S oi v a → S w →
      wpAnyL P md ops U Q S fuel (listed.setIfInBounds i true) (a.put oi.dst v) w → wpAnyL P md ops U Q S (fuel + 1) listed a w := by
  intro fuel
  induction fuel with
  | zero =>
    intro listed a w _ hr _ hy hS H
    refine ⟨fun h => (by rw [h] at hr; cases hr), fun j hj => ?_⟩
    by_cases hji : j = i
    · subst hji; exact hy.wpOp hi hS ⟨fun _ => hS, H⟩
    · have := ready_mono hj hji
      rw [H.1] at this
      cases this
  | succ fuel ih =>
    intro listed a w hfree hr hwt hy hS H
    refine ⟨fun h => (by rw [h] at hr; cases hr), fun j hj => ?_⟩
    by_cases hji : j = i
    · subst hji; exact hy.wpOp hi hS ⟨fun _ => hS, H⟩
    · have h1 := H.2 j (ready_mono hj hji)
      obtain ⟨hjun, oj, hoj, hall⟩ := mem_ready.1 hj
      have hnot : ∀ e ∈ oj.after, Region.binds md e = true → e.on ≠ i := fun e he hb heq => by
        have h1 := hall e he hb
        have h0 := (mem_ready.1 hr).1
        rw [heq] at h1
        rcases Nat.lt_or_ge i listed.size with h' | h'
        · simp [h'] at h0 h1; rw [h0] at h1; cases h1
        · simp [Array.getElem?_eq_none h'] at h1
      have h2 := wpOp_putIf hoj (hfree j oj hoj hji hjun hnot) (fun cs b => hsel i oi cs b hi) (fun cs b => hsel j oj cs b hoj) hQ hy h1
      have hfree' : ∀ k ok, ops[k]? = some ok → k ≠ i → (listed.setIfInBounds j true).getD k true = false →
          (∀ e ∈ ok.after, Region.binds md e = true → e.on ≠ i) → oi.apart ops ok = true := fun k ok hk hki hun hno => by
        refine hfree k ok hk hki ?_ hno
        by_cases hjk : j = k
        · subst hjk; exact hjun
        · rw [getD_set_ne true hjk] at hun; exact hun
      obtain ⟨m, om, hmU, hom, hmi, hml, e, he, hb1, hb2⟩ := waits_iff.1 hwt
      have hmj : j ≠ m := fun h => by
        subst h
        rw [hoj] at hom
        cases hom
        exact hnot e he hb1 hb2
      have hml2 : (listed.setIfInBounds j true).getD m true = false := by rw [getD_set_ne true hmj]; exact hml
      have hwt2 : waits md ops U (listed.setIfInBounds j true) i = true := waits_iff.2 ⟨m, om, hmU, hom, hmi, hml2, e, he, hb1, hb2⟩
      have hl2 : lft U ((listed.setIfInBounds i true).setIfInBounds j true) = true :=
        lft_of hmU (by rw [getD_set_ne true hmj, getD_set_ne true (Ne.symm hmi)]; exact hml)
      refine wpOp_mono (fun a' w' h3 => ⟨fun _ => h3.2.1 hl2, ih (listed.setIfInBounds j true) a' w' hfree' (ready_mono hr (Ne.symm hji)) hwt2 h3.1 (h3.2.1 hl2) ?_⟩) h2
      rw [Array.setIfInBounds_comm _ _ hji]
      exact h3.2.2
theorem get_of_drop {i : Nat} {o : Oper} {tl : List Oper} (h : ops.toList.drop i = o :: tl) : ops[i]? = some o := by
  have : (ops.toList.drop i)[0]? = some o := by rw [h]; rfl
  rw [List.getElem?_drop, Nat.add_zero] at this
  simpa using this
/-- An operation that yields the same in every world that meets S is taken first. -/
theorem hlTake (i : Nat) {oi : Oper} {v : Value} {fuel : Nat} {listed : Array Bool} {a : Act} {w : World} {tl : List Oper} (hi : ops.toList.drop i = oi :: tl)
    (hs : Region.noSelect ops = true) (hf : Region.free md ops listed i = true) (hr : (Region.ready md ops listed).contains i = true) (hwt : waits md ops U listed i = true)
    (hQ : ∀ c a w, Q (.panic c) (a.put oi.dst v) w → Q (.panic c) a w) (hw : Region.wanted oi (yielded ops a.tmps) = true) (hy : ∀ w, S w → (execOp a.eval oi).run P w = .ok (.value v) w) (hS : S w)
    (h : wpAnyL P md ops U Q S fuel (listed.setIfInBounds i true) (a.put oi.dst v) w) : wpAnyL P md ops U Q S (fuel + 1) listed a w :=
  wpAnyL_first (get_of_drop hi) (Region.noSelect_spec hs) hQ fuel listed a w (Region.free_spec (get_of_drop hi) hf) (by simpa using hr) hwt (.inl ⟨hw, hy⟩) hS h
/-- An operation that is not wanted is taken first. -/
theorem hlSkip (i : Nat) {oi : Oper} {fuel : Nat} {listed : Array Bool} {a : Act} {w : World} {tl : List Oper} (hi : ops.toList.drop i = oi :: tl)
    (hs : Region.noSelect ops = true) (hf : Region.free md ops listed i = true) (hr : (Region.ready md ops listed).contains i = true) (hwt : waits md ops U listed i = true)
    (hQ : ∀ c a w, Q (.panic c) (a.put oi.dst undef) w → Q (.panic c) a w) (hw : Region.wanted oi (yielded ops a.tmps) = false) (hS : S w)
    (h : wpAnyL P md ops U Q S fuel (listed.setIfInBounds i true) (a.put oi.dst undef) w) : wpAnyL P md ops U Q S (fuel + 1) listed a w :=
  wpAnyL_first (get_of_drop hi) (Region.noSelect_spec hs) hQ fuel listed a w (Region.free_spec (get_of_drop hi) hf) (by simpa using hr) hwt (.inr ⟨hw, rfl⟩) hS h
def AllReadyL (P : Program) (md : Region.Mode) (ops : Array Oper) (U : List Nat) (Q : Exit → Act → World → Prop) (S : World → Prop) (fuel : Nat) (listed : Array Bool) (a : Act) (w : World) (rs : List Nat) : Prop :=
  ∀ i ∈ rs, wpOp P ops Q i (fun a' w' => (lft U (listed.setIfInBounds i true) = true → S w') ∧ wpAnyL P md ops U Q S fuel (listed.setIfInBounds i true) a' w') a w
theorem AllReadyL.nil {fuel : Nat} {listed : Array Bool} {a : Act} {w : World} : AllReadyL P md ops U Q S fuel listed a w [] := fun _ h => by cases h
theorem AllReadyL.cons {fuel : Nat} {listed : Array Bool} {a : Act} {w : World} {i : Nat} {o : Oper} {rs : List Nat} {tl : List Oper} (ho : ops.toList.drop i = o :: tl)
    (h : ∀ K' : Act → World → Prop, Shut (∀ a w, S w → (S w → wpAnyL P md ops U Q S fuel (listed.setIfInBounds i true) a w) → K' a w) → if Region.wanted o (yielded ops a.tmps) = true then Oper.wp P o a w K' Q else K' (a.put o.dst undef) w)
    (hs : AllReadyL P md ops U Q S fuel listed a w rs) : AllReadyL P md ops U Q S fuel listed a w (i :: rs) := fun j hj => by
  rcases List.mem_cons.1 hj with rfl | hj
  · exact wpOp_step (get_of_drop ho) (fun K' hK => h K' (fun a w hS hW => hK a w ⟨fun _ => hS, hW hS⟩))
  · exact hs j hj
theorem hlReady {rs : List Nat} {fuel : Nat} {listed : Array Bool} {a : Act} {w : World} (hr : Region.ready md ops listed = rs) (hne : rs ≠ [])
    (h : AllReadyL P md ops U Q S fuel listed a w rs) : wpAnyL P md ops U Q S (fuel + 1) listed a w :=
  ⟨fun h0 => absurd (hr ▸ h0) hne, hr ▸ h⟩
/-- An operation behind which S is not asked for. -/
theorem hlStep (i : Nat) {fuel : Nat} {listed : Array Bool} {a : Act} {w : World} {o : Oper} {tl : List Oper} (ho : ops.toList.drop i = o :: tl) (hr : Region.ready md ops listed = [i]) (hl : lft U (listed.setIfInBounds i true) = false)
    (h : ∀ K' : Act → World → Prop, Shut (∀ a w, wpAnyL P md ops U Q S fuel (listed.setIfInBounds i true) a w → K' a w) → if Region.wanted o (yielded ops a.tmps) = true then Oper.wp P o a w K' Q else K' (a.put o.dst undef) w) : wpAnyL P md ops U Q S (fuel + 1) listed a w :=
  hlReady hr (by simp) fun j hj => by
    obtain rfl : j = i := by simpa using hj
    exact wpOp_step (get_of_drop ho) (fun K' hK => h K' (fun a w hW => hK a w ⟨fun h => (by rw [hl] at h; cases h), hW⟩))
/-- All have come up. -/
theorem hlDone {listed : Array Bool} {a : Act} {w : World} (hr : Region.ready md ops listed = []) (h : Q .normal a w) : ∀ fuel, wpAnyL P md ops U Q S fuel listed a w
  | 0 => ⟨hr, h⟩
  | _ + 1 => ⟨fun _ => h, by rw [hr]; simp⟩
theorem wp_region_L (U : List Nat) {id : Nat} {a : Act} {w : World} (hm : P.follows .mixedOrders = true) (hS : S w.drew)
    (h : S w.drew → wpAnyL P .any ops U Q S ops.size (Array.replicate ops.size false) a w.drew) : (Code.region id ops true).wp P Q a w :=
  wp_region_any hm (wpAny_of_L _ _ _ _ (h hS))
end
end Go.Proofs.YtmkkdenhjfjmgaaGreat
