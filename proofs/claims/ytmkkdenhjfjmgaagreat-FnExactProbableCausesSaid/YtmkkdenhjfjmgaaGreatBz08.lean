/- Joined: XGrs XLal XAlbP XAlbQ. -/
import Derived.Test.YtmkkdenhjfjmgaaGreatBz07
import Derived.Test.YtmkkdenhjfjmgaaGreatBz05
import Derived.Test.YtmkkdenhjfjmgaaGreatBz06
import Derived.Test.YtmkkdenhjfjmgaaGreatBz03
import Derived.Test.YtmkkdenhjfjmgaaGreatBz01
namespace Go.Proofs.YtmkkdenhjfjmgaaGreat
open Go.RowKit Go.Sort
set_option maxRecDepth 100000

/-- No fiber of a risk. -/
theorem grpTo_nil {n : Net} {ri : Int} {k : Nat} (h : ∀ i, i < k → ¬ (fbA n i).r = ri) : (grpTo n ri k).length = 0 := by
  induction k with
  | zero => rfl
  | succ k ih => rw [grpTo_no (h k (Nat.lt_succ_self _))]; exact ih fun i hi => h i (by omega)
theorem grpTo_mem {n : Net} {ri : Int} {k i : Nat} (hi : i < k) (h : (fbA n i).r = ri) : ¬ (grpTo n ri k).length = 0 := by
  induction k with
  | zero => omega
  | succ k ih =>
    by_cases e : i = k
    · subst e; rw [grpTo_yes h, List.length_append]; simp
    · by_cases e2 : (fbA n k).r = ri
      · rw [grpTo_yes e2, List.length_append]; simp
      · rw [grpTo_no e2]; exact ih (by omega)
theorem gA_found {n : Net} {g k : Nat} (hk : k < n.fs.length) (h : (fbA n k).r = ((g + 1 : Nat) : Int)) : gA n (g + 1) = gA n g ++ [grpF n k] := by
  rw [gA_yes (grpTo_mem hk h)]
  unfold grpF grp
  rw [if_neg (by rw [h]; omega), h]
theorem upto_not {k : Nat} {P : Nat → Prop} (h : ∀ i, i < k → P i) (hk : P k) : ∀ i, i < k + 1 → P i := fun i hi => by
  rcases Nat.lt_succ_iff_lt_or_eq.1 hi with e | rfl
  · exact h i e
  · exact hk

set_option maxHeartbeats 3200000 in
theorem l2Groups_any (u1 u2 : Value) (n : Net) (w : World) (h : NetR w (.agg #[u1, u2]) n) (hl : n.fs.length ≤ 100000) :
    Calls Tryz.prog 96 #[.agg #[u1, u2]] w fun e w' => ∃ v', e = .returned v' ∧ Ofr w' w.heap.size (ssD (grps n)) v' ∧ Below w.heap.size w w' := by
  have HN := Lib.hid (fun i hi w' (hb : Below w.heap.size w w') => l2Group_any u1 u2 n i w' (h.behind hb) hi hl)
  obtain ⟨x1, x2, e, r1, r2, hsm⟩ := h
  simp only [Value.agg.injEq, Array.mk.injEq, List.cons.injEq, and_true] at e
  obtain ⟨rfl, rfl⟩ := e
  obtain ⟨a1, m1, c1, rfl⟩ := Rdt.slice' r1
  obtain ⟨a2, m2, c2, rfl, HN2, hc2, hm2, ha2⟩ := flt_opn (m := 4) (enc := fibE) (fun _ => rfl) (by omega) nilB r2
  have hm10 : m2 ≤ 100000 := by have := HN2.out; omega
  have HC := Lib.hid ha2
  obtain ⟨bx, bc, blt, -⟩ := box_facts w #[.slice a1 m1 c1, .slice a2 m2 c2] 35
  have q0 := bc 0 _ rfl
  have q1 := bc 1 _ rfl
  have HBX := Lib.hid bx
  clear bc bx ha2 r1 r2 hl hsm hc2 hm2
  have hs1 : (w.alloc (.cells #[.slice a1 m1 c1, .slice a2 m2 c2] 35)).heap.size = w.heap.size + 1 := by simp
  have HSZ := Lib.hid hs1
  have HG0 := Lib.hid (show Grw ((w.alloc (.cells #[.slice a1 m1 c1, .slice a2 m2 c2] 35)).alloc (.cells #[] 29)) (w.heap.size + 1) 29 1 (.slice (some ⟨w.heap.size + 1, 0, none⟩) 0 0) 0 [] by rw [← hs1]; exact Grw.start 29 (Nat.le_refl _))
  have HB0 := Lib.hid ((Below.refl (w.alloc (.cells #[.slice a1 m1 c1, .slice a2 m2 c2] 35)).heap.size (w.alloc (.cells #[.slice a1 m1 c1, .slice a2 m2 c2] 35))).alloc (Nat.le_refl _) (.cells #[] 29))
  have HGR := Lib.hid (show grps n = gA n 9 ++ gS n m2 by unfold grps; rw [HN2.out])
  have HAY := Lib.hid (fun g k hk h => @gA_found n g k hk h)
  have HAN := Lib.hid (fun g h => @gA_no n g (grpTo_nil h))
  have HGF := Lib.hid (fun k hk w' hb => HN.out k hk w' hb)
  rw [HN2.out] at HAY HAN HGF
  clear hs1 HN
  go_enter Tryz.func96, Tryz.ntmps96
  go_wp2
  generalize w.alloc (.cells #[.slice a1 m1 c1, .slice a2 m2 c2] 35) = w1 at *
  generalize w1.alloc (.cells #[] 29) = w2 at *
  go_loopw [3, 4] (fun s3 s4 wr => ∃ g : Nat, g ≤ 9 ∧ s4 = .int .i64 (g + 1 : Nat) ∧ Hid (Grw wr (w.heap.size + 1) 29 1 s3 (gA n g).length ((gA n g).map inD)) ∧ Hid (Below w1.heap.size w1 wr)) (fun _ i _ => 20 - (intOf i).toNat)
  case atStart => exact ⟨0, Nat.zero_le _, rfl, HG0.out, HB0.out⟩
  case round =>
    obtain ⟨g, hg, rfl, HG, HB⟩ := hrel
    obtain ⟨wo, hwo⟩ : ∃ wo, wo = wr := ⟨_, rfl⟩
    subst hwo
    obtain ⟨-, aR, cR, rfl⟩ := HG.out.form
    by_cases hlt : g < 9
    · have hgI : ((g + 1 : Nat) : Int) ≤ 9 := by omega
      have HLG := Lib.hid (gA_len n g)
      have HLG2 := Lib.hid (show (gA n g).length ≤ 1000000 by have := HLG.out; omega)
      have HY := Lib.hid (HAY.out g)
      have HN := Lib.hid (HAN.out g)
      obtain ⟨ri, hri⟩ : ∃ ri : Int, ((g + 1 : Nat) : Int) = ri := ⟨_, rfl⟩
      have HRI := Lib.hid hri
      rw [hri] at HY HN hgI
      have hri1 : IntKind.i64.wrap (ri + 1) = ((g + 1 + 1 : Nat) : Int) := by rw [IntWalk.i64_in _ (by omega)]; omega
      rw [hri]
      clear hri
      go_wp2
      go_loopw [3, 5] (fun s3 i wx => ∃ k : Nat, k ≤ m2 ∧ i = .int .i64 k ∧ s3 = .slice aR (gA n g).length cR ∧ Hid (∀ i, i < k → ¬ (fbA n i).r = ri) ∧ Hid (Below wo.heap.size wo wx)) (fun _ i _ => m2 - (intOf i).toNat)
      case atStart => exact ⟨0, Nat.zero_le _, rfl, rfl, (fun i hi => absurd hi (Nat.not_lt_zero i)), Below.refl _ _⟩
      case round =>
        obtain ⟨k, hk, rfl, rfl, HK, HBI⟩ := hrel
        have hB2 := HB.out.trans (HBI.out.mono HB.out.size)
        have HB2 := Lib.hid hB2
        have p1 := (hB2.cell (p := ⟨w.heap.size, 1, none⟩) (by rw [HSZ.out]; exact Nat.lt_succ_self _)).trans q1
        by_cases hlk : k < m2
        · have hltI : (k : Int) < (m2 : Int) := by omega
          obtain ⟨b, off, rfl, hbs, hcs⟩ := HC.out (by omega)
          have BW := HBX.out.trans (hB2.mono HBX.out.size)
          have HBW := Lib.hid BW
          have e3 := (BW.cell (p := ⟨b, off + k * 4 + 3, none⟩) hbs).trans (hcs k hlk 3 _ rfl)
          have p0 := (hB2.cell (p := ⟨w.heap.size, 0, none⟩) (by rw [HSZ.out]; exact Nat.lt_succ_self _)).trans q0
          have HUN := Lib.hid (fun h => upto_not (P := fun i => ¬ (fbA n i).r = ri) HK.out (k := k) h)
          have HFD := Lib.hid (HY.out k hlk)
          unfold fbA at HUN HFD
          clear BW hcs hB2
          generalize hrk : (n.fs[k]?.getD nilB).r = rk at *
          by_cases hr : rk = ri
          · have d1 : (rk == ri) = true := by simp [hr]
            have d2 : decide (rk = ri) = true := by simp [hr]
            have HE := Lib.hid (HFD.out hr)
            have HGI := Lib.hid (HG.out.below HBI.out)
            have HL2 := Lib.hid (HGF.out k hlk wr HBW.out)
            have HS2 := Lib.hid (show w.heap.size + 1 ≤ wr.heap.size by rw [← HSZ.out]; exact HB2.out.size)
            clear HUN HN HFD HY hr
            generalize grpF n k = gr at *
            go_wp2_with fail
            refine HL2.out.mono ?_
            rintro e w4 ⟨v4, rfl, o4, b4⟩
            obtain ⟨aI, cI, nI, -, rfl, -, -, -⟩ := o4.rd.opn
            have HO4 := Lib.hid o4.ofr
            have HB4 := Lib.hid b4
            have HB5 := Lib.hid (HB2.out.trans (b4.mono HB2.out.size))
            clear b4 o4 HL2
            go_wp2_with (at_builtin; go_loud (refine wpList_grow rfl (.tmp 27) (.tmp 31) 63 29 rfl Tryz.underlying63 (.slice none 0 0) 1 24 Tryz.infoRw rfl (by decide) (by decide) (w.heap.size + 1) (gA n g).length (.slice aR (gA n g).length cR) _ _ rfl HGI.out HS2.out HB4.out [.slice aI nI cI] (Newd.one HO4.out) rfl (by simp [Value.oneCell']) rfl HLG2.out ?_); intro v5 w5 o5 g5 l5; have HG5 := Lib.hid (Grw.next HE.out o5); have HB5 := Lib.hid (HB5.out.grown g5 HB5.out.size (fun q hq => (by rw [HSZ.out]; exact (HGI.out.own q hq).1))); clear o5 g5 l5)
            go_roundw
            case rel => exact ⟨g + 1, hlt, by go_num, HG5.out, HB5.out⟩
            case measure => have := HRI.out; simp [intOf]; omega
          · have d1 : (rk == ri) = false := by simp [hr]
            have d2 : decide (rk = ri) = false := by simp [hr]
            have HE := Lib.hid (HUN.out hr)
            clear HFD hr
            go_wp2
            go_roundw
            case rel => exact ⟨k + 1, hlk, by go_num, rfl, HE.out, HBI.out⟩
            case measure => simp [intOf]; omega
        · obtain rfl : m2 = k := by omega
          have HE := Lib.hid (HN.out HK.out)
          have HGI := Lib.hid (HG.out.below HBI.out)
          clear HY HN hB2
          go_wp2
          go_roundw
          case rel => exact ⟨g + 1, hlt, by go_num, by rw [HE.out]; exact HGI.out, HB2.out⟩
          case measure => have := HRI.out; simp [intOf]; omega
    · obtain rfl : g = 9 := by omega
      have HGB := Lib.hid (HB.out)
      rw [show ((9 + 1 : Nat) : Int) = 10 from rfl]
      go_wp2
      have HG1 := Lib.hid (show Grw wo (w.heap.size + 1) 29 1 (.slice aR (gA n 9).length cR) (gA n 9 ++ gS n 0).length ((gA n 9 ++ gS n 0).map inD) by simpa [gS] using HG.out)
      have HLG := Lib.hid (gA_len n 9)
      generalize gA n 9 = A at *
      go_loopw [3, 6] (fun s3 i wx => ∃ k : Nat, k ≤ m2 ∧ i = .int .i64 k ∧ Hid (Grw wx (w.heap.size + 1) 29 1 s3 (A ++ gS n k).length ((A ++ gS n k).map inD)) ∧ Hid (Below w1.heap.size w1 wx)) (fun _ i _ => m2 - (intOf i).toNat)
      case atStart => exact ⟨0, Nat.zero_le _, rfl, HG1.out, HGB.out⟩
      case round =>
        clear HG HG1 HB HGB
        obtain ⟨k, hk, rfl, HG, HB⟩ := hrel
        obtain ⟨-, aX, cX, rfl⟩ := HG.out.form
        have p1 := (HB.out.cell (p := ⟨w.heap.size, 1, none⟩) (by rw [HSZ.out]; exact Nat.lt_succ_self _)).trans q1
        by_cases hlk : k < m2
        · have hltI : (k : Int) < (m2 : Int) := by omega
          obtain ⟨b, off, rfl, hbs, hcs⟩ := HC.out (by omega)
          have BW := HBX.out.trans (HB.out.mono HBX.out.size)
          have e3 := (BW.cell (p := ⟨b, off + k * 4 + 3, none⟩) hbs).trans (hcs k hlk 3 _ rfl)
          have HGY := Lib.hid (@gS_yes n k)
          have HGN := Lib.hid (@gS_no n k)
          have HLO := Lib.hid (show (A ++ gS n k).length ≤ 1000000 by rw [List.length_append]; have h1 := gS_len n k; have h2 := HLG.out; omega)
          unfold fbA at HGY HGN
          clear BW hcs
          generalize (n.fs[k]?.getD nilB).r = rr at *
          by_cases hr : rr = 0
          · have HE2 := Lib.hid (show A ++ gS n (k + 1) = (A ++ gS n k) ++ [[(k : Int)]] by rw [HGY.out hr, List.append_assoc])
            subst hr
            generalize A ++ gS n k = out at *
            have HS4 := Lib.hid (show w.heap.size + 1 ≤ wr.heap.size by rw [← HSZ.out]; exact HB.out.size)
            have HO1 := Lib.hid ((own_one wr (k : Int) 3).ofr)
            have HB1 := Lib.hid ((Below.refl wr.heap.size wr).alloc (Nat.le_refl _) (.cells #[.int .i64 k] 3))
            have HB2 := Lib.hid (HB.out.alloc HB.out.size (.cells #[.int .i64 k] 3))
            have HS5 := Lib.hid (show (wr.alloc (.cells #[.int .i64 k] 3)).heap.size = wr.heap.size + 1 by simp)
            clear HGY HGN
            go_wp2_with (at_builtin; go_loud (refine wpList_grow rfl (.tmp 47) (.tmp 50) 63 29 rfl Tryz.underlying63 (.slice none 0 0) 1 24 Tryz.infoRw rfl (by decide) (by decide) (w.heap.size + 1) out.length (.slice aX out.length cX) _ _ rfl HG.out HS4.out HB1.out [.slice (some ⟨wr.heap.size, 0, none⟩) 1 1] (Newd.one HO1.out) rfl (by simp [Value.oneCell']) (by rw [HS5.out]; rfl) HLO.out ?_); intro v5 w5 o5 g5 l5; have HG5 := Lib.hid (Grw.next HE2.out o5); have HB5 := Lib.hid (HB2.out.grown g5 HB2.out.size (fun q hq => (by rw [HSZ.out]; exact (HG.out.own q hq).1))); clear o5 g5 l5)
            go_roundw
            case rel => exact ⟨k + 1, hlk, by go_num, HG5.out, HB5.out⟩
            case measure => simp [intOf]; omega
          · have HE2 := Lib.hid (HGN.out hr)
            have d1 : (rr == 0) = false := by simp [hr]
            have d2 : decide (rr = 0) = false := by simp [hr]
            clear hr HGY HGN
            go_wp2
            go_roundw
            case rel => exact ⟨k + 1, hlk, by go_num, by rw [HE2.out]; exact HG.out, HB.out⟩
            case measure => simp [intOf]; omega
        · obtain rfl : m2 = k := by omega
          have HE := Lib.hid (HGR.out)
          generalize A ++ gS n m2 = out at *
          go_wp2
          go_ret
          exact ⟨_, rfl, by rw [HE.out]; exact HG.out.ofr.mono (Nat.le_succ _), HBX.out.trans (HB.out.mono HBX.out.size)⟩
end Go.Proofs.YtmkkdenhjfjmgaaGreat
namespace Go.Proofs.YtmkkdenhjfjmgaaGreat
open Go.RowKit Go.Sort
set_option maxRecDepth 100000

structure Alm where
  t : Int
  l : Int
def nilA : Alm := ⟨0, 0⟩
def almE (z : Alm) : List Value := [.int .i64 z.t, .int .i64 z.l]
def almV (z : Alm) : Value := .agg #[.int .i64 z.t, .int .i64 z.l]
def mkAlm (q : Int) : Alm := ⟨q, q + 1⟩
theorem szAlarmS_any (v : Value) (zs : List Alm) (l : Int) (w : World) (h : Rwt w (flt 2 almE zs) v) (h0 : 0 ≤ l) (h1 : l ≤ 1048576) :
    Calls Tryz.prog 52 #[v, .int .i64 l] w fun e w' => e = .returned (.int .i64 (if l < zs.length then -1 else l - zs.length)) ∧ w = w' := by
  obtain ⟨a, n, cap, rfl, HN, hla, _⟩ := flt_opnw (m := 2) (enc := almE) (fun _ => rfl) (by omega) nilA h
  rw [HN.out]
  clear h
  by_cases hc : l - n < 0
  · have hb : decide (l - n < 0) = true := by simpa using hc
    have e : (if l < (n : Int) then (-1 : Int) else l - n) = -1 := if_pos (by omega)
    rw [e]
    go_enter Tryz.func52, Tryz.ntmps52
    go_wp2
    go_ret
    exact ⟨rfl, rfl⟩
  · have hb : decide (l - n < 0) = false := by simpa using hc
    have e : (if l < (n : Int) then (-1 : Int) else l - n) = l - n := if_neg (by omega)
    rw [e]
    go_enter Tryz.func52, Tryz.ntmps52
    go_wp2
    go_ret
    exact ⟨rfl, rfl⟩
theorem toAlarm_any (z : Alm) (w : World) :
    Calls Tryz.prog 99 #[almV z] w fun e w' => e = .returned (almV z) ∧ Below w.heap.size w w' := by
  unfold almV
  go_enter Tryz.func99, Tryz.ntmps99
  go_wp2
  exact bodyPost_ret (v := .agg #[.int .i64 z.t, .int .i64 z.l]) (by simp [results, Tryz.results99, go_sem]) rfl ⟨rfl, (((Below.refl _ _).alloc (Nat.le_refl _) _).alloc (by simp) _).alloc (by simp; omega) _⟩
theorem eqAlarm_same (z : Alm) (w : World) :
    Calls Tryz.prog 100 #[almV z, almV z] w fun e w' => e = .returned (.bool true) ∧ Below w.heap.size w w' := by
  have n0 : (z.t != z.t) = false := by simp
  have n1 : (z.l != z.l) = false := by simp
  have HB := Lib.hid (((Below.refl w.heap.size w).alloc (Nat.le_refl _) (.cells #[.int .i64 z.t, .int .i64 z.l] 67)).alloc (by simp) (.cells #[.int .i64 z.t, .int .i64 z.l] 67))
  unfold almV
  go_enter Tryz.func100, Tryz.ntmps100
  go_wp2
  go_ret
  exact ⟨rfl, HB.out⟩
theorem Tryz.infoAlarm : (Tryz.prog.info? 67).map (fun i => (i.zero, i.size, i.bytes)) = some (some (.agg #[.int .i64 0, .int .i64 0]), 2, 16) := by kernel_rfl
set_option maxHeartbeats 1600000 in
theorem toAlarmS_any (v : Value) (zs : List Alm) (w : World) (h : Rwt w (flt 2 almE zs) v) (hr : zs.length ≤ 1048576) :
    Calls Tryz.prog 53 #[v] w fun e w' => ∃ v', e = .returned v' ∧ Ofr w' w.heap.size (flt 2 almE zs) v' ∧ Below w.heap.size w w' := by
  obtain ⟨i0, hi, hz0, hz1, hz2⟩ := info_parts Tryz.infoAlarm
  obtain ⟨a, n, cap, rfl, HN, hn, ha⟩ := flt_opnw (m := 2) (enc := almE) (fun _ => rfl) (by omega) nilA h
  have HA := Lib.hid ha
  have HL := Lib.hid (fun k hk => fillG_len nilA zs n k HN.out hk)
  have HST := Lib.hid (fun k hk => fillG_step nilA zs n k HN.out hk)
  have HAL := Lib.hid (fillG_all nilA zs n HN.out)
  rw [HN.out] at hr
  clear ha h
  go_enter Tryz.func53, Tryz.ntmps53
  go_wp2_with (refine wpList_make_full _ rfl _ _ 60 rfl w.heap.size 67 i0 (.agg #[.int .i64 0, .int .i64 0]) 2 Tryz.underlying60 hi hz0 hz1 _ _ _ _ n rfl rfl rfl rfl (by rw [hz2]; omega) (by unfold maxLen; omega) (Nat.le_refl _) ?_; intro w1 hown1 hgrow1)
  have HO1 := Lib.hid (show Ofr w1 w.heap.size (flt 2 almE (fillG nilA zs n 0)) (.slice (some ⟨w.heap.size, 0, none⟩) n n) from by
    rw [fillG_zero]
    exact made_flat (enc := almE) (fun _ => rfl) (by omega) nilA rfl hown1)
  have HB1 := Lib.hid (show Below w.heap.size w w1 from (Below.refl _ _).grown hgrow1 (Nat.le_refl _) (by simp))
  clear hown1 hgrow1
  go_loopw [4] (fun i wr => ∃ k : Nat, k ≤ n ∧ i = .int .i64 k ∧ Hid (Ofr wr w.heap.size (flt 2 almE (fillG nilA zs n k)) (.slice (some ⟨w.heap.size, 0, none⟩) n n)) ∧ Hid (Below w.heap.size w wr)) (fun i _ => n - (intOf i).toNat)
  case atStart => exact ⟨0, by omega, rfl, HO1.out, HB1.out⟩
  case round =>
    obtain ⟨k, hk, rfl, HO, HB⟩ := hrel
    by_cases hlt : k < n
    · obtain ⟨b, off, rfl, hbs, hcs⟩ := HA.out (by omega)
      have hltI : (k : Int) < (n : Int) := by omega
      have d0 := (HB.out.cell (p := ⟨b, off + k * 2 + 0, none⟩) hbs).trans (hcs k hlt 0 _ rfl)
      have d1 := (HB.out.cell (p := ⟨b, off + k * 2 + 1, none⟩) hbs).trans (hcs k hlt 1 _ rfl)
      simp only [Nat.add_zero] at d0
      have HS := Lib.hid (fun w => toAlarm_any (zs[k]?.getD nilA) w)
      have HSK := Lib.hid (HST.out k hlt)
      have HLK := Lib.hid (HL.out k (by omega))
      clear hcs HO1 HB1
      unfold almV at HS
      generalize zs[k]?.getD nilA = z at *
      go_wp2_with fail
      refine (HS.out _).mono ?_
      rintro e w2 ⟨rfl, b2⟩
      obtain ⟨g, o, cp, ev, hg1, hg2, hcc, hfz, hof⟩ := flt_put (enc := almE) (m := 2) (fun _ => rfl) (by omega) (HO.out.below b2) (Nat.le_trans HB.out.size b2.size) (k := k) (by rw [HLK.out]; exact hlt) z
      simp only [Value.slice.injEq, Option.some.injEq, Addr.mk.injEq, and_true] at ev
      obtain ⟨⟨rfl, rfl⟩, -, rfl⟩ := ev
      rw [HSK.out] at hof
      simp only [Nat.zero_add] at hcc hof
      obtain ⟨q0, c0⟩ := hcc 0 (by omega)
      obtain ⟨q1, c1⟩ := hcc 1 (by omega)
      simp only [Nat.add_zero] at c0
      have f0 := hfz (k * 2 + 0)
      have f1 := hfz (k * 2 + 1)
      simp only [Nat.add_zero] at f0
      have HB2 := Lib.hid (setRow_below (Nat.le_refl w.heap.size) (almE z) w2 (k * 2) (HB.out.trans (b2.mono HB.out.size)))
      simp only [setRow, almE, Nat.add_assoc, Nat.reduceAdd] at hof HB2
      have HOF := Lib.hid hof
      clear hof b2 hfz hcc
      go_wp2
      go_roundw
      case rel => exact ⟨k + 1, by omega, by go_num, HOF.out, HB2.out⟩
      case measure => simp [intOf]; omega
    · obtain rfl : k = n := by omega
      have hof := HO.out
      rw [HAL.out] at hof
      have HOF := Lib.hid hof
      go_wp2
      go_ret
      exact ⟨_, rfl, HOF.out, HB.out⟩
set_option maxHeartbeats 1600000 in
theorem eqAlarmS_same (va vb : Value) (zs : List Alm) (w : World) (ha : Rdt w (flt 2 almE zs) va) (hb : Rdt w (flt 2 almE zs) vb) :
    Calls Tryz.prog 54 #[va, vb] w fun e w' => e = .returned (.bool true) ∧ Below w.heap.size w w' := by
  obtain ⟨a, n, ca, rfl, HN, _, hn, HA⟩ := flt_opn (m := 2) (enc := almE) (fun _ => rfl) (by omega) nilA ha
  obtain ⟨b, n2, cb, rfl, HM, _, _, HBB⟩ := flt_opn (m := 2) (enc := almE) (fun _ => rfl) (by omega) nilA hb
  obtain rfl : n = n2 := HN.out.symm.trans HM.out
  have HA := Lib.hid HA
  have HBB := Lib.hid HBB
  clear HM ha hb
  have hne : ((n : Int) != (n : Int)) = false := by simp
  go_enter Tryz.func54, Tryz.ntmps54
  go_wp2
  go_loopw [5] (fun i wr => ∃ k : Nat, k ≤ n ∧ i = .int .i64 k ∧ Hid (Below w.heap.size w wr)) (fun i _ => n - (intOf i).toNat)
  case atStart => exact ⟨0, by omega, rfl, Below.refl _ _⟩
  case round =>
    obtain ⟨k, hk, rfl, HB⟩ := hrel
    by_cases hlt : k < n
    · obtain ⟨g1, o1, rfl, hg1, hc1⟩ := HA.out (by omega)
      obtain ⟨g2, o2, rfl, hg2, hc2⟩ := HBB.out (by omega)
      have hltI : (k : Int) < (n : Int) := by omega
      have x0 := rg ((HB.out.cell (p := ⟨g1, o1 + k * 2 + 0, none⟩) hg1).trans (hc1 k hlt 0 _ rfl))
      have y0 := rg ((HB.out.cell (p := ⟨g2, o2 + k * 2 + 0, none⟩) hg2).trans (hc2 k hlt 0 _ rfl))
      have x1 := rg ((HB.out.cell (p := ⟨g1, o1 + k * 2 + 1, none⟩) hg1).trans (hc1 k hlt 1 _ rfl))
      have y1 := rg ((HB.out.cell (p := ⟨g2, o2 + k * 2 + 1, none⟩) hg2).trans (hc2 k hlt 1 _ rfl))
      simp only [Nat.add_zero] at x0 y0
      have HQ := Lib.hid (fun w => eqAlarm_same (zs[k]?.getD nilA) w)
      unfold almV at HQ
      generalize zs[k]?.getD nilA = z at *
      clear hc1 hc2
      go_wp2
      refine wp_region_quiet_below (by kernel_rfl) (by kernel_rfl) ?_
      repeat (go_big_quiet_step (first | (go_at_call 100; exact Calls.regrown_of (HQ.out _))))
      refine wpQuiet_nil ?_
      rintro _ ⟨⟨dq, osq⟩, rfl⟩
      go_wp2
      go_roundw
      case rel => exact ⟨k + 1, by omega, by go_num, HB.out.trans ((below_regrown _ dq osq).mono HB.out.size)⟩
      case measure => simp [intOf]; omega
    · obtain rfl : k = n := by omega
      go_wp2
      go_ret
      exact ⟨rfl, HB.out⟩
set_option maxHeartbeats 3200000 in
theorem markAlarmS_any (v : Value) (zs : List Alm) (fp : List Nat) (q : Int) (w : World) (h : Odt w (flt 2 almE zs) v fp) (hn : fp.Nodup) (hb : zs.length ≤ 4194304) (hq : 0 ≤ q) (hq2 : q ≤ 1125899906842624) :
    Calls Tryz.prog 55 #[v, .int .i64 q] w fun e w' => e = .returned (.int .i64 (q + 2 * (zs.length : Int))) ∧ Odt w' (flt 2 almE ((List.range zs.length).map fun i : Nat => mkAlm (q + 2 * (i : Int)))) v fp ∧ Wr w w' fp := by
  obtain ⟨a, n, cap, rfl, HN, _, hnl, -⟩ := flt_opn (m := 2) (enc := almE) (fun _ => rfl) (by omega) nilA h.rd
  obtain ⟨f, hf⟩ : ∃ f : Nat → Alm, f = fun i : Nat => mkAlm (q + 2 * (i : Int)) := ⟨_, rfl⟩
  have HFE := Lib.hid (fun i => congrFun hf i)
  rw [← hf, HN.out]
  rw [HN.out] at hb
  clear hf
  have HST := Lib.hid (fun k (h : k < n) => mkG_step f zs k (by rw [HN.out]; exact h))
  have HLN := Lib.hid (fun k (h : k ≤ n) => (mkG_len f zs k (by rw [HN.out]; exact h)).trans HN.out)
  have HALL := Lib.hid (mkG_all f zs n HN.out)
  have HH := Lib.hid h
  clear h
  go_enter Tryz.func55, Tryz.ntmps55
  go_wp2
  go_loopw [1, 5] (fun x i wr => ∃ k : Nat, k ≤ n ∧ i = .int .i64 k ∧ x = .int .i64 (q + 2 * (k : Int)) ∧ Hid (Odt wr (flt 2 almE (mkG f zs k)) (.slice a n cap) fp) ∧ Hid (Wr w wr fp)) (fun _ i _ => n - (intOf i).toNat)
  case atStart => exact ⟨0, by omega, rfl, int_eq (by simp), by rw [mkG_zero]; exact HH.out, Wr.refl _ _⟩
  case round =>
    obtain ⟨k, hk, rfl, rfl, HO, HW⟩ := hrel
    by_cases hlt : k < n
    · have hltI : (k : Int) < (n : Int) := by omega
      obtain ⟨g, off, rfl, hcc, hfz, hset⟩ := flt_mark (enc := almE) (m := 2) (fun _ => rfl) (by omega) HO.out hn (k := k) (by rw [HLN.out k (by omega)]; exact hlt)
      obtain ⟨s1, s2⟩ := hset (f k)
      rw [HST.out k hlt] at s1
      have hfk := HFE.out k
      obtain ⟨p, hp⟩ : ∃ p : Int, p = q + 2 * (k : Int) := ⟨_, rfl⟩
      have hp1 : 0 ≤ p := by omega
      have hp2 : p ≤ 1125899940397056 := by omega
      rw [← hp] at hfk ⊢
      have HP := Lib.hid hp
      clear hp
      rw [hfk] at s1 s2
      simp only [setRow, almE, mkAlm, Nat.add_assoc (off + k * 2), Nat.reduceAdd] at s1 s2
      have HS1 := Lib.hid s1
      have HS2 := Lib.hid (HW.out.trans s2)
      obtain ⟨q0, c0⟩ := hcc 0 (by omega)
      obtain ⟨q1, c1⟩ := hcc 1 (by omega)
      have f0 := hfz (off + k * 2 + 0)
      have f1 := hfz (off + k * 2 + 1)
      simp only [Nat.add_zero] at c0 f0
      clear s1 s2 hset hcc hfz hfk
      go_wp2
      go_roundw
      case rel => exact ⟨k + 1, by omega, by go_num, int_eq (by rw [HP.out]; omega), HS1.out, HS2.out⟩
      case measure => simp [intOf]; omega
    · obtain rfl : k = n := by omega
      have ho := HO.out
      rw [HALL.out] at ho
      have HOF := Lib.hid ho
      clear HO ho
      go_wp2
      go_ret
      exact ⟨rfl, HOF.out, HW.out⟩
theorem szAlarmS_Q (v : Value) (zs : List Alm) (l : Int) (w : World) (h : Rwt w (flt 2 almE zs) v) (h0 : 0 ≤ l) (h1 : l ≤ 1048576) : Calls Tryz.prog 52 #[v, .int .i64 l] w (SzQ zs.length l w) := by
  refine (szAlarmS_any v zs l w h h0 h1).mono ?_
  rintro e w' ⟨rfl, rfl⟩
  by_cases hx : l < (zs.length : Int)
  · rw [if_pos hx]; exact ⟨_, rfl, Below.refl _ _, .inl ⟨rfl, hx⟩⟩
  · rw [if_neg hx]; exact ⟨_, rfl, Below.refl _ _, .inr ⟨rfl, by omega⟩⟩
theorem toAlarmS_P (v : Value) (zs : List Alm) (w : World) (h : Rwt w (flt 2 almE zs) v) (hr : zs.length ≤ 1048576) : Calls Tryz.prog 53 #[v] w (ToP (fun w' v' fp => Odt w' (flt 2 almE zs) v' fp) w) := by
  refine (toAlarmS_any v zs w h hr).mono ?_
  rintro e w' ⟨v', rfl, ⟨fp, h1, h2, h3⟩, hb⟩
  exact ⟨v', fp, rfl, h1, h2, h3, hb⟩
theorem markAlarmS_N (v : Value) (zs : List Alm) (fp : List Nat) (q : Nat) (w : World) (h : Odt w (flt 2 almE zs) v fp) (hn : fp.Nodup) (hb : zs.length ≤ 1048576) (hq : 0 < q) (hq2 : q ≤ 1099511627776) :
    Calls Tryz.prog 55 #[v, .int .i64 (q : Int)] w fun e w' => e = .returned (.int .i64 ((q + 2 * zs.length : Nat) : Int)) ∧ Odt w' (flt 2 almE ((List.range zs.length).map fun i : Nat => mkAlm ((q : Int) + 2 * (i : Int)))) v fp ∧ Wr w w' fp := by
  refine (markAlarmS_any v zs fp q w h hn (by omega) (by omega) (by omega)).mono ?_
  rintro e w' ⟨rfl, h1, h2⟩
  exact ⟨ret_int (by omega), h1, h2⟩
end Go.Proofs.YtmkkdenhjfjmgaaGreat
namespace Go.Proofs.YtmkkdenhjfjmgaaGreat
open Go.RowKit

/-- A number put into an ascending list, unless it is there. -/
def putI : List Int → Int → List Int
  | [], n => [n]
  | x :: xs, n => if x < n then x :: putI xs n else if x = n then x :: xs else n :: x :: xs
theorem putI_mem : ∀ {xs : List Int} {n y : Int}, y ∈ putI xs n ↔ y = n ∨ y ∈ xs
  | [], n, y => by simp [putI]
  | x :: xs, n, y => by
    unfold putI
    split
    · rw [List.mem_cons, putI_mem, List.mem_cons]
      constructor
      · rintro (h | h | h) <;> simp [h]
      · rintro (h | h | h) <;> simp [h]
    · split
      · rename_i h; subst h; simp
      · simp
theorem putI_asc : ∀ {xs : List Int} {n : Int}, xs.Pairwise (· < ·) → (putI xs n).Pairwise (· < ·)
  | [], n, _ => by simp [putI]
  | x :: xs, n, h => by
    obtain ⟨h1, h2⟩ := List.pairwise_cons.1 h
    unfold putI
    split
    · rename_i hx
      refine List.pairwise_cons.2 ⟨fun y hy => ?_, putI_asc h2⟩
      rcases putI_mem.1 hy with e | e
      · omega
      · exact h1 y e
    · split
      · exact h
      · rename_i hx hx2
        refine List.pairwise_cons.2 ⟨fun y hy => ?_, h⟩
        rcases List.mem_cons.1 hy with e | e
        · omega
        · have := h1 y e; omega
theorem putI_at : ∀ {xs : List Int} {n : Int} (k : Nat), k ≤ xs.length → (∀ i, i < k → xs[i]?.getD 0 < n) → (k < xs.length → n ≤ xs[k]?.getD 0) → putI xs n = if k < xs.length ∧ xs[k]?.getD 0 = n then xs else xs.take k ++ n :: xs.drop k
  | [], n, k, hk, _, _ => by
    have : k = 0 := by simpa using hk
    subst this; simp [putI]
  | x :: xs, n, 0, _, _, h => by
    have h0 := h (by simp)
    simp only [List.getElem?_cons_zero, Option.getD_some] at h0
    unfold putI
    rw [if_neg (by omega)]
    by_cases e : x = n
    · rw [if_pos e, if_pos ⟨by simp, by simpa using e⟩]
    · rw [if_neg e, if_neg (by simp; exact e)]; simp
  | x :: xs, n, k + 1, hk, hl, h => by
    have hx : x < n := by have := hl 0 (by omega); simpa using this
    unfold putI
    rw [if_pos hx, putI_at k (by simpa using hk) (fun i hi => by have := hl (i + 1) (by omega); simpa using this) (fun hlt => by have := h (by simpa using hlt); simpa using this)]
    by_cases e : k < xs.length ∧ xs[k]?.getD 0 = n
    · rw [if_pos e, if_pos ⟨by simpa using e.1, by simpa using e.2⟩]
    · rw [if_neg e, if_neg (fun h2 => e ⟨by simpa using h2.1, by simpa using h2.2⟩)]; simp
theorem putI_len : ∀ (xs : List Int) (n : Int), (putI xs n).length ≤ xs.length + 1
  | [], n => by simp [putI]
  | x :: xs, n => by
    unfold putI
    split
    · have := putI_len xs n; simp; omega
    · split <;> simp
theorem ust_put (r : List Int) (x : Int) : ust (r ++ [x]) = putI (ust r) x := by
  refine ust_of (putI_asc (ust_asc r)) fun y => ?_
  rw [putI_mem, ust_mem, List.mem_append]
  simp [or_comm]
theorem ust_nil : ust [] = [] := List.eq_nil_of_length_eq_zero (by have := ust_len []; simpa using this)

abbrev alA (zs : List Alm) (i : Nat) : Alm := zs[i]?.getD nilA
def alOk (zs : List Alm) (i : Nat) : Bool := inB (alA zs i).t 0 1000000 && (inB (alA zs i).l 1 999 && !(decide (0 < i) && decide ((alA zs i).t < (alA zs (i - 1)).t)))
def albOk (zs : List Alm) (gap : Int) : Bool := decide (zs.length ≤ 40) && (inB gap 0 1000000 && (List.range zs.length).all (alOk zs))
/-- Does alarm k begin a burst? -/
def newB (zs : List Alm) (gap : Int) (k : Nat) : Bool := decide (k = 0) || decide (gap < (alA zs k).t - (alA zs (k - 1)).t)
def addL (R : List (List Int)) (r : List Int) : List (List Int) := R.set (R.length - 1) r
def lastL (R : List (List Int)) : List Int := R[R.length - 1]?.getD []
def rwB (zs : List Alm) (gap : Int) (k : Nat) (R : List (List Int)) : List (List Int) := if newB zs gap k then R ++ [[]] else R
def rwA (zs : List Alm) (gap : Int) : Nat → List (List Int)
  | 0 => []
  | k + 1 => addL (rwB zs gap k (rwA zs gap k)) (lastL (rwB zs gap k (rwA zs gap k)) ++ [(alA zs k).l])
def rwS (zs : List Alm) (gap : Int) : Nat → List (List Int)
  | 0 => []
  | k + 1 => addL (rwB zs gap k (rwS zs gap k)) (putI (lastL (rwB zs gap k (rwS zs gap k))) (alA zs k).l)
theorem rw_map (zs : List Alm) (gap : Int) (k : Nat) : (rwA zs gap k).map ust = rwS zs gap k := by
  induction k with
  | zero => rfl
  | succ k ih =>
    have hB : (rwB zs gap k (rwA zs gap k)).map ust = rwB zs gap k (rwS zs gap k) := by
      unfold rwB
      split
      · rw [List.map_append, ih, List.map_cons, ust_nil]; rfl
      · exact ih
    have hl : ust (lastL (rwB zs gap k (rwA zs gap k))) = lastL (rwB zs gap k (rwS zs gap k)) := by
      unfold lastL
      rw [← hB, List.length_map, List.getElem?_map]
      cases (rwB zs gap k (rwA zs gap k))[(rwB zs gap k (rwA zs gap k)).length - 1]?
      · exact ust_nil
      · rfl
    show (addL (rwB zs gap k (rwA zs gap k)) (lastL (rwB zs gap k (rwA zs gap k)) ++ [(alA zs k).l])).map ust = addL (rwB zs gap k (rwS zs gap k)) (putI (lastL (rwB zs gap k (rwS zs gap k))) (alA zs k).l)
    unfold addL
    rw [List.map_set, ust_put, hl, hB, ← hB, List.length_map]
theorem addL_len (R : List (List Int)) (r : List Int) : (addL R r).length = R.length := by simp [addL]
theorem rwB_len (zs : List Alm) (gap : Int) (k : Nat) (R : List (List Int)) : (rwB zs gap k R).length = if newB zs gap k then R.length + 1 else R.length := by
  unfold rwB; split <;> simp
theorem tot_set (R : List (List Int)) (j : Nat) (r : List Int) (h : r.length ≤ (R[j]?.getD []).length + 1) : tot (R.set j r) ≤ tot R + 1 := by
  induction R generalizing j with
  | nil => simp [tot]
  | cons x R ih =>
    cases j with
    | zero => simp [tot] at h ⊢; omega
    | succ j =>
      have := ih j (by simpa using h)
      simp [tot] at this ⊢; omega
theorem rwS_tot (zs : List Alm) (gap : Int) (k : Nat) : tot (rwS zs gap k) ≤ k := by
  induction k with
  | zero => simp [rwS, tot]
  | succ k ih =>
    have hB : tot (rwB zs gap k (rwS zs gap k)) = tot (rwS zs gap k) := by
      unfold rwB; split
      · simp [tot]
      · rfl
    have := tot_set (rwB zs gap k (rwS zs gap k)) ((rwB zs gap k (rwS zs gap k)).length - 1) (putI (lastL (rwB zs gap k (rwS zs gap k))) (alA zs k).l) (putI_len _ _)
    show tot (addL _ _) ≤ k + 1
    unfold addL
    omega
def albR (zs : List Alm) (gap : Int) : List (List Int) := if albOk zs gap then rwS zs gap zs.length else []
theorem albR_tot (zs : List Alm) (gap : Int) : tot (albR zs gap) ≤ zs.length := by
  unfold albR; split
  · exact rwS_tot _ _ _
  · simp [tot]
def AlbP (zs : List Alm) (gap : Int) (w : World) (e : Ending) (w' : World) : Prop := ∃ v, e = .returned (.tuple #[v, .bool (albOk zs gap)]) ∧ Ofr w' w.heap.size (ssD (albR zs gap)) v ∧ Below w.heap.size w w'
end Go.Proofs.YtmkkdenhjfjmgaaGreat
namespace Go.Proofs.YtmkkdenhjfjmgaaGreat
open Go.RowKit

theorem Grw.deepI {w W : World} {base n : Nat} {T : TypeId} {v : Value} {R : List (List Int)} (h : Grw w base T 1 v n (R.map inD)) {j : Nat} (hj : j < R.length) (hb : base ≤ w.heap.size) (hB : Below base W w) :
    ∃ g cap u, v = .slice (some ⟨g, 0, none⟩) n cap ∧ w.cell? ⟨g, j, none⟩ = some u ∧ g < w.heap.size ∧ Own w base u (R[j]?.getD []) ∧ (∀ k, u.ownBlock = some k → k ≠ g) ∧
      ∀ (w' : World) (u' : Value) (xs' : List Int), Own w' base u' xs' → (∀ k, u'.ownBlock = some k → u.ownBlock = some k ∨ w.heap.size ≤ k) → w.grownBy w' u.ownBlock →
        (∃ u0, w'.cell? ⟨g, j, none⟩ = some u0) ∧ w'.frozen? ⟨g, j, none⟩ = false ∧ Grw (w'.setCell ⟨g, j, none⟩ u') base T 1 v n ((R.set j xs').map inD) ∧ Below base W (w'.setCell ⟨g, j, none⟩ u') := by
  have hd : (R.map inD)[j]? = some (inD (R[j]?.getD [])) := by rw [List.getElem?_map, List.getElem?_eq_getElem hj]; rfl
  obtain ⟨g, cap, u, f, rfl, h1, h2, h3, h4, h5, h6, h7, h8⟩ := h.deep hd
  have hf := inD_fp h4
  have ho := (h4.toOwn (fun k hk => (h6 k hk).1)).1
  refine ⟨g, cap, u, rfl, h1, h3, ho, fun k hk e => h7 (by rw [hf, hk, ← e]; simp), fun w' u' xs' o hk hg => ?_⟩
  have hwr : Wr w w' f := Wr.of_grown hg (fun k hk => by rw [hf, hk]; simp)
  have hfn : u'.ownBlock.toList.Nodup := by cases u'.ownBlock <;> simp
  obtain ⟨q1, q2, q3⟩ := h8 w' (inD xs') u' u'.ownBlock.toList o.odt hfn (fun k hk' => by
    have : u'.ownBlock = some k := by simpa using hk'
    rcases hk k this with e | e
    · exact .inl (by rw [hf, e]; simp)
    · exact .inr e) hb hwr
  refine ⟨q1, q2, ?_, ?_⟩
  · rw [List.map_set]; exact q3
  · exact (hwr.below hB hb (fun k hk => (h6 k hk).1)).setCell h2 _
theorem albOk_sz {zs : List Alm} {gap : Int} (h : ¬ zs.length ≤ 40) : albOk zs gap = false := by unfold albOk; rw [decide_eq_false h]; rfl
theorem albOk_gap {zs : List Alm} {gap : Int} (h : inB gap 0 1000000 = false) : albOk zs gap = false := by unfold albOk; rw [h]; simp
theorem albOk_at {zs : List Alm} {gap : Int} {i : Nat} (hi : i < zs.length) (h : alOk zs i = false) : albOk zs gap = false := by unfold albOk; rw [rng_no hi h]; simp
theorem albOk_all {zs : List Alm} {gap : Int} (h1 : zs.length ≤ 40) (h2 : inB gap 0 1000000 = true) (h3 : ∀ i, i < zs.length → alOk zs i = true) : albOk zs gap = true := by unfold albOk; rw [rng_yes h3, decide_eq_true h1, h2]; rfl
theorem AlbP.no {zs : List Alm} {gap : Int} {w w' : World} {v : Value} (h : albOk zs gap = false) (ho : Ofr w' w.heap.size (ssD []) v) (hb : Below w.heap.size w w') : AlbP zs gap w (.returned (.tuple #[v, .bool false])) w' :=
  ⟨v, by rw [h], by unfold albR; rw [h]; exact ho, hb⟩
theorem AlbP.nil {zs : List Alm} {gap : Int} {w w' : World} (h : albOk zs gap = false) (hb : Below w.heap.size w w') : AlbP zs gap w (.returned (.tuple #[.slice none 0 0, .bool false])) w' :=
  AlbP.no h (Ofr.nil _ _ _) hb
theorem AlbP.yes {zs : List Alm} {gap : Int} {w w' : World} {v : Value} (h : albOk zs gap = true) (ho : Ofr w' w.heap.size (ssD (rwS zs gap zs.length)) v) (hb : Below w.heap.size w w') : AlbP zs gap w (.returned (.tuple #[v, .bool true])) w' :=
  ⟨v, by rw [h], by unfold albR; rw [h]; exact ho, hb⟩
theorem rwA_len (zs : List Alm) (gap : Int) (k : Nat) : (rwA zs gap k).length ≤ k := by
  induction k with
  | zero => simp [rwA]
  | succ k ih =>
    show (addL _ _).length ≤ k + 1
    rw [addL_len, rwB_len]; split <;> omega
theorem rwA_pos (zs : List Alm) (gap : Int) (k : Nat) (h : 0 < k) : 0 < (rwA zs gap k).length := by
  induction k with
  | zero => omega
  | succ k ih =>
    show 0 < (addL _ _).length
    rw [addL_len, rwB_len]
    split
    · omega
    · rename_i hn
      refine ih (Nat.pos_of_ne_zero fun e => ?_)
      subst e; simp [newB] at hn
theorem rwA_row (zs : List Alm) (gap : Int) (k j : Nat) : ((rwA zs gap k)[j]?.getD []).length ≤ k := by
  induction k generalizing j with
  | zero => simp [rwA]
  | succ k ih =>
    have hB : ∀ j, ((rwB zs gap k (rwA zs gap k))[j]?.getD []).length ≤ k := fun j => by
      unfold rwB; split
      · rw [List.getElem?_append]
        split
        · exact ih j
        · rcases Nat.eq_zero_or_pos (j - (rwA zs gap k).length) with e | e
          · rw [e]; simp
          · rw [List.getElem?_eq_none (by simp; omega)]; simp
      · exact ih j
    show ((addL (rwB zs gap k (rwA zs gap k)) (lastL (rwB zs gap k (rwA zs gap k)) ++ [(alA zs k).l]))[j]?.getD []).length ≤ k + 1
    unfold addL lastL
    rw [List.getElem?_set]
    split
    · split
      · rw [Option.getD_some, List.length_append]; have := hB ((rwB zs gap k (rwA zs gap k)).length - 1); simp; omega
      · simp
    · have := hB j; omega
theorem rwS_len (zs : List Alm) (gap : Int) (k : Nat) : (rwS zs gap k).length = (rwA zs gap k).length := by rw [← rw_map]; simp
theorem rwS_row (zs : List Alm) (gap : Int) (k j : Nat) : ((rwS zs gap k)[j]?.getD []).length ≤ k := by
  by_cases h : j < (rwS zs gap k).length
  · have := tot_mem h; have := rwS_tot zs gap k; omega
  · rw [List.getElem?_eq_none (by omega)]; simp

/-! ### A list's law as one step of a drawn region -/
theorem upon_mono {P : Program} {o : Oper} {a : Act} {K K' : Act → World → Prop} {Q Q' : Exit → Act → World → Prop} (hK : ∀ a w, K a w → K' a w) (hQ : ∀ e a w, e ≠ .normal → Q e a w → Q' e a w) {r} (h : o.upon P a K Q r) : o.upon P a K' Q' r := by
  unfold Oper.upon at h ⊢
  split at h
  all_goals first
    | exact hK _ _ h
    | exact hQ _ _ _ (by simp) h
    | exact h
    | (refine Calls.mono h ?_
       rintro e w' hh
       cases e
       · exact hK _ _ hh
       · exact hQ _ _ _ (by simp) hh
       · obtain ⟨a2, w2, q⟩ := hh; exact ⟨a2, w2, hQ _ _ _ (by simp) q⟩)
    | (refine Rows.mono h ?_
       intro v w' hh
       exact hK _ _ hh)
theorem step_of_list {P : Program} {ops : Array Oper} {o : Oper} {a : Act} {w : World} {K : Act → World → Prop} {Q : Exit → Act → World → Prop} {E : Prop} (hg : o.guard = none)
    (h : wpList P ops (fun e a' w' => e = .normal ∧ K a' w') [o] a w) : if Region.wanted o (yielded ops a.tmps) = true then Oper.wp P o a w K Q else E := by
  have hw : Region.wanted o (yielded ops a.tmps) = true := by simp [Region.wanted, hg]
  rw [if_pos hw]
  unfold wpList at h
  rw [if_pos hw] at h
  rcases h with h | ⟨-, a2, w2, h, -⟩
  · unfold Oper.wp at h ⊢
    refine upon_mono (fun a w hh => ?_) (fun e a w hne hh => ?_) h
    · unfold wpList at hh; exact hh.2
    · exact absurd hh.1 hne
  · cases h
theorem grown_drew {w w' : World} {r : Option Nat} (h : w.drew.grownBy w' r) : w.grownBy w' r := ⟨h.os, h.tape, h.output, h.size, fun k hk hn => h.block k hk hn⟩

/-! ### Rows made sets, one after the other -/
def updU (R : List (List Int)) (k : Nat) : List (List Int) := (R.take k).map ust ++ R.drop k
theorem updU_zero (R : List (List Int)) : updU R 0 = R := by simp [updU]
theorem updU_len (R : List (List Int)) (k : Nat) : (updU R k).length = R.length := by simp [updU]; omega
theorem updU_all {R : List (List Int)} {k : Nat} (h : R.length ≤ k) : updU R k = R.map ust := by simp [updU, List.take_of_length_le h, List.drop_of_length_le h]
theorem updU_at {R : List (List Int)} {k : Nat} (h : k < R.length) : (updU R k)[k]?.getD [] = R[k]?.getD [] := by
  unfold updU
  rw [List.getElem?_append_right (by simp; omega)]
  simp [Nat.min_eq_left (Nat.le_of_lt h)]
theorem updU_succ {R : List (List Int)} {k : Nat} (h : k < R.length) : (updU R k).set k (ust (R[k]?.getD [])) = updU R (k + 1) := by
  unfold updU
  have hl : ((R.take k).map ust).length = k := by simp; omega
  rw [List.set_append_right _ _ (by omega), hl, Nat.sub_self, List.drop_eq_getElem_cons h, List.set_cons_zero, List.take_add_one, List.getElem?_eq_getElem h, List.map_append, List.append_assoc]
  rfl
theorem Grw.startU {w : World} {base n : Nat} {T : TypeId} {v : Value} {R : List (List Int)} (h : Grw w base T 1 v n (R.map inD)) : Grw w base T 1 v n ((updU R 0).map inD) := by rw [updU_zero]; exact h
end Go.Proofs.YtmkkdenhjfjmgaaGreat
