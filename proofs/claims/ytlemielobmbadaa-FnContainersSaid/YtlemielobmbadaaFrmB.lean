/- Walks: a frame's bytes. -/
import Derived.Test.YtlemielobmbadaaBa24
import Derived.Test.YtlemielobmbadaaCdd
namespace Go.Proofs.Ytlemielobmbadaa
open Go.RowKit
set_option maxRecDepth 100000

theorem blk3 {X : World} {b : Nat} {u v x : Value} {T : TypeId} (h : X.heap[b]? = some (.cells #[u, v, x] T (0, 0))) :
    X.cell? ⟨b, 0, none⟩ = some u ∧ X.cell? ⟨b, 1, none⟩ = some v ∧ X.cell? ⟨b, 2, none⟩ = some x ∧ X.frozen? ⟨b, 0, none⟩ = false ∧ X.frozen? ⟨b, 1, none⟩ = false ∧ X.frozen? ⟨b, 2, none⟩ = false ∧ b < X.heap.size := by
  refine ⟨?_, ?_, ?_, frozen_of_row _ _ _ _ _ h, frozen_of_row _ _ _ _ _ h, frozen_of_row _ _ _ _ _ h, (Array.getElem?_eq_some_iff.1 h).1⟩
  · rw [cell_of_row _ _ _ _ _ _ h]; rfl
  · rw [cell_of_row _ _ _ _ _ _ h]; rfl
  · rw [cell_of_row _ _ _ _ _ _ h]; rfl

theorem own_lit1' {w : World} {base : Nat} (a : Int) (hb : base ≤ w.heap.size) : Own (w.alloc (.cells #[.int .i64 a] 3)) base (.slice (some ⟨w.heap.size, 0, none⟩) 1 1) [a] :=
  .inr ⟨w.heap.size, 0, 1, _, rfl, hb, ⟨_, heap_alloc_new w _⟩, by simp, by unfold maxLen; simp, by simp, rfl⟩
def FrmBP (w : World) (f : Frm) (e : Ending) (w' : World) : Prop := ∃ v, e = .returned v ∧ Own w' w.heap.size v (frmL f) ∧ Below w.heap.size w w'
set_option maxHeartbeats 1600000 in
theorem l23List_any (v : Value) (f : Frm) (w : World) (h : RdF w v f) (hl : f.l.length = 12) :
    Calls Try.prog 97 #[v] w (FrmBP w f) := by
  obtain ⟨u, rfl, hu⟩ := h
  have hal := (Below.refl w.heap.size w).alloc (Nat.le_refl _) (.cells #[.int .i64 f.c, .int .i64 f.p, u] 50)
  have hal2 := hal.alloc hal.size (.cells #[.int .i64 246, .int .i64 40, .int .i64 f.c, .int .i64 f.p] 3)
  have hu2 := hu.belowAll hal2
  have hown := (show ((w.alloc (.cells #[.int .i64 f.c, .int .i64 f.p, u] 50)).alloc (.cells #[.int .i64 246, .int .i64 40, .int .i64 f.c, .int .i64 f.p] 3)).ownsRow w.heap.size 3 1 (.slice (some ⟨(w.alloc (.cells #[.int .i64 f.c, .int .i64 f.p, u] 50)).heap.size, 0, none⟩) 4 4) 4 (ints [246, 40, f.c, f.p]) from World.ownsRow_lit _ #[.int .i64 246, .int .i64 40, .int .i64 f.c, .int .i64 f.p] 4 hal.size (by unfold maxLen; omega) rfl)
  rw [show (w.alloc (.cells #[.int .i64 f.c, .int .i64 f.p, u] 50)).heap.size = w.heap.size + 1 by simp] at hown
  have HL := Lib.hid hl
  have HB2 := Lib.hid hal2
  clear hal hal2 hu hl
  go_enter Try.func97, Try.ntmps97
  go_wp2_with (at_builtin; go_loud (refine wpList_cat rfl (.tmp 8) (.tmp 10) 24 rfl Try.underlying24 Try.infoInt w.heap.size (.slice (some ⟨w.heap.size + 1, 0, none⟩) 4 4) 4 [246, 40, f.c, f.p] rfl hown _ f.l rfl hu2 (by rw [HL.out]; decide) (by rw [HL.out]; decide) HB2.out.size ?_; intro v1 w1 hown1 hgrow1; have H1 := Lib.hid hown1; have G1 := Lib.hid hgrow1; clear hown1 hgrow1 hown hu2))
  have RD1 := Lib.hid (show Rd w1 v1 (frmH f) from (own_of_row H1.out).rd)
  have HB1 := Lib.hid (HB2.out.grown G1.out HB2.out.size (fun k hk => by have e : w.heap.size + 1 = k := (by simpa [Value.ownBlock] using hk); omega))
  have hs1 := HB1.out.size
  refine (l23Parity_any v1 (frmH f) _ RD1.out).mono ?_
  rintro e w2 ⟨rfl, rfl⟩
  have HLT := Lib.hid (fun k (hk : v1.ownBlock = some k) => (H1.out.lt k hk).1)
  go_wp2_with (at_builtin; go_loud (refine wpList_push rfl (.tmp 12) (.tmp 15) 24 rfl Try.underlying24 Try.infoInt w.heap.size v1 (4 + f.l.length) (frmH f) rfl H1.out rfl (by rw [HL.out]; decide) hs1 ?_; intro v2 w2 hown2 hgrow2; have H2 := Lib.hid hown2; have G2 := Lib.hid hgrow2; clear hown2 hgrow2))
  go_ret
  exact ⟨_, rfl, own_of_row H2.out, HB1.out.grown G2.out HB1.out.size (fun k hk => HLT.out k hk)⟩
set_option maxHeartbeats 1600000 in
theorem bytesOf_any (v : Value) (f : Frm) (w : World) (h : RdF w v f) (hl : f.l.length = 12) :
    Calls Try.prog 94 #[v] w (FrmBP w f) := by
  obtain ⟨u, rfl, hu⟩ := h
  have hal := (Below.refl w.heap.size w).alloc (Nat.le_refl _) (.cells #[.int .i64 f.c, .int .i64 f.p, u] 50)
  have hal2 := hal.alloc hal.size (.cells #[.int .i64 246, .int .i64 40, .int .i64 f.c, .int .i64 f.p] 3)
  have hu2 := hu.belowAll hal2
  have hown := (show ((w.alloc (.cells #[.int .i64 f.c, .int .i64 f.p, u] 50)).alloc (.cells #[.int .i64 246, .int .i64 40, .int .i64 f.c, .int .i64 f.p] 3)).ownsRow w.heap.size 3 1 (.slice (some ⟨(w.alloc (.cells #[.int .i64 f.c, .int .i64 f.p, u] 50)).heap.size, 0, none⟩) 4 4) 4 (ints [246, 40, f.c, f.p]) from World.ownsRow_lit _ #[.int .i64 246, .int .i64 40, .int .i64 f.c, .int .i64 f.p] 4 hal.size (by unfold maxLen; omega) rfl)
  rw [show (w.alloc (.cells #[.int .i64 f.c, .int .i64 f.p, u] 50)).heap.size = w.heap.size + 1 by simp] at hown
  have HL := Lib.hid hl
  have HB2 := Lib.hid hal2
  clear hal hal2 hu hl
  go_enter Try.func94, Try.ntmps94
  go_wp2_with (at_builtin; go_loud (refine wpList_cat rfl (.tmp 11) (.tmp 13) 24 rfl Try.underlying24 Try.infoInt w.heap.size (.slice (some ⟨w.heap.size + 1, 0, none⟩) 4 4) 4 [246, 40, f.c, f.p] rfl hown _ f.l rfl hu2 (by rw [HL.out]; decide) (by rw [HL.out]; decide) HB2.out.size ?_; intro v1 w1 hown1 hgrow1; have H1 := Lib.hid hown1; have G1 := Lib.hid hgrow1; clear hown1 hgrow1 hown hu2; have hrd1 := (show Rd w1 v1 (frmH f) from (own_of_row H1.out).rd); obtain ⟨a1, cap1, n1, HX1, rfl, hnc1, hla1, ha1⟩ := hrd1.opn))
  have HB1 := Lib.hid (HB2.out.grown G1.out HB2.out.size (fun k hk => by have e : w.heap.size + 1 = k := (by simpa [Value.ownBlock] using hk); omega))
  have hs1 := HB1.out.size
  have HLT := Lib.hid (fun k (hk : (Value.slice a1 n1 cap1).ownBlock = some k) => (H1.out.lt k hk).1)
  clear hrd1
  go_loop [4, 6, 17] (fun s _ i => ∃ k : Nat, k ≤ n1 ∧ i = .int .i64 k ∧ Hid (s = .int .i64 (parL ((frmH f).take k)))) (fun _ _ i => n1 - (intOf i).toNat)
  case atStart => exact ⟨0, by omega, rfl, rfl⟩
  case round =>
    obtain ⟨k, hk, rfl, HT⟩ := hrel
    obtain rfl := HT.out
    by_cases hlt : k < n1
    · obtain ⟨b, off, rfl, _, hc⟩ := ha1 (by omega)
      have hcell := hc k hlt
      clear hc
      go_wp2
      go_round
      case rel => exact ⟨k + 1, by omega, by go_num, by rw [parL_step (by rw [HX1.out]; exact hlt)]; rfl⟩
      case measure => simp [intOf]; omega
    · obtain rfl : k = n1 := by omega
      have hpar := Lib.hid (show parL ((frmH f).take k) = parL (frmH f) by rw [← HX1.out, List.take_length])
      go_wp2_with (at_builtin; go_loud (refine wpList_push rfl (.tmp 25) (.tmp 27) 24 rfl Try.underlying24 Try.infoInt w.heap.size _ (4 + f.l.length) (frmH f) rfl H1.out rfl (by rw [HL.out]; decide) hs1 ?_; intro v2 w2 hown2 hgrow2; have H2 := Lib.hid hown2; have G2 := Lib.hid hgrow2; clear hown2 hgrow2))
      go_ret
      exact ⟨_, rfl, by have := own_of_row H2.out; rw [hpar.out] at this; exact this, HB1.out.grown G2.out HB1.out.size (fun k hk => HLT.out k hk)⟩
def frBR (f : Frm) : List Int := if frmOk f then frmL f else []
theorem frBR_yes {f : Frm} (h : frmOk f = true) : frBR f = frmL f := by unfold frBR; rw [if_pos h]
theorem frBR_no {f : Frm} (h : frmOk f = false) : frBR f = [] := by unfold frBR; rw [h]; rfl
def FrBPost (w : World) (f : Frm) (e : Ending) (w' : World) : Prop := ∃ v, e = .returned (.tuple #[v, .bool (frmOk f)]) ∧ Own w' w.heap.size v (frBR f) ∧ Below w.heap.size w w'
set_option maxHeartbeats 1600000 in
theorem implFrB_any (v : Value) (f : Frm) (w : World) (h : RdF w v f) :
    Calls Try.prog 38 #[v] w (FrBPost w f) := by
  obtain ⟨u, rfl, hu⟩ := h
  have hal := (Below.refl w.heap.size w).alloc (Nat.le_refl _) (.cells #[.int .i64 f.c, .int .i64 f.p, u] 50)
  have HR := Lib.hid (show RdF (w.alloc (.cells #[.int .i64 f.c, .int .i64 f.p, u] 50)) (.agg #[.int .i64 f.c, .int .i64 f.p, u]) f from ⟨u, rfl, hu.belowAll hal⟩)
  have HBl := Lib.hid (heap_alloc_new w (.cells #[.int .i64 f.c, .int .i64 f.p, u] 50))
  have HB := Lib.hid hal
  have HP := Lib.hid (fun h : frmOk f = true => frmOk_parts h)
  have HY := Lib.hid (@frBR_yes f)
  have HN := Lib.hid (@frBR_no f)
  have hv := implValid_any _ f _ HR.out
  unfold FrmOkP at hv
  have HV := Lib.hid hv
  clear hal hu hv
  unfold FrBPost
  generalize frmOk f = ok at *
  cases ok
  · have hn := HN.out rfl
    have HN' := Lib.hid hn
    clear hn HP HY HN
    go_enter Try.func38, Try.ntmps38
    go_wp2_with fail
    refine HV.out.mono ?_
    rintro e w1 ⟨rfl, b1⟩
    have HB1 := Lib.hid (HB.out.trans (b1.mono HB.out.size))
    clear b1
    go_wp2
    exact bodyPost_ret (results_tmp2 rfl _ _ _) rfl ⟨_, rfl, .inl ⟨rfl, HN'.out⟩, HB1.out⟩
  · have hy := HY.out rfl
    have HY' := Lib.hid hy
    have hlen := Lib.hid (HP.out rfl).2.2.1
    clear hy HP HY HN
    go_enter Try.func38, Try.ntmps38
    go_wp2_with fail
    refine HV.out.mono ?_
    rintro e w1 ⟨rfl, b1⟩
    have HB1 := Lib.hid (HB.out.trans (b1.mono HB.out.size))
    have HR1 := Lib.hid (HR.out.belowAll b1)
    have hblk : w1.heap[w.heap.size]? = some (.cells #[.int .i64 f.c, .int .i64 f.p, u] 50 (0, 0)) := by rw [b1.block _ (by simp)]; exact HBl.out
    obtain ⟨hc0, hc1, hc2⟩ := blk3 hblk
    clear b1 hblk
    go_wp2_with fail
    refine (bytesOf_any _ f _ HR1.out hlen.out).mono ?_
    rintro e w2 ⟨v2, rfl, o2, b2⟩
    have HO := Lib.hid (o2.mono HB1.out.size)
    have HB2 := Lib.hid (HB1.out.trans (b2.mono HB1.out.size))
    clear o2 b2
    go_wp2
    exact bodyPost_ret (results_tmp2 rfl _ _ _) rfl ⟨_, rfl, by rw [HY'.out]; exact HO.out, HB2.out⟩
end Go.Proofs.Ytlemielobmbadaa
