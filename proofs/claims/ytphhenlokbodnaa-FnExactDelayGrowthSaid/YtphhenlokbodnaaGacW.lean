/- Walks: ActiveGrowth, both. -/
import Derived.Test.YtphhenlokbodnaaGroS
namespace Go.Proofs.Ytphhenlokbodnaa
open Go.RowKit Go.Sort
set_option maxRecDepth 100000

/-- Periods: the growths that are wanted among the first k. -/
def actI (gs : List Gro) (p : Int) (k : Nat) : List Int := ((List.range k).filter fun i => inB p (gs[i]?.getD nilG).s (gs[i]?.getD nilG).e).map fun i : Nat => (i : Int)
theorem actI_len (gs : List Gro) (p : Int) (k : Nat) : (actI gs p k).length ≤ k := by
  unfold actI; rw [List.length_map]; exact Nat.le_trans (List.length_filter_le _ _) (by simp)
theorem actI_yes {gs : List Gro} {p : Int} {k : Nat} (h : inB p (gs[k]?.getD nilG).s (gs[k]?.getD nilG).e = true) : actI gs p (k + 1) = actI gs p k ++ [(k : Int)] := by
  unfold actI; rw [List.range_succ, List.filter_append, List.map_append]; simp [h]
theorem actI_no {gs : List Gro} {p : Int} {k : Nat} (h : inB p (gs[k]?.getD nilG).s (gs[k]?.getD nilG).e = false) : actI gs p (k + 1) = actI gs p k := by
  unfold actI; rw [List.range_succ, List.filter_append, List.map_append]; simp [h]
def actOk (n : Net) (gs : List Gro) (p : Int) : Bool := grsOk n gs && inB p 0 7
def actR (n : Net) (gs : List Gro) (p : Int) : List Int := if actOk n gs p then actI gs p gs.length else []
theorem actR_len (n : Net) (gs : List Gro) (p : Int) : (actR n gs p).length ≤ gs.length := by
  unfold actR; split
  · exact actI_len _ _ _
  · simp
def ActP (n : Net) (gs : List Gro) (p : Int) (w : World) (e : Ending) (w' : World) : Prop := ∃ v, e = .returned (.tuple #[v, .bool (actOk n gs p)]) ∧ Ofr w' w.heap.size (inD (actR n gs p)) v ∧ Below w.heap.size w w'
theorem row_form {w : World} {base n : Nat} {T : TypeId} {v : Value} {us : List Value} {m : Nat} (h : w.ownsRow base T m v n us) : ∃ a c, v = .slice a n c := by
  rcases h.2 with ⟨rfl, rfl⟩ | ⟨g, cap, cur, rfl, _⟩
  · exact ⟨none, 0, rfl⟩
  · exact ⟨_, cap, rfl⟩
theorem row_below {w w' : World} {base n : Nat} {T : TypeId} {v : Value} {us : List Value} {m : Nat} (h : w.ownsRow base T m v n us) (hb : Below w.heap.size w w') : w'.ownsRow base T m v n us := by
  refine ⟨h.1, ?_⟩
  rcases h.2 with q | ⟨g, cap, cur, rfl, q1, q2, q3⟩
  · exact .inl q
  · exact .inr ⟨g, cap, cur, rfl, q1, by rw [hb.block g (Array.getElem?_eq_some_iff.1 q2).1]; exact q2, q3⟩
theorem isWanted_any (g : Gro) (p : Int) (w : World) :
    Calls Try.prog 49 #[groV g, .int .i64 p] w fun e w' => e = .returned (.bool (inB p g.s g.e)) ∧ Below w.heap.size w w' := by
  obtain ⟨bx, -, -, -⟩ := box_facts w #[.int .i64 g.d.a, .int .i64 g.d.b, .int .i64 g.d.r, .int .i64 g.d.c, .int .i64 g.s, .int .i64 g.e] 69
  have HB := Lib.hid bx
  unfold groV
  clear bx
  go_enter Try.func49, Try.ntmps49
  go_wp2_with (go_at_call 44; refine (within_any _ _ _ _).mono ?_; rintro e w' ⟨rfl, rfl⟩)
  go_ret
  exact ⟨rfl, HB.out⟩
set_option maxHeartbeats 3200000 in
theorem implActive_any (v u : Value) (n : Net) (gs : List Gro) (p : Int) (w : World) (h : NetR w v n) (hg : Rdt w (flt 6 groE gs) u) :
    Calls Try.prog 16 #[v, u, .int .i64 p] w (ActP n gs p w) := by
  have HVG := Lib.hid (fun w' (hb : Below w.heap.size w w') => implGrowths_any v u n gs w' (h.behind hb) (hg.behind hb))
  obtain ⟨u1, u2, rfl, r1, r2, -⟩ := h
  obtain ⟨a1, m1, c1, rfl⟩ := Rdt.slice' r1
  obtain ⟨a2, m2, c2, rfl⟩ := Rdt.slice' r2
  obtain ⟨a3, m3, c3, rfl, HN3, hc3, hm3, ha3⟩ := flt_opn (m := 6) (enc := groE) (fun _ => rfl) (by omega) nilG hg
  obtain ⟨bx, -, -, -⟩ := box_facts w #[.slice a1 m1 c1, .slice a2 m2 c2] 32
  have HBX := Lib.hid bx
  have HA := Lib.hid ha3
  have HOK := Lib.hid (show actOk n gs p = (grsOk n gs && inB p 0 7) from rfl)
  have HRY := Lib.hid (show actOk n gs p = true → actR n gs p = actI gs p m3 from fun e => by unfold actR; rw [if_pos e, HN3.out])
  have HRN := Lib.hid (show actOk n gs p = false → actR n gs p = [] from fun e => by unfold actR; rw [e]; rfl)
  have H12 := Lib.hid (show grsOk n gs = true → m3 ≤ 12 from fun e => by unfold grsOk at e; simp only [Bool.and_eq_true, decide_eq_true_eq] at e; have := HN3.out; omega)
  unfold ActP
  generalize actOk n gs p = ok at *
  generalize actR n gs p = R at *
  generalize grsOk n gs = gk at *
  clear bx ha3 r1 r2 hg
  go_enter Try.func16, Try.ntmps16
  go_wp2_with fail
  have HV1 := Lib.hid (HVG.out _ HBX.out)
  generalize w.alloc (.cells #[.slice a1 m1 c1, .slice a2 m2 c2] 32) = w1 at *
  cases gk
  · have HE := Lib.hid (show ok = false by rw [HOK.out]; rfl)
    have HR := Lib.hid (HRN.out HE.out)
    refine HV1.out.mono ?_
    rintro e w2 ⟨rfl, b2⟩
    have HB2 := Lib.hid (HBX.out.trans (b2.mono HBX.out.size))
    clear b2
    go_wp2
    go_ret2
    exact ⟨_, by rw [HE.out]; rfl, by rw [HR.out]; exact Ofr.nil _ _ _, HB2.out⟩
  have h12 := H12.out rfl
  refine HV1.out.mono ?_
  rintro e w2 ⟨rfl, b2⟩
  have HB2 := Lib.hid (HBX.out.trans (b2.mono HBX.out.size))
  clear b2
  cases hin : inB p 0 7
  · have HE := Lib.hid (show ok = false by rw [HOK.out, hin]; rfl)
    have HR := Lib.hid (HRN.out HE.out)
    go_wp2_with (go_at_call 44; refine (within_any _ _ _ _).mono ?_; rintro e w' ⟨rfl, rfl⟩; rw [hin])
    go_ret2
    exact ⟨_, by rw [HE.out]; rfl, by rw [HR.out]; exact Ofr.nil _ _ _, HB2.out⟩
  have HE := Lib.hid (show ok = true by rw [HOK.out, hin]; rfl)
  have HR := Lib.hid (HRY.out HE.out)
  have hz2 := HB2.out.size
  have HO0 := Lib.hid (show (w2.alloc (.cells #[] 3)).ownsRow w.heap.size 3 1 (.slice (some ⟨w2.heap.size, 0, none⟩) 0 0) 0 (ints (actI gs p 0)) from World.ownsRow_made w2 #[] 0 hz2 (Nat.zero_le _) (by simp))
  have HB3 := Lib.hid (HB2.out.alloc HB2.out.size (.cells #[] 3))
  go_wp2_with (go_at_call 44; refine (within_any _ _ _ _).mono ?_; rintro e w' ⟨rfl, rfl⟩; rw [hin])
  go_loopw [8, 9, 10, 23] (fun o _ _ i wr => ∃ (k m : Nat) (a : Option Addr) (c : Nat), k ≤ m3 ∧ i = .int .i64 k ∧ o = .slice a m c ∧ m ≤ k ∧ Hid (wr.ownsRow w.heap.size 3 1 (.slice a m c) m (ints (actI gs p k))) ∧ Hid (Below w.heap.size w wr)) (fun _ _ _ i _ => m3 - (intOf i).toNat)
  case atStart => exact ⟨0, 0, _, _, Nat.zero_le _, rfl, rfl, Nat.le_refl _, HO0.out, HB3.out⟩
  case round =>
    clear HB2 HO0 HB3 hz2
    obtain ⟨k, m, a, c, hk, rfl, rfl, hmk, HO, HB⟩ := hrel
    have hz := HB.out.size
    by_cases hlt : k < m3
    · have hltI : (k : Int) < (m3 : Int) := by omega
      obtain ⟨b, off, rfl, hbs, hcs⟩ := HA.out (by omega)
      have hcw := fun (r : Nat) (u : Value) (hu : (groE (gs[k]?.getD nilG))[r]? = some u) => (HB.out.cell (p := ⟨b, off + k * 6 + r, none⟩) hbs).trans (hcs k hlt r u hu)
      have c0 := hcw 0 _ rfl
      have c1 := hcw 1 _ rfl
      have c2 := hcw 2 _ rfl
      have c3 := hcw 3 _ rfl
      have c4 := hcw 4 _ rfl
      have c5 := hcw 5 _ rfl
      simp only [Nat.add_zero] at c0
      have HW := Lib.hid (fun w => isWanted_any (gs[k]?.getD nilG) p w)
      have HY := Lib.hid (@actI_yes gs p k)
      have HNO := Lib.hid (@actI_no gs p k)
      clear hcw hcs
      unfold groV at HW
      generalize gs[k]?.getD nilG = g at *
      cases hw : inB p g.s g.e
      · have HS := Lib.hid (HNO.out hw)
        rw [hw] at HW
        clear HY HNO hw
        go_wp2_with fail
        refine (HW.out _).mono ?_
        rintro e w4 ⟨rfl, b4⟩
        have b5 := (Below.refl wr.heap.size wr).alloc (Nat.le_refl _) (.cells #[.int .i64 g.d.a, .int .i64 g.d.b, .int .i64 g.d.r, .int .i64 g.d.c, .int .i64 g.s, .int .i64 g.e] 69)
        have b6 := b5.trans (b4.mono b5.size)
        have HO4 := Lib.hid (row_below HO.out b6)
        have HB4 := Lib.hid (HB.out.trans (b6.mono hz))
        clear b4 b5 b6
        go_wp2
        go_roundw
        case rel => exact ⟨k + 1, m, _, _, by omega, by go_num, rfl, by omega, by rw [HS.out]; exact HO4.out, HB4.out⟩
        case measure => simp [intOf]; omega
      · have HS := Lib.hid (HY.out hw)
        rw [hw] at HW
        clear HY HNO hw
        go_wp2_with fail
        refine (HW.out _).mono ?_
        rintro e w4 ⟨rfl, b4⟩
        have b5 := (Below.refl wr.heap.size wr).alloc (Nat.le_refl _) (.cells #[.int .i64 g.d.a, .int .i64 g.d.b, .int .i64 g.d.r, .int .i64 g.d.c, .int .i64 g.s, .int .i64 g.e] 69)
        have b6 := b5.trans (b4.mono b5.size)
        have HO4 := Lib.hid (row_below HO.out b6)
        have HB4 := Lib.hid (HB.out.trans (b6.mono hz))
        clear b4 b5 b6
        go_wp2_with (at_builtin; refine wpList_push rfl (.tmp 31) (.tmp 33) 39 rfl Try.underlying39 Try.infoInt w.heap.size (.slice a m c) m _ rfl HO4.out rfl (by omega) HB4.out.size ?_; intro v3 w5 hown3 hgrow3; obtain ⟨a5, c5, rfl⟩ := row_form hown3; have HO5 := Lib.hid hown3; have HB5 := Lib.hid (HB4.out.grown hgrow3 HB4.out.size (fun q hq => (HO4.out.lt q hq).1)); clear hown3 hgrow3)
        go_roundw
        case rel => exact ⟨k + 1, m + 1, _, _, by omega, by go_num, rfl, by omega, by rw [HS.out]; exact HO5.out, HB5.out⟩
        case measure => simp [intOf]; omega
    · obtain rfl : m3 = k := by omega
      go_wp2
      go_ret2
      exact ⟨_, by rw [HE.out]; rfl, by rw [HR.out]; exact (own_of_row HO.out).ofr, HB.out⟩
set_option maxHeartbeats 3200000 in
theorem specActive_any (v u : Value) (n : Net) (gs : List Gro) (p : Int) (w : World) (h : NetR w v n) (hg : Rdt w (flt 6 groE gs) u) :
    Calls Try.prog 15 #[v, u, .int .i64 p] w (ActP n gs p w) := by
  have HVG := Lib.hid (fun w' (hb : Below w.heap.size w w') => l26Good_any v u n gs w' (h.behind hb) (hg.behind hb))
  obtain ⟨u1, u2, rfl, r1, r2, -⟩ := h
  obtain ⟨a1, m1, c1, rfl⟩ := Rdt.slice' r1
  obtain ⟨a2, m2, c2, rfl⟩ := Rdt.slice' r2
  obtain ⟨a3, m3, c3, rfl, HN3, hc3, hm3, ha3⟩ := flt_opn (m := 6) (enc := groE) (fun _ => rfl) (by omega) nilG hg
  have bx := (Below.refl w.heap.size w).alloc (Nat.le_refl _) (.cells #[.slice a1 m1 c1, .slice a2 m2 c2] 32)
  have by_ := bx.alloc bx.size (.cells #[] 3)
  have HO0 := Lib.hid (show ((w.alloc (.cells #[.slice a1 m1 c1, .slice a2 m2 c2] 32)).alloc (.cells #[] 3)).ownsRow w.heap.size 3 1 (.slice (some ⟨w.heap.size + 1, 0, none⟩) 0 0) 0 (ints (actI gs p 0)) from by
    have := World.ownsRow_made (base := w.heap.size) (e := 3) (size := 1) (w.alloc (.cells #[.slice a1 m1 c1, .slice a2 m2 c2] 32)) #[] 0 (by simp) (Nat.zero_le _) (by simp)
    rw [show (w.alloc (.cells #[.slice a1 m1 c1, .slice a2 m2 c2] 32)).heap.size = w.heap.size + 1 by simp] at this
    exact this)
  have HBX := Lib.hid by_
  have HA := Lib.hid ha3
  have HOK := Lib.hid (show actOk n gs p = (grsOk n gs && inB p 0 7) from rfl)
  have HRY := Lib.hid (show actOk n gs p = true → actR n gs p = actI gs p m3 from fun e => by unfold actR; rw [if_pos e, HN3.out])
  have HRN := Lib.hid (show actOk n gs p = false → actR n gs p = [] from fun e => by unfold actR; rw [e]; rfl)
  have H12 := Lib.hid (show grsOk n gs = true → m3 ≤ 12 from fun e => by unfold grsOk at e; simp only [Bool.and_eq_true, decide_eq_true_eq] at e; have := HN3.out; omega)
  unfold ActP
  generalize actOk n gs p = ok at *
  generalize actR n gs p = R at *
  generalize grsOk n gs = gk at *
  clear bx by_ ha3 r1 r2 hg
  go_enter Try.func15, Try.ntmps15
  go_wp2_with fail
  have HV1 := Lib.hid (HVG.out _ HBX.out)
  generalize (w.alloc (.cells #[.slice a1 m1 c1, .slice a2 m2 c2] 32)).alloc (.cells #[] 3) = w1 at *
  cases gk
  · have HE := Lib.hid (show ok = false by rw [HOK.out]; rfl)
    have HR := Lib.hid (HRN.out HE.out)
    refine HV1.out.mono ?_
    rintro e w2 ⟨rfl, b2⟩
    have HO2 := Lib.hid (row_below HO0.out b2)
    have HB2 := Lib.hid (HBX.out.trans (b2.mono HBX.out.size))
    clear b2
    go_wp2
    go_ret2
    exact ⟨_, by rw [HE.out]; rfl, by rw [HR.out]; exact (own_of_row (xs := []) HO2.out).ofr, HB2.out⟩
  have h12 := H12.out rfl
  refine HV1.out.mono ?_
  rintro e w2 ⟨rfl, b2⟩
  have HO2 := Lib.hid (row_below HO0.out b2)
  have HB2 := Lib.hid (HBX.out.trans (b2.mono HBX.out.size))
  clear b2
  cases hin : inB p 0 7
  · have HE := Lib.hid (show ok = false by rw [HOK.out, hin]; rfl)
    have HR := Lib.hid (HRN.out HE.out)
    go_wp2_with (go_at_call 48; refine (l1In_any _ _ _ _).mono ?_; rintro e w' ⟨rfl, rfl⟩; rw [hin])
    go_ret2
    exact ⟨_, by rw [HE.out]; rfl, by rw [HR.out]; exact (own_of_row (xs := []) HO2.out).ofr, HB2.out⟩
  have HE := Lib.hid (show ok = true by rw [HOK.out, hin]; rfl)
  have HR := Lib.hid (HRY.out HE.out)
  go_wp2_with (go_at_call 48; refine (l1In_any _ _ _ _).mono ?_; rintro e w' ⟨rfl, rfl⟩; rw [hin])
  go_loopw [8, 9] (fun o i wr => ∃ (k m : Nat) (a : Option Addr) (c : Nat), k ≤ m3 ∧ i = .int .i64 k ∧ o = .slice a m c ∧ m ≤ k ∧ Hid (wr.ownsRow w.heap.size 3 1 (.slice a m c) m (ints (actI gs p k))) ∧ Hid (Below w.heap.size w wr)) (fun _ i _ => m3 - (intOf i).toNat)
  case atStart => exact ⟨0, 0, _, _, Nat.zero_le _, rfl, rfl, Nat.le_refl _, HO2.out, HB2.out⟩
  case round =>
    clear HB2 HO2 HO0 HBX
    obtain ⟨k, m, a, c, hk, rfl, rfl, hmk, HO, HB⟩ := hrel
    have hz := HB.out.size
    by_cases hlt : k < m3
    · have hltI : (k : Int) < (m3 : Int) := by omega
      obtain ⟨b, off, rfl, hbs, hcs⟩ := HA.out (by omega)
      have hcw := fun (r : Nat) (u : Value) (hu : (groE (gs[k]?.getD nilG))[r]? = some u) => (HB.out.cell (p := ⟨b, off + k * 6 + r, none⟩) hbs).trans (hcs k hlt r u hu)
      have c4 := hcw 4 _ rfl
      have c5 := hcw 5 _ rfl
      have HY := Lib.hid (@actI_yes gs p k)
      have HNO := Lib.hid (@actI_no gs p k)
      clear hcw hcs
      generalize gs[k]?.getD nilG = g at *
      have j4 := rg c4
      have j5 := rg c5
      cases hw : inB p g.s g.e
      all_goals
        have HI := Lib.hid (fun w => l1In_any p g.s g.e w)
        rw [hw] at HI
        go_wp2
        refine wp_region_quiet_below (by kernel_rfl) (by kernel_rfl) ?_
        repeat (go_big_quiet_step (first | (go_at_call 48; exact rg_same (HI.out _))))
        refine wpQuiet_nil ?_
        rintro _ ⟨⟨dq, osq⟩, rfl⟩
        have b4 := below_regrown wr dq osq
        have HO4 := Lib.hid (row_below HO.out b4)
        have HB4 := Lib.hid (HB.out.trans (b4.mono hz))
        clear b4
      · have HS := Lib.hid (HNO.out hw)
        clear HY HNO hw
        go_wp2
        go_roundw
        case rel => exact ⟨k + 1, m, _, _, by omega, by go_num, rfl, by omega, by rw [HS.out]; exact HO4.out, HB4.out⟩
        case measure => simp [intOf]; omega
      · have HS := Lib.hid (HY.out hw)
        clear HY HNO hw
        generalize grow (redrawn wr dq) osq = w4 at *
        go_wp2_with (at_builtin; refine wpList_push rfl (.tmp 39) (.tmp 41) 39 rfl Try.underlying39 Try.infoInt w.heap.size (.slice a m c) m _ rfl HO4.out rfl (by omega) HB4.out.size ?_; intro v3 w5 hown3 hgrow3; obtain ⟨a5, c5, rfl⟩ := row_form hown3; have HO5 := Lib.hid hown3; have HB5 := Lib.hid (HB4.out.grown hgrow3 HB4.out.size (fun q hq => (HO4.out.lt q hq).1)); clear hown3 hgrow3)
        go_roundw
        case rel => exact ⟨k + 1, m + 1, _, _, by omega, by go_num, rfl, by omega, by rw [HS.out]; exact HO5.out, HB5.out⟩
        case measure => simp [intOf]; omega
    · obtain rfl : m3 = k := by omega
      go_wp2
      go_ret2
      exact ⟨_, by rw [HE.out]; rfl, by rw [HR.out]; exact (own_of_row HO.out).ofr, HB.out⟩
end Go.Proofs.Ytphhenlokbodnaa
