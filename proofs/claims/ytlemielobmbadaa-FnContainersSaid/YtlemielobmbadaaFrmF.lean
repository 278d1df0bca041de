/- Walks: finding frames. -/
import Derived.Test.YtlemielobmbadaaFrmI
namespace Go.Proofs.Ytlemielobmbadaa
open Go.RowKit
set_option maxRecDepth 100000

def fndL (xs : List Int) : Nat → Nat → List Int
  | 0, _ => []
  | f + 1, k => if k + 17 ≤ xs.length then (if prsOk (sub xs k 17) then (k : Int) :: fndL xs f (k + 17) else fndL xs f (k + 1)) else []
theorem fndL_fuel (xs : List Int) : ∀ f g k, xs.length < k + f → xs.length < k + g → fndL xs f k = fndL xs g k
  | 0, 0, _, _, _ => rfl
  | 0, g + 1, k, h, _ => by rw [fndL, fndL, if_neg (by omega)]
  | f + 1, 0, k, _, h => by rw [fndL, fndL, if_neg (by omega)]
  | f + 1, g + 1, k, h1, h2 => by
    rw [fndL, fndL]
    split
    · split
      · rw [fndL_fuel xs f g (k + 17) (by omega) (by omega)]
      · rw [fndL_fuel xs f g (k + 1) (by omega) (by omega)]
    · rfl
def fnd (xs : List Int) (k : Nat) : List Int := fndL xs (xs.length + 1) k
theorem fnd_yes {xs : List Int} {k : Nat} (h : k + 17 ≤ xs.length) (hp : prsOk (sub xs k 17) = true) : fnd xs k = (k : Int) :: fnd xs (k + 17) := by
  unfold fnd; rw [fndL, if_pos h, if_pos hp, fndL_fuel xs xs.length (xs.length + 1) (k + 17) (by omega) (by omega)]
theorem fnd_no {xs : List Int} {k : Nat} (h : k + 17 ≤ xs.length) (hp : prsOk (sub xs k 17) = false) : fnd xs k = fnd xs (k + 1) := by
  unfold fnd; rw [fndL, if_pos h, hp, if_neg (by simp), fndL_fuel xs xs.length (xs.length + 1) (k + 1) (by omega) (by omega)]
theorem fnd_end {xs : List Int} {k : Nat} (h : ¬ k + 17 ≤ xs.length) : fnd xs k = [] := by
  unfold fnd; rw [fndL, if_neg h]
def fndOk (xs : List Int) : Bool := decide (xs.length ≤ 400) && bytL xs
def fndR (xs : List Int) : List Int := if fndOk xs then fnd xs 0 else []
def FndP (w : World) (xs : List Int) (e : Ending) (w' : World) : Prop := ∃ v, e = .returned (.tuple #[v, .bool (fndOk xs)]) ∧ Own w' w.heap.size v (fndR xs) ∧ Below w.heap.size w w'
theorem FndP.no {w w' : World} {xs : List Int} {v : Value} (h : fndOk xs = false) (ho : Own w' w.heap.size v []) (hb : Below w.heap.size w w') : FndP w xs (.returned (.tuple #[v, .bool false])) w' :=
  ⟨v, by rw [h], by unfold fndR; rw [h]; exact ho, hb⟩
theorem FndP.yes {w w' : World} {xs : List Int} {v : Value} (h : fndOk xs = true) (ho : Own w' w.heap.size v (fnd xs 0)) (hb : Below w.heap.size w w') : FndP w xs (.returned (.tuple #[v, .bool true])) w' :=
  ⟨v, by rw [h], by unfold fndR; rw [if_pos h]; exact ho, hb⟩
theorem fnd_two {b : List Int} (h : prsOk b = true) : fndOk (b ++ b) = true ∧ fnd (b ++ b) 0 = [0, 17] := by
  obtain ⟨h1, h2, h3⟩ := frm_prs h
  have hby := frm_bytes h1
  rw [h2] at hby
  have hs0 : sub (b ++ b) 0 17 = b := by simp [sub, ← h3]
  have hs1 : sub (b ++ b) 17 17 = b := by simp [sub, ← h3]
  refine ⟨by unfold fndOk; rw [bytL_append, hby, List.length_append, h3]; rfl, ?_⟩
  rw [fnd_yes (by rw [List.length_append]; omega) (by rw [hs0]; exact h), fnd_yes (by rw [List.length_append]; omega) (by rw [hs1]; exact h), fnd_end (by rw [List.length_append]; omega)]
  rfl
set_option maxHeartbeats 3200000 in
theorem specFnd_any (v : Value) (xs : List Int) (w : World) (h : Rd w v xs) :
    Calls Try.prog 46 #[v] w (FndP w xs) := by
  have hal := (Below.refl w.heap.size w).alloc (Nat.le_refl _) (.cells #[] 3)
  have HB0 := Lib.hid hal
  have HNO := Lib.hid (fun w' v => @FndP.no w w' xs v)
  have HYES := Lib.hid (fun w' v => @FndP.yes w w' xs v)
  have HBY := Lib.hid (fun w' (hb : Below w.heap.size w w') => l23Bytes_any v xs w' (h.belowAll hb))
  have h0 := h
  obtain ⟨a, cap, n, HX, rfl, hnc, hla, HCM, ha⟩ := h.opnc
  have HOK := Lib.hid (show fndOk xs = (decide (n ≤ 400) && bytL xs) by unfold fndOk; rw [HX.out])
  generalize bytL xs = by_ at *
  by_cases hn : n ≤ 400
  case neg =>
    have hgt : (400 : Int) < (n : Int) := by omega
    have hgtb : decide ((400 : Int) < (n : Int)) = true := by simpa using hgt
    have HF := Lib.hid (show fndOk xs = false by rw [HOK.out]; simp [hn])
    clear hn
    go_enter Try.func46, Try.ntmps46
    go_wp2
    exact bodyPost_ret (results_tmp2 (t := 2) (u := 3) rfl _ _ _) rfl (HNO.out _ _ HF.out (empty_any.mono (Nat.le_refl _)) HB0.out)
  have hgt : ¬ (400 : Int) < (n : Int) := by omega
  have hgtb : decide ((400 : Int) < (n : Int)) = false := by simpa using hgt
  cases by_
  · have HF := Lib.hid (show fndOk xs = false by rw [HOK.out]; simp)
    go_enter Try.func46, Try.ntmps46
    go_wp2_with fail
    refine (HBY.out _ HB0.out).mono ?_
    rintro e w1 ⟨rfl, rfl⟩
    go_wp2
    exact bodyPost_ret (results_tmp2 (t := 2) (u := 3) rfl _ _ _) rfl (HNO.out _ _ HF.out (empty_any.mono (Nat.le_refl _)) HB0.out)
  have HT := Lib.hid (show fndOk xs = true by rw [HOK.out]; simp [hn])
  have HFY := Lib.hid (fun k => @fnd_yes xs k)
  have HFN := Lib.hid (fun k => @fnd_no xs k)
  have HFE := Lib.hid (fun k => @fnd_end xs k)
  have HRS := Lib.hid (fun (wr : World) (hb : Below w.heap.size w wr) (k : Nat) (hk : k + 17 ≤ n) (b off : Nat) (ea : a = some ⟨b, off, none⟩) => show Rd wr (.slice (some ⟨b, off + k, none⟩) 17 (cap - k)) (sub xs k 17) from by
    subst ea
    obtain ⟨b', off', e1, hb', hc'⟩ := ha (by omega)
    cases e1
    exact (rd_sub HX.out hnc HCM.out hb' hc' k 17 hk).belowAll hb)
  have hrow0 : (w.alloc (.cells #[] 3)).ownsRow w.heap.size 3 1 (.slice (some ⟨w.heap.size, 0, none⟩) 0 0) 0 (ints []) := World.ownsRow_lit (base := w.heap.size) (e := 3) (size := 1) w #[] 0 (Nat.le_refl _) (by simp) rfl
  have HR0 := Lib.hid hrow0
  have hab : 17 ≤ n → ∃ b off, a = some ⟨b, off, none⟩ := fun h => by obtain ⟨b, off, e, _⟩ := ha (by omega); exact ⟨b, off, e⟩
  clear ha hal h0 h hrow0
  go_enter Try.func46, Try.ntmps46
  go_wp2_with fail
  refine (HBY.out _ HB0.out).mono ?_
  rintro e w1 ⟨rfl, rfl⟩
  go_wp2_with fail
  go_loopw [4, 5, 6, 7] (fun os iv _ _ wr => ∃ (k : Nat) (fs : List Int), iv = .int .i64 (k : Int) ∧ k ≤ 420 ∧ fs.length ≤ k ∧ w.heap.size ≤ wr.heap.size ∧ Hid (wr.ownsRow w.heap.size 3 1 os fs.length (ints fs)) ∧ Hid (fs ++ fnd xs k = fnd xs 0) ∧ Hid (Below w.heap.size w wr)) (fun _ iv _ _ _ => 1000 - (intOf iv).toNat)
  case atStart => exact ⟨0, [], rfl, by omega, by simp, by simp, HR0.out, rfl, HB0.out⟩
  case round =>
    obtain ⟨k, fs, rfl, hk4, hfl, hsz, HOS, HFS, HBW⟩ := hrel
    obtain ⟨ae, ce, ne, HNE, rfl, _, _, _⟩ := (own_of_row HOS.out).rd.opn
    obtain rfl : fs.length = ne := HNE.out
    by_cases hk : k + 17 ≤ n
    · have hkI : (k : Int) + 17 ≤ (n : Int) := by omega
      have hkb : decide ((k : Int) + 17 ≤ (n : Int)) = true := by simpa using hkI
      obtain ⟨b, off, rfl⟩ := hab (by omega)
      have hkc : (k : Int) + 17 ≤ (cap : Int) := by omega
      have hkc2 : ¬ cap = k := by omega
      have hkc3 : k + 17 ≤ cap := by omega
      have hv := specPrs_any _ (sub xs k 17) wr (HRS.out wr HBW.out k hk b off rfl)
      unfold PrsP at hv
      have HV := Lib.hid hv
      have HY := Lib.hid (HFY.out k (by rw [HX.out]; exact hk))
      have HN := Lib.hid (HFN.out k (by rw [HX.out]; exact hk))
      clear hv
      generalize prsOk (sub xs k 17) = got at *
      go_wp2_with fail
      refine HV.out.mono ?_
      rintro e w2 ⟨v2, rfl, ⟨u2, rfl, o2⟩, b2⟩
      obtain ⟨a5, c5, n5, HX5, rfl, -⟩ := o2.rd.opn
      have HO2 := Lib.hid (ownsRow_kept HOS.out (w' := w2) (fun x hx => b2.block x (HOS.out.lt x hx).2))
      have HB2 := Lib.hid (HBW.out.trans (b2.mono HBW.out.size))
      have hs2 : w.heap.size ≤ w2.heap.size := Nat.le_trans hsz b2.size
      clear b2 o2 HBW HOS HV HNE HX5
      cases got
      · have HN' := Lib.hid (HN.out rfl)
        clear HN HY
        go_wp2_with fail
        go_roundw
        case rel => exact ⟨k + 1, fs, by go_num, by omega, by omega, by simp; omega, ownsRow_kept HO2.out (fun x hx => heap_alloc_old _ _ (HO2.out.lt x hx).2), by rw [← HN'.out]; exact HFS.out, HB2.out.alloc HB2.out.size _⟩
        case measure => simp only [intOf]; omega
      · have HYk := Lib.hid (show (fs ++ [(k : Int)]) ++ fnd xs (k + 17) = fnd xs 0 by rw [List.append_assoc]; show fs ++ ((k : Int) :: fnd xs (k + 17)) = _; rw [← HY.out rfl]; exact HFS.out)
        have HO3 := Lib.hid (show (w2.alloc (.cells #[.int .i64 (prsR (sub xs k 17)).c, .int .i64 (prsR (sub xs k 17)).p, .slice a5 n5 c5] 50)).ownsRow w.heap.size 3 1 (.slice ae fs.length ce) fs.length (ints fs) from ownsRow_kept HO2.out (fun x hx => heap_alloc_old _ _ (HO2.out.lt x hx).2))
        have HLT := Lib.hid (fun x hx => (HO2.out.lt x hx).1)
        have HB3 := Lib.hid (HB2.out.alloc HB2.out.size (.cells #[.int .i64 (prsR (sub xs k 17)).c, .int .i64 (prsR (sub xs k 17)).p, .slice a5 n5 c5] 50))
        have hs3 := HB3.out.size
        have hle : (fs ++ [(k : Int)]).length = fs.length + 1 := by simp
        have HLE := Lib.hid hle
        clear HN HY HFS hle HO2
        go_wp2_with (at_builtin; go_loud (refine wpList_push rfl (.tmp 35) (.tmp 37) 24 rfl Try.underlying24 Try.infoInt w.heap.size (.slice ae fs.length ce) fs.length fs rfl HO3.out (congrArg (fun b => Value.slice (some ⟨b, 0, none⟩) 1 1) (show w2.heap.size + 1 = (w2.alloc (.cells #[.int .i64 (prsR (sub xs k 17)).c, .int .i64 (prsR (sub xs k 17)).p, .slice a5 n5 c5] 50)).heap.size from by simp)) (by omega) hs3 ?_; intro v3 w3 hown3 hgrow3; have HB4 := Lib.hid (HB3.out.grown hgrow3 HB3.out.size (fun x hx => HLT.out x hx)); have hs4 := HB4.out.size; rw [← HLE.out] at hown3; have H3 := Lib.hid hown3; clear hown3 hgrow3))
        go_roundw
        case rel => exact ⟨k + 17, fs ++ [(k : Int)], by go_num, by omega, by rw [HLE.out]; omega, hs4, H3.out, HYk.out, HB4.out⟩
        case measure => simp only [intOf]; omega
    · have hkI : ¬ (k : Int) + 17 ≤ (n : Int) := by omega
      have hkb : decide ((k : Int) + 17 ≤ (n : Int)) = false := by simpa using hkI
      have HE := Lib.hid (HFE.out k (by rw [HX.out]; exact hk))
      go_wp2
      have hfs := HFS.out
      rw [HE.out, List.append_nil] at hfs
      exact bodyPost_ret (results_tmp2 (t := 2) (u := 3) rfl _ _ _) rfl (HYES.out _ _ HT.out (by rw [← hfs]; exact own_of_row HOS.out) HBW.out)
set_option maxHeartbeats 3200000 in
theorem implFnd_any (v : Value) (xs : List Int) (w : World) (h : Rd w v xs) :
    Calls Try.prog 44 #[v] w (FndP w xs) := by
  have hal := (Below.refl w.heap.size w).alloc (Nat.le_refl _) (.cells #[] 3)
  have HB0 := Lib.hid hal
  have HNO := Lib.hid (fun w' v => @FndP.no w w' xs v)
  have HYES := Lib.hid (fun w' v => @FndP.yes w w' xs v)
  have HBY := Lib.hid (fun w' (hb : Below w.heap.size w w') => areBytes_any v xs w' (h.belowAll hb))
  have h0 := h
  obtain ⟨a, cap, n, HX, rfl, hnc, hla, HCM, ha⟩ := h.opnc
  have HOK := Lib.hid (show fndOk xs = (decide (n ≤ 400) && bytL xs) by unfold fndOk; rw [HX.out])
  generalize bytL xs = by_ at *
  by_cases hn : n ≤ 400
  case neg =>
    have hgt : (400 : Int) < (n : Int) := by omega
    have hgtb : decide ((400 : Int) < (n : Int)) = true := by simpa using hgt
    have HF := Lib.hid (show fndOk xs = false by rw [HOK.out]; simp [hn])
    clear hn
    go_enter Try.func44, Try.ntmps44
    go_wp2
    exact bodyPost_ret (results_tmp2 (t := 2) (u := 3) rfl _ _ _) rfl (HNO.out _ _ HF.out own_nil (Below.refl _ _))
  have hgt : ¬ (400 : Int) < (n : Int) := by omega
  have hgtb : decide ((400 : Int) < (n : Int)) = false := by simpa using hgt
  cases by_
  · have HF := Lib.hid (show fndOk xs = false by rw [HOK.out]; simp)
    go_enter Try.func44, Try.ntmps44
    go_wp2_with fail
    refine (HBY.out _ (Below.refl _ _)).mono ?_
    rintro e w1 ⟨rfl, rfl⟩
    go_wp2
    exact bodyPost_ret (results_tmp2 (t := 2) (u := 3) rfl _ _ _) rfl (HNO.out _ _ HF.out own_nil (Below.refl _ _))
  have HT := Lib.hid (show fndOk xs = true by rw [HOK.out]; simp [hn])
  have HFY := Lib.hid (fun k => @fnd_yes xs k)
  have HFN := Lib.hid (fun k => @fnd_no xs k)
  have HFE := Lib.hid (fun k => @fnd_end xs k)
  have HRS := Lib.hid (fun (wr : World) (hb : Below w.heap.size w wr) (k : Nat) (hk : k + 17 ≤ n) (b off : Nat) (ea : a = some ⟨b, off, none⟩) => show Rd wr (.slice (some ⟨b, off + k, none⟩) 17 (cap - k)) (sub xs k 17) from by
    subst ea
    obtain ⟨b', off', e1, hb', hc'⟩ := ha (by omega)
    cases e1
    exact (rd_sub HX.out hnc HCM.out hb' hc' k 17 hk).belowAll hb)
  have hrow0 : (w.alloc (.cells #[] 3)).ownsRow w.heap.size 3 1 (.slice (some ⟨w.heap.size, 0, none⟩) 0 0) 0 (ints []) := World.ownsRow_lit (base := w.heap.size) (e := 3) (size := 1) w #[] 0 (Nat.le_refl _) (by simp) rfl
  have HR0 := Lib.hid hrow0
  have hab : 17 ≤ n → ∃ b off, a = some ⟨b, off, none⟩ := fun h => by obtain ⟨b, off, e, _⟩ := ha (by omega); exact ⟨b, off, e⟩
  clear ha hal h0 h hrow0
  go_enter Try.func44, Try.ntmps44
  go_wp2_with fail
  refine (HBY.out _ (Below.refl _ _)).mono ?_
  rintro e w1 ⟨rfl, rfl⟩
  go_wp2_with fail
  go_loopw [4, 5, 6, 7] (fun os iv _ _ wr => ∃ (k : Nat) (fs : List Int), iv = .int .i64 (k : Int) ∧ k ≤ 420 ∧ fs.length ≤ k ∧ w.heap.size ≤ wr.heap.size ∧ Hid (wr.ownsRow w.heap.size 3 1 os fs.length (ints fs)) ∧ Hid (fs ++ fnd xs k = fnd xs 0) ∧ Hid (Below w.heap.size w wr)) (fun _ iv _ _ _ => 1000 - (intOf iv).toNat)
  case atStart => exact ⟨0, [], rfl, by omega, by simp, by simp, HR0.out, rfl, HB0.out⟩
  case round =>
    obtain ⟨k, fs, rfl, hk4, hfl, hsz, HOS, HFS, HBW⟩ := hrel
    obtain ⟨ae, ce, ne, HNE, rfl, _, _, _⟩ := (own_of_row HOS.out).rd.opn
    obtain rfl : fs.length = ne := HNE.out
    by_cases hk : k + 17 ≤ n
    · have hkI : (k : Int) + 17 ≤ (n : Int) := by omega
      have hkb : decide ((k : Int) + 17 ≤ (n : Int)) = true := by simpa using hkI
      obtain ⟨b, off, rfl⟩ := hab (by omega)
      have hkc : (k : Int) + 17 ≤ (cap : Int) := by omega
      have hkc2 : ¬ cap = k := by omega
      have hkc3 : k + 17 ≤ cap := by omega
      have hv := implPrs_any _ (sub xs k 17) wr (HRS.out wr HBW.out k hk b off rfl)
      unfold PrsP at hv
      have HV := Lib.hid hv
      have HY := Lib.hid (HFY.out k (by rw [HX.out]; exact hk))
      have HN := Lib.hid (HFN.out k (by rw [HX.out]; exact hk))
      clear hv
      generalize prsOk (sub xs k 17) = got at *
      go_wp2_with fail
      refine HV.out.mono ?_
      rintro e w2 ⟨v2, rfl, ⟨u2, rfl, o2⟩, b2⟩
      obtain ⟨a5, c5, n5, HX5, rfl, -⟩ := o2.rd.opn
      have HO2 := Lib.hid (ownsRow_kept HOS.out (w' := w2) (fun x hx => b2.block x (HOS.out.lt x hx).2))
      have HB2 := Lib.hid (HBW.out.trans (b2.mono HBW.out.size))
      have hs2 : w.heap.size ≤ w2.heap.size := Nat.le_trans hsz b2.size
      clear b2 o2 HBW HOS HV HNE HX5
      cases got
      · have HN' := Lib.hid (HN.out rfl)
        clear HN HY
        go_wp2_with fail
        go_roundw
        case rel => exact ⟨k + 1, fs, by go_num, by omega, by omega, by simp; omega, ownsRow_kept HO2.out (fun x hx => heap_alloc_old _ _ (HO2.out.lt x hx).2), by rw [← HN'.out]; exact HFS.out, HB2.out.alloc HB2.out.size _⟩
        case measure => simp only [intOf]; omega
      · have HYk := Lib.hid (show (fs ++ [(k : Int)]) ++ fnd xs (k + 17) = fnd xs 0 by rw [List.append_assoc]; show fs ++ ((k : Int) :: fnd xs (k + 17)) = _; rw [← HY.out rfl]; exact HFS.out)
        have HO3 := Lib.hid (show (w2.alloc (.cells #[.int .i64 (prsR (sub xs k 17)).c, .int .i64 (prsR (sub xs k 17)).p, .slice a5 n5 c5] 50)).ownsRow w.heap.size 3 1 (.slice ae fs.length ce) fs.length (ints fs) from ownsRow_kept HO2.out (fun x hx => heap_alloc_old _ _ (HO2.out.lt x hx).2))
        have HLT := Lib.hid (fun x hx => (HO2.out.lt x hx).1)
        have HB3 := Lib.hid (HB2.out.alloc HB2.out.size (.cells #[.int .i64 (prsR (sub xs k 17)).c, .int .i64 (prsR (sub xs k 17)).p, .slice a5 n5 c5] 50))
        have hs3 := HB3.out.size
        have hle : (fs ++ [(k : Int)]).length = fs.length + 1 := by simp
        have HLE := Lib.hid hle
        clear HN HY HFS hle HO2
        go_wp2_with (at_builtin; go_loud (refine wpList_push rfl (.tmp 34) (.tmp 36) 24 rfl Try.underlying24 Try.infoInt w.heap.size (.slice ae fs.length ce) fs.length fs rfl HO3.out (congrArg (fun b => Value.slice (some ⟨b, 0, none⟩) 1 1) (show w2.heap.size + 1 = (w2.alloc (.cells #[.int .i64 (prsR (sub xs k 17)).c, .int .i64 (prsR (sub xs k 17)).p, .slice a5 n5 c5] 50)).heap.size from by simp)) (by omega) hs3 ?_; intro v3 w3 hown3 hgrow3; have HB4 := Lib.hid (HB3.out.grown hgrow3 HB3.out.size (fun x hx => HLT.out x hx)); have hs4 := HB4.out.size; rw [← HLE.out] at hown3; have H3 := Lib.hid hown3; clear hown3 hgrow3))
        go_roundw
        case rel => exact ⟨k + 17, fs ++ [(k : Int)], by go_num, by omega, by rw [HLE.out]; omega, hs4, H3.out, HYk.out, HB4.out⟩
        case measure => simp only [intOf]; omega
    · have hkI : ¬ (k : Int) + 17 ≤ (n : Int) := by omega
      have hkb : decide ((k : Int) + 17 ≤ (n : Int)) = false := by simpa using hkI
      have HE := Lib.hid (HFE.out k (by rw [HX.out]; exact hk))
      go_wp2
      have hfs := HFS.out
      rw [HE.out, List.append_nil] at hfs
      exact bodyPost_ret (results_tmp2 (t := 2) (u := 3) rfl _ _ _) rfl (HYES.out _ _ HT.out (by rw [← hfs]; exact own_of_row HOS.out) HBW.out)
end Go.Proofs.Ytlemielobmbadaa
