/- Walks: IsValidGrowth, both. (The searches are printed by geniff.py.) -/
import Derived.Test.YtphhenlokbodnaaGroW
namespace Go.Proofs.Ytphhenlokbodnaa
open Go.RowKit Go.Sort
set_option maxRecDepth 100000

set_option maxHeartbeats 1600000 in
theorem indexFuncGro_any (v : Value) (zs : List Gro) (F : FuncId) (b0 : Nat) (p : Gro → Bool) (w : World) (h : Rdt w (flt 6 groE zs) v) (hF : IsFn F)
    (hp : ∀ (i : Nat) (w' : World), i < zs.length → Below w.heap.size w w' → ∀ z, z = zs[i]?.getD nilG → Calls Try.prog F #[groV z, ptr b0] w' fun e w2 => e = .returned (.bool (p z)) ∧ Below w'.heap.size w' w2) :
    Calls Try.prog 65 #[v, .func (.func F) #[] #[ptr b0]] w fun e w' => e = .returned (.int .i64 (idxG zs p)) ∧ Below w.heap.size w w' := by
  obtain ⟨a, n, cap, rfl, HN, _, hla, ha⟩ := flt_opn (m := 6) (enc := groE) (fun _ => rfl) (by omega) nilG h
  rw [HN.out] at hp
  have HP := Lib.hid hp
  have HA := Lib.hid ha
  clear hp ha h
  have hF := show ∀ (args : Array Value) (w : World), (callFunc F args).run Try.prog w = .ok (.enter F args) w from hF
  have HI := Lib.hid (fun k hk h e => idxG_some (zs := zs) (p := p) (nil := nilG) (k := k) hk h e)
  have HO := Lib.hid (idxG_none (zs := zs) (p := p))
  have HM := Lib.hid (fun k hk h e => anyG_more (zs := zs) (p := p) (nil := nilG) (k := k) hk h e)
  generalize idxG zs p = r at *
  go_enter Try.func65, Try.ntmps65
  go_wp2
  go_loopw [5, 8] (fun _ i wr => ∃ k : Nat, k ≤ n ∧ i = .int .i64 k ∧ Hid ((zs.take k).any p = false) ∧ Hid (Below w.heap.size w wr)) (fun _ i _ => n - (intOf i).toNat)
  case atStart => exact ⟨0, by omega, rfl, by simp [Hid], Below.refl _ _⟩
  case round =>
    obtain ⟨k, hk, rfl, HT, HB⟩ := hrel
    by_cases hlt : k < n
    · have hltI : (k : Int) < (n : Int) := by omega
      have hkx : k < zs.length := by rw [HN.out]; exact hlt
      obtain ⟨b, off, rfl, hbs, hcs⟩ := HA.out (by omega)
      have hcell0 := hcs k hlt 0 _ rfl
      have hcell1 := hcs k hlt 1 _ rfl
      have hcell2 := hcs k hlt 2 _ rfl
      have hcell3 := hcs k hlt 3 _ rfl
      have hcell4 := hcs k hlt 4 _ rfl
      have hcell5 := hcs k hlt 5 _ rfl
      have hw0 := (HB.out.cell (p := ⟨b, off + k * 6 + 0, none⟩) hbs).trans hcell0
      have hw1 := (HB.out.cell (p := ⟨b, off + k * 6 + 1, none⟩) hbs).trans hcell1
      have hw2 := (HB.out.cell (p := ⟨b, off + k * 6 + 2, none⟩) hbs).trans hcell2
      have hw3 := (HB.out.cell (p := ⟨b, off + k * 6 + 3, none⟩) hbs).trans hcell3
      have hw4 := (HB.out.cell (p := ⟨b, off + k * 6 + 4, none⟩) hbs).trans hcell4
      have hw5 := (HB.out.cell (p := ⟨b, off + k * 6 + 5, none⟩) hbs).trans hcell5
      simp only [Nat.add_zero] at hw0
      have HPK := Lib.hid (HP.out k wr hlt HB.out _ rfl)
      have HIK := Lib.hid (HI.out k hkx HT.out)
      have HMK := Lib.hid (HM.out k hkx HT.out)
      clear hcs hkx hcell0 hcell1 hcell2 hcell3 hcell4 hcell5
      generalize zs[k]?.getD nilG = z at *
      unfold groV at HPK
      generalize p z = pz at *
      have hz := HB.out.size
      cases pz
      · have HE := Lib.hid (HMK.out rfl)
        go_wp2_with fail
        refine HPK.out.mono ?_
        rintro e w2 ⟨rfl, b2⟩
        have HB2 := Lib.hid (HB.out.trans (b2.mono hz))
        clear b2
        go_wp2
        go_roundw
        case rel => exact ⟨k + 1, by omega, by go_num, HE.out, HB2.out⟩
        case measure => simp [intOf]; omega
      · have HE := Lib.hid (HIK.out rfl)
        go_wp2_with fail
        refine HPK.out.mono ?_
        rintro e w2 ⟨rfl, b2⟩
        have HB2 := Lib.hid (HB.out.trans (b2.mono hz))
        clear b2
        go_wp2
        go_ret
        exact ⟨by rw [HE.out]; rfl, HB2.out⟩
    · obtain rfl : n = k := by omega
      have hall := HT.out
      rw [← HN.out, List.take_length] at hall
      have HE := Lib.hid (HO.out hall)
      clear hall
      go_wp2
      go_ret
      exact ⟨by rw [HE.out]; rfl, HB.out⟩
theorem containsFuncGro_any (v : Value) (zs : List Gro) (F : FuncId) (b0 : Nat) (p : Gro → Bool) (w : World) (h : Rdt w (flt 6 groE zs) v) (hF : IsFn F)
    (hp : ∀ (i : Nat) (w' : World), i < zs.length → Below w.heap.size w w' → ∀ z, z = zs[i]?.getD nilG → Calls Try.prog F #[groV z, ptr b0] w' fun e w2 => e = .returned (.bool (p z)) ∧ Below w'.heap.size w' w2) :
    Calls Try.prog 41 #[v, .func (.func F) #[] #[ptr b0]] w fun e w' => e = .returned (.bool (zs.any p)) ∧ Below w.heap.size w w' := by
  have HI := Lib.hid (indexFuncGro_any v zs F b0 p w h hF hp)
  have HG := Lib.hid (idxG_geq zs p)
  generalize idxG zs p = r at *
  generalize zs.any p = s at *
  obtain ⟨a, n, cap, rfl, -⟩ := flt_opn (m := 6) (enc := groE) (fun _ => rfl) (by omega) nilG h
  clear h hp hF
  go_enter Try.func41, Try.ntmps41
  go_wp2_with fail
  refine HI.out.mono ?_
  rintro e w2 ⟨rfl, b2⟩
  have HB := Lib.hid b2
  clear b2
  go_wp2
  go_ret
  exact ⟨by rw [← HG.out]; rfl, HB.out⟩
end Go.Proofs.Ytphhenlokbodnaa
