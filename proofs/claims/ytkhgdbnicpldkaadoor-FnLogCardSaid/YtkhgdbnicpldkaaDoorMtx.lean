/- Walks: the text that marks a value. -/
import Derived.Test.YtkhgdbnicpldkaaDoorNumW
import Derived.Laws.IdiomStrings
namespace Go.Proofs.YtkhgdbnicpldkaaDoor
open Go.RowKit

def mtF (j : Nat) (o : List UInt8) : List UInt8 := if j = 0 then o else digs j ++ o
theorem mtF_step {j : Nat} (h : 0 < j) (o : List UInt8) : mtF (j / 10) (UInt8.ofNat (48 + j % 10) :: o) = mtF j o := by
  unfold mtF
  rw [if_neg (show ¬ j = 0 by omega)]
  by_cases h1 : j < 10
  · rw [if_pos (by omega), digs_small h1, Nat.mod_eq_of_lt h1]; rfl
  · rw [if_neg (by omega), digs_big h1]; simp
theorem mtF_len {j : Nat} {o l : List UInt8} (h : mtF j o = l) : o.length ≤ l.length := by
  unfold mtF at h
  split at h
  · rw [h]; exact Nat.le_refl _
  · rw [← h]; simp
/-- The mark's text. -/
def mtS (k : Nat) : ByteArray := mk (109 :: digs k)
theorem conv_one (w : World) (x : Int) (b : UInt8) (hx : x = (b.toNat : Int)) :
    (convert 53 9 (.slice (some ⟨w.heap.size, 0, none⟩) 1 1)).run Tryd.prog (w.alloc (.cells #[.int .u8 x] 5)) = .ok (.string (mk [b])) (w.alloc (.cells #[.int .u8 x] 5)) :=
  run_convert_bytes_back (w.alloc (.cells #[.int .u8 x] 5)) 53 9 5 ⟨w.heap.size, 0, none⟩ 1 [b] Tryd.underlying53 Tryd.underlying5 Tryd.underlying9 (fun j hj => by
    have h0 : j = 0 := by simpa using hj
    subst h0
    subst hx
    show (w.alloc (.cells #[.int .u8 (b.toNat : Int)] 5)).cell? ⟨w.heap.size, 0, none⟩ = _
    rw [cell_of_row _ _ _ _ _ _ (heap_alloc_new w _)]; rfl)

set_option maxHeartbeats 1600000 in
theorem markText_any (k : Nat) (h1 : 1 ≤ k) (h2 : k ≤ 100000000000) (w : World) :
    Calls Tryd.prog 51 #[.int .i64 k] w fun e w' => e = .returned (.string (mtS k)) ∧ Below w.heap.size w w' := by
  have hd := digs_len 11 k (by omega)
  have HD := Lib.hid hd
  have hkI : ¬ ((k : Int) ≤ 0) := by omega
  have hkd : decide ((k : Int) ≤ 0) = false := by simpa using hkI
  have HS : Hid (mtF k [] = digs k) := by show (if _ then _ else _) = _; rw [if_neg (show ¬ k = 0 by omega)]; simp
  clear hd
  go_enter Tryd.func51, Tryd.ntmps51
  go_wp2
  go_loopw [0, 3] (fun a o wr => ∃ (j : Nat) (l : List UInt8), a = .int .i64 j ∧ o = .string (mk l) ∧ j ≤ k ∧ Hid (mtF j l = digs k) ∧ Hid (Below w.heap.size w wr)) (fun a _ _ => (intOf a).toNat)
  case atStart => exact ⟨k, [], rfl, rfl, Nat.le_refl _, HS, Below.refl _ _⟩
  case round =>
    obtain ⟨j, l, rfl, rfl, hjk, HM, HB⟩ := hrel
    have hll : l.length ≤ 12 := by have := mtF_len HM.out; have := HD.out; omega
    by_cases hj : 0 < j
    · have hjI : (0 : Int) < (j : Int) := by omega
      have hjd : decide ((0 : Int) < (j : Int)) = true := by simpa using hj
      have hN := (mtF_step hj l).trans HM.out
      have hx : ((48 : Int) + (j : Int) % 10) = ((UInt8.ofNat (48 + j % 10)).toNat : Int) := by
        rw [UInt8.toNat_ofNat']; omega
      generalize UInt8.ofNat (48 + j % 10) = b at *
      have HN := Lib.hid hN
      have kc := conv_one wr _ _ hx
      have hxb : 0 ≤ (48 : Int) + (j : Int) % 10 ∧ (48 : Int) + (j : Int) % 10 ≤ 255 := by omega
      have hw : IntKind.u8.wrap (48 + (j : Int) % 10) = 48 + (j : Int) % 10 := by unfold IntKind.wrap; simp [IntKind.bits, IntKind.signed]; omega
      clear hx hN
      have hB2 := Lib.hid (HB.out.alloc HB.out.size (.cells #[.int .u8 (48 + (j : Int) % 10)] 5))
      have hcat : ¬ 9223372036854775807 < 1 + l.length := by omega
      have HJ := Lib.hid (show (j : Int) / 10 = ((j / 10 : Nat) : Int) by omega)
      go_wp2
      go_roundw
      case rel => exact ⟨j / 10, b :: l, by rw [HJ.out], by rw [mk_append]; rfl, by omega, HN, hB2⟩
      case measure => simp only [intOf]; omega
    · obtain rfl : j = 0 := by omega
      have HE := Lib.hid (show mk ([109] ++ l) = mtS k from by unfold mtS; rw [← HM.out]; rfl)
      have hcat : ¬ 9223372036854775807 < 1 + l.length := by omega
      clear HM
      go_wp2
      go_ret
      exact ⟨by rw [← HE.out, ← mk_append]; rfl, HB.out⟩
end Go.Proofs.YtkhgdbnicpldkaaDoor
