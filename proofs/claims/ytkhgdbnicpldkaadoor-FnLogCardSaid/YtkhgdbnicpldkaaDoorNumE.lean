/- Walks: the program's line of a record; EncodeRecord. -/
import Derived.Test.YtkhgdbnicpldkaaDoorNumW
namespace Go.Proofs.YtkhgdbnicpldkaaDoor
open Go.RowKit

set_option maxHeartbeats 1600000 in
set_option maxRecDepth 100000 in
theorem encodeRec_any (k : Nat) (hk : k ≤ 99) (c r : ByteArray) (hok : recOk c r = true) (w : World) (ht : TabOk w) :
    Calls Tryd.prog 46 #[.int .i64 k, .agg #[.string c, .string r]] w fun e w' => e = .returned (.string (mk (lineL k c.data.toList r.data.toList))) ∧ Below w.heap.size w w' := by
  have hB := (Below.refl w.heap.size w).alloc (Nat.le_refl _) (.cells #[.string c, .string r] 27)
  obtain ⟨_, hc, hr, _⟩ := recOk_parts hok
  have hd := digs_len 1 k (by omega)
  have hbl := bodyL_len k c.data.toList r.data.toList
  rw [← size_data, ← size_data] at hbl
  have hsl := sealL_len (bodyL k c.data.toList r.data.toList)
  have HT := Lib.hid ht
  have HL : Hid (∀ w', Below w.heap.size w w' → Calls Tryd.prog 65 #[.string (mk (digs k) ++ ⟨#[32]⟩ ++ c ++ ⟨#[64]⟩ ++ r)] w' fun e w'' => e = .returned (.tuple #[.string (mk (sealL (bodyL k c.data.toList r.data.toList))), .bool true]) ∧ Below w'.heap.size w' w'') := fun w' hb => by
    have := appCheck_any (mk (bodyL k c.data.toList r.data.toList)) w' (by rw [mk_size]; omega) (by rw [data_mk]; exact body_hash hok) (HT.out.below hb)
    rw [show (mk (digs k) ++ ⟨#[32]⟩ ++ c ++ ⟨#[64]⟩ ++ r : ByteArray) = mk (bodyL k c.data.toList r.data.toList) from line_str k c r]
    rw [data_mk] at this
    exact this
  have HI : Hid (∀ w, Calls Tryd.prog 66 #[.int .i64 k] w fun e w' => e = .returned (.string (mk (digs k))) ∧ w' = w) := fun w => Tryd.strconv_Itoa_small k (by omega) w
  have HS := Lib.hid (show mk (sealL (bodyL k c.data.toList r.data.toList)) ++ mk [10] = mk (lineL k c.data.toList r.data.toList) from by rw [mk_append]; rfl)
  have z5 : ¬ 9223372036854775807 < (sealL (bodyL k c.data.toList r.data.toList)).length + 1 := by omega
  generalize sealL (bodyL k c.data.toList r.data.toList) = sl at *
  generalize lineL k c.data.toList r.data.toList = ll at *
  clear hbl hsl hok ht
  generalize digs k = ds at *
  have z1 : ¬ 9223372036854775807 < ds.length + 1 := by omega
  have z2 : ¬ 9223372036854775807 < ds.length + 1 + c.size := by omega
  have z3 : ¬ 9223372036854775807 < ds.length + 1 + c.size + 1 := by omega
  have z4 : ¬ 9223372036854775807 < ds.length + 1 + c.size + 1 + r.size := by omega
  have hsz : w.heap.size ≤ (w.alloc (.cells #[.string c, .string r] 27)).drew.heap.size := by simp
  go_enter Tryd.func46, Tryd.ntmps46
  go_wp2
  go_region_with (first | (go_at_call 66; refine (HI.out _).mono ?_; rintro e w' ⟨rfl, rfl⟩) | (go_at_call 65; refine (HL.out _ hB.drew).mono ?_; rintro e w1 ⟨rfl, b1⟩))
  all_goals (go_wp2; go_ret; exact ⟨by rw [← HS.out]; rfl, hB.drew.trans (b1.mono hsz)⟩)
end Go.Proofs.YtkhgdbnicpldkaaDoor
