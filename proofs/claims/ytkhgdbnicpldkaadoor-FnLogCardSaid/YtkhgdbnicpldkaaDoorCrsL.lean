/- CrashLog: walks and law. -/
import Derived.Test.YtkhgdbnicpldkaaDoorVldL
import Derived.Laws.IdiomStrings
namespace Go.Proofs.YtkhgdbnicpldkaaDoor
open Go.RowKit

/-- '[]byte(s)'. -/
def cC (w : World) (s : ByteArray) : Nat := grownCap w s.size 0 5
def cW (w : World) (s : ByteArray) : World := w.drew.alloc (.cells (bytesRow s (cC w s)) 5 ((bytesRow s (cC w s)).size, (bytesRow s (cC w s)).size + 1))
theorem conv_b (w : World) (s : ByteArray) : (convert 9 53 (.string s)).run Tryd.prog w = .ok (.slice (some ⟨w.heap.size, 0, none⟩) s.size (cC w s)) (cW w s) :=
  run_bytes_of_string w 9 53 5 s Tryd.underlying9 Tryd.underlying53 Tryd.underlying5
theorem conv_s (w : World) (b cap : Nat) (l : L) (h : ∀ j (hj : j < l.length), w.cell? ⟨b, j, none⟩ = some (.int .u8 (l[j].toNat : Int))) :
    (convert 53 9 (.slice (some ⟨b, 0, none⟩) l.length cap)).run Tryd.prog w = .ok (.string (mk l)) w :=
  run_convert_bytes_back w 53 9 5 ⟨b, 0, none⟩ cap l Tryd.underlying53 Tryd.underlying5 Tryd.underlying9 (fun j hj => by
    rw [show (⟨b, 0, none⟩ : Addr).add j = ⟨b, j, none⟩ from by unfold Addr.add; split <;> simp_all]; exact h j hj)
theorem cW_below (w : World) (s : ByteArray) : Below w.heap.size w (cW w s) := (Below.refl _ _).drew.alloc (Nat.le_refl _) _
theorem cW_size (w : World) (s : ByteArray) : (cW w s).heap.size = w.heap.size + 1 := by simp [cW]
theorem cW_old (w : World) (s : ByteArray) (a : Addr) (h : a.block < w.heap.size) : (cW w s).cell? a = w.cell? a := (cW_below w s).cell h
theorem cW_at (w : World) (s : ByteArray) : (cW w s).heap[w.heap.size]? = some (.cells (bytesRow s (cC w s)) 5 ((bytesRow s (cC w s)).size, (bytesRow s (cC w s)).size + 1)) := by
  show (w.heap.push _)[w.heap.size]? = _
  simp
theorem cW_cell (w : World) (s : ByteArray) (j : Nat) (hj : j < s.data.toList.length) : (cW w s).cell? ⟨w.heap.size, j, none⟩ = some (.int .u8 (s.data.toList[j].toNat : Int)) := by
  unfold cW
  rw [show w.heap.size = w.drew.heap.size from rfl, World.cell?_alloc_mark w.drew]
  have hj' : j < s.data.size := by simpa using hj
  unfold bytesRow
  rw [Array.getElem?_append_left (by simpa using hj')]
  simp only [Array.getElem?_map, Array.getElem?_eq_getElem hj', Option.map_some]
  simp
theorem cW_frozen (w : World) (s : ByteArray) (j : Nat) (hj : j < s.data.toList.length) : (cW w s).frozen? ⟨w.heap.size, j, none⟩ = false := by
  have h := cW_at w s
  unfold World.frozen?
  rw [h]
  have : s.data.size ≤ (bytesRow s (cC w s)).size := by simp [bytesRow]
  have h2 : s.data.size = s.size := rfl
  simp at hj ⊢
  omega

/-- What a crash leaves of the pending part. -/
def crL (l : L) (k : Nat) (t : Bool) : L := if t = true ∧ 0 < k then (l.take k).set (k - 1) (255 - (l.take k)[k - 1]?.getD 0) else l.take k
def crOk (d p : ByteArray) (n a : Int) : Bool := vlB d p n && inB a 0 p.size
def crS (d p : ByteArray) (n a : Int) (t : Bool) : ByteArray := if crOk d p n a then d ++ mk (crL p.data.toList a.toNat t) else ⟨#[]⟩
def CrPost (w : World) (d p : ByteArray) (n a : Int) (t : Bool) (e : Ending) (w' : World) : Prop := e = .returned (.tuple #[.string (crS d p n a t), .bool (crOk d p n a)]) ∧ Below w.heap.size w w'
theorem CrPost.f {w : World} {d p : ByteArray} {n a : Int} {t : Bool} (h : vlB d p n = false) {e : Ending} {w' : World} (he : e = .returned (.tuple #[.string ⟨#[]⟩, .bool false])) (hb : Below w.heap.size w w') : CrPost w d p n a t e w' := by
  have : crOk d p n a = false := by simp [crOk, h]
  refine ⟨?_, hb⟩
  unfold crS
  rw [this, if_neg (by simp)]
  exact he
theorem CrPost.g {w : World} {d p : ByteArray} {n a : Int} {t : Bool} (h : inB a 0 p.size = false) {e : Ending} {w' : World} (he : e = .returned (.tuple #[.string ⟨#[]⟩, .bool false])) (hb : Below w.heap.size w w') : CrPost w d p n a t e w' := by
  have : crOk d p n a = false := by simp [crOk, h]
  refine ⟨?_, hb⟩
  unfold crS
  rw [this, if_neg (by simp)]
  exact he
theorem CrPost.t {w : World} {d p : ByteArray} {n : Int} {k : Nat} {t : Bool} (h : vlB d p n = true) (h2 : inB k 0 p.size = true) {e : Ending} {w' : World} (he : e = .returned (.tuple #[.string (d ++ mk (crL p.data.toList k t)), .bool true])) (hb : Below w.heap.size w w') : CrPost w d p n k t e w' := by
  have : crOk d p n k = true := by simp [crOk, h, h2]
  refine ⟨?_, hb⟩
  unfold crS
  rw [this, if_pos rfl, Int.toNat_natCast]
  exact he
theorem sub255 (b : UInt8) : ((255 - b : UInt8).toNat : Int) = 255 - (b.toNat : Int) := by
  have h1 : (255 - b : UInt8).toNat = 255 - b.toNat := by
    have := UInt8.toNat_sub_of_le 255 b (by rw [UInt8.le_iff_toNat_le]; have := b.toNat_lt; show b.toNat ≤ 255; omega)
    simpa using this
  have := b.toNat_lt
  rw [h1]; omega

set_option maxHeartbeats 3200000 in
set_option maxRecDepth 100000 in
theorem specCr_any (d p : ByteArray) (n a : Int) (t : Bool) (hs : d.size + p.size ≤ 1048576) (w : World) :
    Calls Tryd.prog 24 #[.agg #[.string d, .string p, .int .i64 n], .int .i64 a, .bool t] w (CrPost w d p n a t) := by
  have hb0 : Below w.heap.size w (w.alloc (.cells #[.string d, .string p, .int .i64 n] 31)) := (Below.refl _ _).alloc (Nat.le_refl _) _
  have hs0 : (w.alloc (.cells #[.string d, .string p, .int .i64 n] 31)).heap.size = w.heap.size + 1 := by simp
  have HL := (fun w => l27Log_any d p n hs w)
  unfold VlPost at HL
  generalize hv : vlB d p n = v at HL
  have HV := Lib.hid hv
  have HL := Lib.hid HL
  have HPS := Lib.hid (size_data p)
  clear hv
  go_enter Tryd.func24, Tryd.ntmps24
  go_wp2_with fail
  refine (HL.out _).mono ?_
  rintro e w1 ⟨rfl, b1⟩
  obtain ⟨q1, q2, q3, _⟩ := cell3 b1
  have hB1 := Lib.hid (hb0.trans (b1.mono (by omega)))
  have hz1 : w.heap.size + 1 ≤ w1.heap.size := by have := b1.size; omega
  clear b1 hb0
  cases v
  · go_wp2
    go_ret2
    exact CrPost.f HV.out rfl hB1.out
  cases hin : inB a 0 (p.size : Int)
  · have HIN := Lib.hid (show ∀ w, Calls Tryd.prog 42 #[.int .i64 a, .int .i64 0, .int .i64 p.size] w fun e w' => e = .returned (.bool false) ∧ w = w' from fun w => by have := l1In_any a 0 p.size w; rw [hin] at this; exact this)
    have HI := Lib.hid hin
    clear hin
    go_wp2_with fail
    refine (HIN.out _).mono ?_
    rintro e w2 ⟨rfl, rfl⟩
    go_wp2
    go_ret2
    exact CrPost.g HI.out rfl hB1.out
  have HIN := Lib.hid (show ∀ w, Calls Tryd.prog 42 #[.int .i64 a, .int .i64 0, .int .i64 p.size] w fun e w' => e = .returned (.bool true) ∧ w = w' from fun w => by have := l1In_any a 0 p.size w; rw [hin] at this; exact this)
  have HI := Lib.hid hin
  obtain ⟨hlo, hhi⟩ := inB_true hin
  obtain ⟨k, rfl⟩ : ∃ k : Nat, a = k := ⟨a.toNat, by omega⟩
  clear hin
  go_wp2_with fail
  refine (HIN.out _).mono ?_
  rintro e w2 ⟨rfl, rfl⟩
  have hkp : k ≤ p.size := by omega
  have hel : (p.data.toList.take k).length = k := by rw [List.length_take, ← HPS.out]; omega
  have hext := ext_take p k
  have hexs : (p.extract 0 k).size = k := by rw [hext, mk_size, hel]
  have kc := conv_b w1 (mk (p.data.toList.take k))
  rw [mk_size, hel] at kc
  obtain ⟨cp, hcp⟩ : ∃ c, cC w1 (mk (p.data.toList.take k)) = c := ⟨_, rfl⟩
  rw [hcp] at kc
  have c1 := cW_old w1 (mk (p.data.toList.take k)) 
  have r1 := (c1 ⟨w.heap.size, 0, none⟩ (by show w.heap.size < w1.heap.size; omega)).trans q1
  have r2 := (c1 ⟨w.heap.size, 1, none⟩ (by show w.heap.size < w1.heap.size; omega)).trans q2
  have hfz := cW_frozen w1 (mk (p.data.toList.take k))
  have hcl := cW_cell w1 (mk (p.data.toList.take k))
  rw [data_mk] at hcl
  have hcb := Lib.hid (hB1.out.trans ((cW_below w1 (mk (p.data.toList.take k))).mono (by omega)))
  have hcat : ∀ l : L, l.length ≤ 1048576 → ¬ 9223372036854775807 < d.size + (mk l).size := fun l hl => by have := mk_size l; omega
  have HCB := Lib.hid (fun (l : L) (w' : World) (h : ∀ j (hj : j < l.length), w'.cell? ⟨w1.heap.size, j, none⟩ = some (.int .u8 (l[j].toNat : Int))) => conv_s w' w1.heap.size cp l h)
  generalize hcw : cW w1 (mk (p.data.toList.take k)) = wc at *
  have HCR := Lib.hid (fun e w' => CrPost.t (w := w) (d := d) (p := p) (n := n) (k := k) (t := t) (e := e) (w' := w') HV.out HI.out)
  clear c1 hcp hcw
  obtain ⟨ls, hls⟩ : ∃ l, p.data.toList.take k = l := ⟨_, rfl⟩
  rw [hls] at hel kc hext hcl
  have hk1 : ¬ 9223372036854775807 < d.size + k := by omega
  have hk2 : ¬ 9223372036854775807 < d.size + ls.length := by omega
  have HEL := Lib.hid hel
  have hcl := Lib.hid hcl
  have hfz := Lib.hid hfz
  have HPT := Lib.hid hls
  clear hls
  cases t
  · have ks := conv_s wc w1.heap.size cp ls (fun j hj => hcl.out j hj)
    have HE : Hid (crL p.data.toList k false = ls) := by show (if _ then _ else _) = ls; rw [if_neg (by simp)]; exact HPT.out
    rw [hel] at ks
    clear hel
    go_wp2
    go_ret2
    exact HCR.out _ _ (by rw [HE.out]; rfl) hcb.out
  · cases k with
    | zero =>
      have ks := conv_s wc w1.heap.size cp ls (fun j hj => hcl.out j hj)
      have HE : Hid (crL p.data.toList 0 true = ls) := by show (if _ then _ else _) = ls; rw [if_neg (by simp)]; exact HPT.out
      rw [hel] at ks
      have hl0 : ls = [] := List.length_eq_zero_iff.1 hel
      have kc : (convert 9 53 (.string ByteArray.empty)).run Tryd.prog w1 = .ok (.slice (some ⟨w1.heap.size, 0, none⟩) 0 cp) wc := by rw [hl0] at kc; exact kc
      clear hel hl0
      go_wp2
      go_ret2
      exact HCR.out _ _ (by rw [HE.out]; rfl) hcb.out
    | succ m =>
      have hm : m < ls.length := by omega
      have h1 := hcl.out m hm
      have h2 := hfz.out m (by rw [data_mk]; exact HPT.out ▸ hm)
      have HX := Lib.hid (sub255 ls[m])
      have hx255 := ls[m].toNat_lt
      obtain ⟨x, hx⟩ : ∃ x : Int, (ls[m].toNat : Int) = x := ⟨_, rfl⟩
      rw [hx] at h1 HX
      have hxb : 0 ≤ x ∧ x ≤ 255 := by omega
      have hw : IntKind.u8.wrap (255 - x) = 255 - x := by unfold IntKind.wrap; simp [IntKind.bits, IntKind.signed]; omega
      have ks := conv_s (wc.setCell ⟨w1.heap.size, m, none⟩ (.int .u8 (255 - x))) w1.heap.size cp (ls.set m (255 - ls[m])) (fun j hj => by
        rw [List.length_set] at hj
        by_cases e : m = j
        · subst e
          rw [List.getElem_set_self, HX.out]
          exact World.cell?_setCell_same _ _ _ h1
        · rw [List.getElem_set_ne e, World.cell?_setCell_other _ _ _ _ (by simp)]
          exact hcl.out j hj)
      rw [List.length_set, hel] at ks
      have HE : Hid (crL p.data.toList (m + 1) true = ls.set m (255 - ls[m])) := by
        show (if _ then _ else _) = _
        rw [if_pos (by simp), HPT.out]
        simp [hm]
      have hcb2 := Lib.hid (hcb.out.setCell (p := ⟨w1.heap.size, m, none⟩) (by show w.heap.size ≤ w1.heap.size; omega) (.int .u8 (255 - x)))
      have hsl : (mk (ls.set m (255 - ls[m]))).size = m + 1 := by rw [mk_size, List.length_set, hel]
      have hk3 : ¬ 9223372036854775807 < d.size + (ls.set m (255 - ls[m])).length := by rw [List.length_set]; omega
      generalize ls.set m (255 - ls[m]) = l2 at *
      clear HX hel hx hx255 hm
      go_wp2
      go_ret2
      exact HCR.out _ _ (by rw [HE.out]; rfl) hcb2.out

set_option maxHeartbeats 3200000 in
set_option maxRecDepth 100000 in
theorem implCr_any (d p : ByteArray) (n a : Int) (t : Bool) (hs : d.size + p.size ≤ 1048576) (w : World) (ht : TabOk w) (hmx : MaxOk w) :
    Calls Tryd.prog 25 #[.agg #[.string d, .string p, .int .i64 n], .int .i64 a, .bool t] w (CrPost w d p n a t) := by
  have hb0 : Below w.heap.size w (w.alloc (.cells #[.string d, .string p, .int .i64 n] 31)) := (Below.refl _ _).alloc (Nat.le_refl _) _
  have hs0 : (w.alloc (.cells #[.string d, .string p, .int .i64 n] 31)).heap.size = w.heap.size + 1 := by simp
  have HL := (fun w ht hm => implVl_any d p n hs w ht hm)
  unfold VlPost at HL
  generalize hv : vlB d p n = v at HL
  have HV := Lib.hid hv
  have HL := Lib.hid HL
  have HPS := Lib.hid (size_data p)
  clear hv
  go_enter Tryd.func25, Tryd.ntmps25
  go_wp2_with fail
  refine (HL.out _ (ht.below hb0) (hmx.below hb0)).mono ?_
  rintro e w1 ⟨rfl, b1⟩
  obtain ⟨q1, q2, q3, _⟩ := cell3 b1
  have hB1 := Lib.hid (hb0.trans (b1.mono (by omega)))
  have hz1 : w.heap.size + 1 ≤ w1.heap.size := by have := b1.size; omega
  clear b1 hb0
  cases v
  · go_wp2
    go_ret2
    exact CrPost.f HV.out rfl hB1.out
  cases hin : inB a 0 (p.size : Int)
  · have HIN := Lib.hid (show ∀ w, Calls Tryd.prog 45 #[.int .i64 a, .int .i64 0, .int .i64 p.size] w fun e w' => e = .returned (.bool false) ∧ w = w' from fun w => by have := inside_any a 0 p.size w; rw [hin] at this; exact this)
    have HI := Lib.hid hin
    clear hin
    go_wp2_with fail
    refine (HIN.out _).mono ?_
    rintro e w2 ⟨rfl, rfl⟩
    go_wp2
    go_ret2
    exact CrPost.g HI.out rfl hB1.out
  have HIN := Lib.hid (show ∀ w, Calls Tryd.prog 45 #[.int .i64 a, .int .i64 0, .int .i64 p.size] w fun e w' => e = .returned (.bool true) ∧ w = w' from fun w => by have := inside_any a 0 p.size w; rw [hin] at this; exact this)
  have HI := Lib.hid hin
  obtain ⟨hlo, hhi⟩ := inB_true hin
  obtain ⟨k, rfl⟩ : ∃ k : Nat, a = k := ⟨a.toNat, by omega⟩
  clear hin
  go_wp2_with fail
  refine (HIN.out _).mono ?_
  rintro e w2 ⟨rfl, rfl⟩
  have hkp : k ≤ p.size := by omega
  have hel : (p.data.toList.take k).length = k := by rw [List.length_take, ← HPS.out]; omega
  have hext := ext_take p k
  have hexs : (p.extract 0 k).size = k := by rw [hext, mk_size, hel]
  have kc := conv_b w1 (mk (p.data.toList.take k))
  rw [mk_size, hel] at kc
  obtain ⟨cp, hcp⟩ : ∃ c, cC w1 (mk (p.data.toList.take k)) = c := ⟨_, rfl⟩
  rw [hcp] at kc
  have c1 := cW_old w1 (mk (p.data.toList.take k)) 
  have r1 := (c1 ⟨w.heap.size, 0, none⟩ (by show w.heap.size < w1.heap.size; omega)).trans q1
  have r2 := (c1 ⟨w.heap.size, 1, none⟩ (by show w.heap.size < w1.heap.size; omega)).trans q2
  have hfz := cW_frozen w1 (mk (p.data.toList.take k))
  have hcl := cW_cell w1 (mk (p.data.toList.take k))
  rw [data_mk] at hcl
  have hcb := Lib.hid (hB1.out.trans ((cW_below w1 (mk (p.data.toList.take k))).mono (by omega)))
  have hcat : ∀ l : L, l.length ≤ 1048576 → ¬ 9223372036854775807 < d.size + (mk l).size := fun l hl => by have := mk_size l; omega
  have HCB := Lib.hid (fun (l : L) (w' : World) (h : ∀ j (hj : j < l.length), w'.cell? ⟨w1.heap.size, j, none⟩ = some (.int .u8 (l[j].toNat : Int))) => conv_s w' w1.heap.size cp l h)
  generalize hcw : cW w1 (mk (p.data.toList.take k)) = wc at *
  have HCR := Lib.hid (fun e w' => CrPost.t (w := w) (d := d) (p := p) (n := n) (k := k) (t := t) (e := e) (w' := w') HV.out HI.out)
  clear c1 hcp hcw
  obtain ⟨ls, hls⟩ : ∃ l, p.data.toList.take k = l := ⟨_, rfl⟩
  rw [hls] at hel kc hext hcl
  have hk1 : ¬ 9223372036854775807 < d.size + k := by omega
  have hk2 : ¬ 9223372036854775807 < d.size + ls.length := by omega
  have HEL := Lib.hid hel
  have hcl := Lib.hid hcl
  have hfz := Lib.hid hfz
  have HPT := Lib.hid hls
  clear hls
  cases t
  · have ks := conv_s wc w1.heap.size cp ls (fun j hj => hcl.out j hj)
    have HE : Hid (crL p.data.toList k false = ls) := by show (if _ then _ else _) = ls; rw [if_neg (by simp)]; exact HPT.out
    rw [hel] at ks
    clear hel
    go_wp2
    go_ret2
    exact HCR.out _ _ (by rw [HE.out]; rfl) hcb.out
  · cases k with
    | zero =>
      have ks := conv_s wc w1.heap.size cp ls (fun j hj => hcl.out j hj)
      have HE : Hid (crL p.data.toList 0 true = ls) := by show (if _ then _ else _) = ls; rw [if_neg (by simp)]; exact HPT.out
      rw [hel] at ks
      have hl0 : ls = [] := List.length_eq_zero_iff.1 hel
      have kc : (convert 9 53 (.string ByteArray.empty)).run Tryd.prog w1 = .ok (.slice (some ⟨w1.heap.size, 0, none⟩) 0 cp) wc := by rw [hl0] at kc; exact kc
      clear hel hl0
      go_wp2
      go_ret2
      exact HCR.out _ _ (by rw [HE.out]; rfl) hcb.out
    | succ m =>
      have hm : m < ls.length := by omega
      have h1 := hcl.out m hm
      have h2 := hfz.out m (by rw [data_mk]; exact HPT.out ▸ hm)
      have HX := Lib.hid (sub255 ls[m])
      have hx255 := ls[m].toNat_lt
      obtain ⟨x, hx⟩ : ∃ x : Int, (ls[m].toNat : Int) = x := ⟨_, rfl⟩
      rw [hx] at h1 HX
      have hxb : 0 ≤ x ∧ x ≤ 255 := by omega
      have hw : IntKind.u8.wrap (255 - x) = 255 - x := by unfold IntKind.wrap; simp [IntKind.bits, IntKind.signed]; omega
      have ks := conv_s (wc.setCell ⟨w1.heap.size, m, none⟩ (.int .u8 (255 - x))) w1.heap.size cp (ls.set m (255 - ls[m])) (fun j hj => by
        rw [List.length_set] at hj
        by_cases e : m = j
        · subst e
          rw [List.getElem_set_self, HX.out]
          exact World.cell?_setCell_same _ _ _ h1
        · rw [List.getElem_set_ne e, World.cell?_setCell_other _ _ _ _ (by simp)]
          exact hcl.out j hj)
      rw [List.length_set, hel] at ks
      have HE : Hid (crL p.data.toList (m + 1) true = ls.set m (255 - ls[m])) := by
        show (if _ then _ else _) = _
        rw [if_pos (by simp), HPT.out]
        simp [hm]
      have hcb2 := Lib.hid (hcb.out.setCell (p := ⟨w1.heap.size, m, none⟩) (by show w.heap.size ≤ w1.heap.size; omega) (.int .u8 (255 - x)))
      have hsl : (mk (ls.set m (255 - ls[m]))).size = m + 1 := by rw [mk_size, List.length_set, hel]
      have hk3 : ¬ 9223372036854775807 < d.size + (ls.set m (255 - ls[m])).length := by rw [List.length_set]; omega
      generalize ls.set m (255 - ls[m]) = l2 at *
      clear HX hel hx hx255 hm
      go_wp2
      go_ret2
      exact HCR.out _ _ (by rw [HE.out]; rfl) hcb2.out

set_option maxHeartbeats 3200000 in
set_option maxRecDepth 100000 in
theorem FnExactCrashLog_walk (d p : ByteArray) (n a : Int) (t : Bool) (w : World) (hd : d.size ≤ maxLen) (hp : p.size ≤ maxLen) (_hn : (Lit.int .i64 n).wf = true) (_ha : (Lit.int .i64 a).wf = true) (ht : TabOk w) (hmx : MaxOk w) :
    Calls Tryd.prog 6 #[.agg #[.string d, .string p, .int .i64 n], .int .i64 a, .bool t] w fun e w' => e = .returned (.bool true) ∧ Below w.heap.size w w' := by
  have hb0 : Below w.heap.size w (w.alloc (.cells #[.string d, .string p, .int .i64 n] 36)) := (Below.refl _ _).alloc (Nat.le_refl _) _
  have q : ∀ w' : World, Below (w.heap.size + 1) (w.alloc (.cells #[.string d, .string p, .int .i64 n] 36)) w' → w'.cell? ⟨w.heap.size, 0, none⟩ = some (.string d) ∧ w'.cell? ⟨w.heap.size, 1, none⟩ = some (.string p) ∧ w'.cell? ⟨w.heap.size, 2, none⟩ = some (.int .i64 n) := fun w' h => by
    obtain ⟨h1, h2, h3, _⟩ := cell3 (w1 := w') (by simpa using h)
    exact ⟨h1, h2, h3⟩
  have HQ := Lib.hid q
  have HTW := Lib.hid (fun w' (hb : Below w.heap.size w w') => ht.below hb)
  have HMW := Lib.hid (fun w' (hb : Below w.heap.size w w') => hmx.below hb)
  have HSZ := Lib.hid (fun w => szLog_any d p n 1048576 hd hp (by omega) (by omega) w)
  have HTO := Lib.hid (fun w => toLog_any d p n w)
  have hs0 : (w.alloc (.cells #[.string d, .string p, .int .i64 n] 36)).heap.size = w.heap.size + 1 := by simp
  clear q ht hmx
  go_enter Tryd.func6, Tryd.ntmps6
  go_wp2_with fail
  refine (HSZ.out _).mono ?_
  rintro e w1 ⟨r, rfl, b1, hr, hr2⟩
  rw [hs0] at b1
  obtain ⟨q1, q2, q3⟩ := HQ.out _ b1
  have hB1 := hb0.trans (b1.mono (by simp))
  have hz1 := b1.size
  rw [hs0] at hz1
  by_cases hneg : r < 0
  · go_wp2
    go_ret
    exact ⟨rfl, hB1⟩
  have hsz := hr (by omega)
  have HS := fun w => specCr_any d p n a t (by omega) w
  have HI := fun w ht hm => implCr_any d p n a t (by omega) w ht hm
  unfold CrPost at HS HI
  have HS := Lib.hid HS
  have HI := Lib.hid HI
  generalize crOk d p n a = v at *
  generalize crS d p n a t = s at *
  have e1 : (v != v) = false := by simp
  have e2 : (s.toList == s.toList) = true := by simp
  have e3 : (s.toList != s.toList) = false := by simp
  clear hr
  go_wp2_with fail
  refine (HTO.out _).mono ?_
  rintro e w2 ⟨rfl, b2⟩
  have c2 := b1.trans (b2.mono hz1)
  have hz2 := c2.size
  rw [hs0] at hz2
  have hB2 := hb0.trans (c2.mono (by simp))
  obtain ⟨q1, q2, q3⟩ := HQ.out _ c2
  go_wp2_with fail
  refine (HS.out _).mono ?_
  rintro e w3 ⟨rfl, b3⟩
  have c3 := c2.trans (b3.mono hz2)
  have hz3 := c3.size
  rw [hs0] at hz3
  have hB3 := hb0.trans (c3.mono (by simp))
  obtain ⟨q1, q2, q3⟩ := HQ.out _ c3
  go_wp2_with fail
  refine (HTO.out _).mono ?_
  rintro e w4 ⟨rfl, b4⟩
  have c4 := c3.trans (b4.mono hz3)
  have hz4 := c4.size
  rw [hs0] at hz4
  have hB4 := hb0.trans (c4.mono (by simp))
  obtain ⟨q1, q2, q3⟩ := HQ.out _ c4
  go_wp2_with fail
  refine (HI.out _ (HTW.out _ hB4) (HMW.out _ hB4)).mono ?_
  rintro e w5 ⟨rfl, b5⟩
  have c5 := c4.trans (b5.mono hz4)
  have hB5 := hb0.trans (c5.mono (by simp))
  go_wp2
  go_ret
  exact ⟨rfl, hB5⟩
end Go.Proofs.YtkhgdbnicpldkaaDoor
