/- Walk: a list without one element (the laws' own function). -/
import Derived.Test.YtmkkdenhjfjmgaaGreatBf18
namespace Go.Proofs.YtmkkdenhjfjmgaaGreat
open Go.RowKit Go.Sort
set_option maxRecDepth 100000

theorem slcI_head (b off m c k : Nat) (hk : k ≤ m) (hm : m ≤ c) (hc : c ≤ 9223372036854775807) (w : World) :
    (Instr.sliceAt 29 (.slice (some ⟨b, off, none⟩) m c) none (some (.int .i64 (k : Int))) none).run Tryz.prog w = .ok (.slice (some ⟨b, off, none⟩) k c) w := by
  have h1 : (0 : Int) ≤ (k : Int) := by omega
  have h2 : (k : Int) ≤ (c : Int) := by omega
  have h5 : k ≤ c := by omega
  go_simp
def slcTI (b off c k : Nat) : Option Addr := some (if c = k then ⟨b, off, none⟩ else ⟨b, off + k, none⟩)
theorem slcI_tail (b off m c k : Nat) (hk : k ≤ m) (hm : m ≤ c) (hc : c ≤ 9223372036854775807) (w : World) :
    (Instr.sliceAt 29 (.slice (some ⟨b, off, none⟩) m c) (some (.int .i64 (k : Int))) none none).run Tryz.prog w = .ok (.slice (slcTI b off c k) (m - k) (c - k)) w := by
  have h1 : (0 : Int) ≤ (k : Int) := by omega
  have h2 : (k : Int) ≤ (m : Int) := by omega
  have h5 : k ≤ c := by omega
  have h6 : (m : Int) ≤ (c : Int) := by omega
  unfold slcTI
  by_cases h : c = k
  · rw [if_pos h]
    go_simp
  · rw [if_neg h]
    go_simp
def RwoP (xs : List Int) (k : Nat) (w : World) (e : Ending) (w' : World) : Prop := ∃ v, e = .returned v ∧ Own w' w.heap.size v (xs.eraseIdx k) ∧ Below w.heap.size w w'
set_option maxHeartbeats 6400000 in
theorem rWithout_any (v : Value) (xs : List Int) (k : Nat) (w : World) (h : Rd w v xs) (hk : k < xs.length) (hl : xs.length ≤ 1000) :
    Calls Tryz.prog 51 #[v, .int .i64 (k : Int)] w (RwoP xs k w) := by
  obtain ⟨b, off, c, rfl, hc1, hcm, hb, hcc⟩ := h.resolve_left (fun e => by rw [e.2] at hk; simp at hk)
  unfold maxLen at hcm
  have HCC := Lib.hid hcc
  obtain ⟨NP, hNP⟩ : ∃ NP, NP = RwoP xs k w := ⟨_, rfl⟩
  rw [← hNP]
  have HXT := Lib.hid (show (ints (xs.take k)).length = k * 1 by rw [ints, List.length_map, List.length_take]; omega)
  have HXD := Lib.hid (show (ints (xs.drop (k + 1))).length = (xs.length - (k + 1)) * 1 by rw [ints, List.length_map, List.length_drop]; omega)
  have HHE := Lib.hid (slcI_head b off xs.length c k (by omega) hc1 (by omega))
  have HTA := Lib.hid (slcI_tail b off xs.length c (k + 1) (by omega) hc1 (by omega))
  obtain ⟨dt, hdt⟩ : ∃ dt, dt = slcTI b off c (k + 1) := ⟨_, rfl⟩
  have HND := Lib.hid (show dt = none → xs.length - (k + 1) = 0 ∧ c - (k + 1) = 0 from fun e => by rw [hdt] at e; unfold slcTI at e; cases e)
  have HC1 := Lib.hid (fun (w' : World) (hb' : Below w.heap.size w w') => show ∀ ad, (some ⟨b, off, none⟩ : Option Addr) = some ad → ∀ j u, (ints (xs.take k))[j]? = some u → w'.cell? (ad.add j) = some u from fun ad e j u hu => by
    cases e
    rw [addr_add]
    have hj : j < k := by have := (List.getElem?_eq_some_iff.1 hu).1; rw [HXT.out] at this; omega
    rw [hb'.cell hb, HCC.out j (by omega)]
    simp only [ints, List.getElem?_map, List.getElem?_take, if_pos hj] at hu
    rw [List.getElem?_eq_getElem (show j < xs.length by omega)] at hu ⊢
    exact hu)
  have HC2 := Lib.hid (fun (w' : World) (hb' : Below w.heap.size w w') => show ∀ ad, dt = some ad → ∀ j u, (ints (xs.drop (k + 1)))[j]? = some u → w'.cell? (ad.add j) = some u from fun ad e j u hu => by
    have hj : j < xs.length - (k + 1) := by have := (List.getElem?_eq_some_iff.1 hu).1; rw [HXD.out] at this; omega
    rw [hdt] at e
    unfold slcTI at e
    rw [if_neg (by omega)] at e
    cases e
    rw [addr_add, Nat.add_assoc, hb'.cell hb, HCC.out (k + 1 + j) (by omega)]
    simp only [ints, List.getElem?_map, List.getElem?_drop] at hu
    rw [List.getElem?_eq_getElem (show k + 1 + j < xs.length by omega)] at hu ⊢
    exact hu)
  have HO1 := Lib.hid (show ∀ u ∈ ints (xs.take k), u.oneCell' = true from fun u hu => by obtain ⟨z, -, rfl⟩ := List.mem_map.1 hu; rfl)
  have HO2 := Lib.hid (show ∀ u ∈ ints (xs.drop (k + 1)), u.oneCell' = true from fun u hu => by obtain ⟨z, -, rfl⟩ := List.mem_map.1 hu; rfl)
  have HEI := Lib.hid (show xs.eraseIdx k = xs.take k ++ xs.drop (k + 1) from List.eraseIdx_eq_take_drop_succ xs k)
  rw [← hdt] at HTA
  have hwk : IntKind.i64.wrap ((k : Int) + 1) = ((k + 1 : Nat) : Int) := by rw [IntWalk.i64_in _ (by omega)]; omega
  generalize hts : ints (xs.take k) = ts at *
  generalize hds : ints (xs.drop (k + 1)) = ds at *
  have HTS := Lib.hid hts
  have HDS := Lib.hid hds
  clear hcc h hts hds hdt
  go_enter Tryz.func51, Tryz.ntmps51
  go_upto_region 1 with fail
  refine wp_region_L [0, 1, 2, 3, 4, 5, 6, 7, 8, 9] (S := fun _ => True) (by kernel_rfl) (trivial) (fun hH => ?_)
  refine hlTake 1 (v := ?v1) rfl (by kernel_rfl) (by kernel_rfl) (by kernel_rfl) (by kernel_rfl) (fun _ _ _ h => h) (by rfl) ?hy1 hH ?rest1
  case hy1 => ((intro w hSw); (try dsimp only at hSw); go_simp); try with_reducible rfl
  try simp only [Act.put, List.setIfInBounds_toArray, List.set_cons_zero, List.set_cons_succ]
  refine hlTake 2 (v := ?v2) rfl (by kernel_rfl) (by kernel_rfl) (by kernel_rfl) (by kernel_rfl) (fun _ _ _ h => h) (by rfl) ?hy2 hH ?rest2
  case hy2 => ((intro w hSw); (try dsimp only at hSw); go_simp); try with_reducible rfl
  try simp only [Act.put, List.setIfInBounds_toArray, List.set_cons_zero, List.set_cons_succ]
  refine hlTake 3 (v := .slice (some ⟨b, off, none⟩) k c) rfl (by kernel_rfl) (by kernel_rfl) (by kernel_rfl) (by kernel_rfl) (fun _ _ _ h => h) (by rfl) ?hy3 hH ?rest3
  case hy3 => exact fun w' _ => yields_slc rfl (HHE.out w')
  try simp only [Act.put, List.setIfInBounds_toArray, List.set_cons_zero, List.set_cons_succ]
  refine hlTake 5 (v := ?v4) rfl (by kernel_rfl) (by kernel_rfl) (by kernel_rfl) (by kernel_rfl) (fun _ _ _ h => h) (by rfl) ?hy4 hH ?rest4
  case hy4 => ((intro w hSw); (try dsimp only at hSw); go_simp); try with_reducible rfl
  try simp only [Act.put, List.setIfInBounds_toArray, List.set_cons_zero, List.set_cons_succ]
  refine hlTake 6 (v := ?v5) rfl (by kernel_rfl) (by kernel_rfl) (by kernel_rfl) (by kernel_rfl) (fun _ _ _ h => h) (by rfl) ?hy5 hH ?rest5
  case hy5 => ((intro w hSw); (try dsimp only at hSw); go_simp); try with_reducible rfl
  try simp only [Act.put, List.setIfInBounds_toArray, List.set_cons_zero, List.set_cons_succ]
  refine hlTake 7 (v := ?v6) rfl (by kernel_rfl) (by kernel_rfl) (by kernel_rfl) (by kernel_rfl) (fun _ _ _ h => h) (by rfl) ?hy6 hH ?rest6
  case hy6 => ((intro w hSw); (try dsimp only at hSw); go_simp); try with_reducible rfl
  try simp only [Act.put, List.setIfInBounds_toArray, List.set_cons_zero, List.set_cons_succ]
  refine hlTake 8 (v := .slice dt (xs.length - (k + 1)) (c - (k + 1))) rfl (by kernel_rfl) (by kernel_rfl) (by kernel_rfl) (by kernel_rfl) (fun _ _ _ h => h) (by rfl) ?hy7 hH ?rest7
  case hy7 => exact fun w' _ => yields_slc rfl (HTA.out w')
  try simp only [Act.put, List.setIfInBounds_toArray, List.set_cons_zero, List.set_cons_succ]
  refine hlReady (rs := [0]) (by kernel_rfl) (by simp) ?_
  refine AllReadyL.cons rfl (fun KK hKK => ?_) AllReadyL.nil
  -- order 0
  go_simp
  have B1 := bel1 (w := w) (X := .cells #[] 3)
  refine hKK.out _ _ (trivial) (fun hH => ?_)
  clear hKK KK
  try simp only [Act.put, List.setIfInBounds_toArray, List.set_cons_zero, List.set_cons_succ]
  refine hlReady (rs := [4]) (by kernel_rfl) (by simp) ?_
  refine AllReadyL.cons rfl (fun KK hKK => ?_) AllReadyL.nil
  -- order 0 4
  refine step_of_list rfl ?_
  refine wpList_catG rfl (.tmp 5) (.tmp 8) 29 3 rfl Tryz.underlying29 (.int .i64 0) 1 8 Tryz.infoInt rfl (by decide) w.heap.size (.slice (some ⟨w.heap.size, 0, none⟩) 0 0) 0 [] (by rfl) row_made1 (some ⟨b, off, none⟩) k c ts (by rfl) HXT.out (fun e => by cases e) (HC1.out _ B1) HO1.out (by unfold maxLen; omega) (by omega) B1.size ?_
  intro v2 w2 o2 g2 l2
  have B2 : Below w.heap.size w w2 := Below.grown B1 g2 B1.size (fun q hq => by have hq2 : w.heap.size = q := Option.some.inj hq; omega)
  unfold wpList
  refine ⟨rfl, ?_⟩
  refine hKK.out _ _ (trivial) (fun hH => ?_)
  clear hKK KK
  try simp only [Act.put, List.setIfInBounds_toArray, List.set_cons_zero, List.set_cons_succ]
  refine hlStep 9 rfl (by kernel_rfl) (by kernel_rfl) (fun KK hKK => ?_)
  refine step_of_list rfl ?_
  refine wpList_catG rfl (.tmp 9) (.tmp 13) 29 3 rfl Tryz.underlying29 (.int .i64 0) 1 8 Tryz.infoInt rfl (by decide) w.heap.size v2 (0 + k) ([] ++ ts) (by rfl) o2 dt (xs.length - (k + 1)) (c - (k + 1)) ds (by rfl) HXD.out HND.out (HC2.out _ B2) HO2.out (by unfold maxLen; omega) (by omega) B2.size ?_
  intro v3 w3 o3 g3 l3
  have B3 : Below w.heap.size w w3 := Below.grown B2 g3 B2.size (fun q hq => (o2.lt q hq).1)
  unfold wpList
  refine ⟨rfl, ?_⟩
  refine hKK.out _ _ ?_
  clear hKK KK
  try simp only [Act.put, List.setIfInBounds_toArray, List.set_cons_zero, List.set_cons_succ]
  refine hlStep 10 rfl (by kernel_rfl) (by kernel_rfl) (fun KK hKK => ?_)
  go_simp
  refine hKK.out _ _ ?_
  clear hKK KK
  try simp only [Act.put, List.setIfInBounds_toArray, List.set_cons_zero, List.set_cons_succ]
  refine hlDone (by kernel_rfl) ?_ _
  rotate_left 1
  have HO := Lib.hid (show Own w3 w.heap.size v3 (xs.eraseIdx k) from by
    have e : ints (xs.eraseIdx k) = [] ++ ts ++ ds := by rw [HEI.out, ← HTS.out, ← HDS.out]; simp [ints]
    have hn : 0 + k + (xs.length - (k + 1)) = (xs.eraseIdx k).length := by rw [List.length_eraseIdx_of_lt hk]; omega
    rw [← e, hn] at o3
    exact own_of_row o3)
  have HB := Lib.hid B3
  clear o3 g3 l3 B3 o2 g2 l2 B2 B1
  go_wp2_with fail
  subst hNP
  exact ⟨_, rfl, HO.out, HB.out⟩
end Go.Proofs.YtmkkdenhjfjmgaaGreat
