/- Laws: append of made zeros to a slice of the call's own. -/
import Derived.Test.YtlemielobmbadaaInt
import Derived.Lib.AppendZeros
namespace Go.Proofs.Ytlemielobmbadaa
open Go.RowKit

theorem zc_size (m : Nat) : (Builtin.zeroCells #[.int .i64 0] m).size = m := by rw [size_zeroCells]; simp
theorem zc_list (m : Nat) : (Builtin.zeroCells #[.int .i64 0] m).toList = ints (List.replicate m 0) := by
  apply List.ext_getElem?
  intro j
  simp only [Builtin.zeroCells, Array.toList_map, ints]
  by_cases hj : j < m
  · simp [hj, Nat.mod_one]
  · simp [hj, Nat.not_lt.1 hj]
theorem run_zeros {P : Program} (w : World) (t tn ty : TypeId) (i : TypeInfo) (ht : P.underlying t = some (.slice 3)) (htn : P.underlying tn = some (.int .i64)) (hi : P.info? 3 = some i) (hz : i.zero = some (.int .i64 0)) (h1 : i.size = 1) (h8 : i.bytes = 8)
    (base g n cap m : Nat) (xs : List Int) (hown : w.ownsRow base 3 1 (.slice (some ⟨g, 0, none⟩) n cap) n (ints xs)) (hm : 0 < m) (hn : n + m ≤ 1000000) (hbase : base ≤ w.heap.size) :
    ∃ v' w', (Builtin.append_ #[t, tn] ty #[.slice (some ⟨g, 0, none⟩) n cap, .int .i64 m]).run P w = .ok v' w' ∧ w'.ownsRow base 3 1 v' (n + m) (ints (xs ++ List.replicate m 0)) ∧ w.grownBy w' (some g) := by
  have hw : IntKind.i64.wrap (m : Int) = m := by rw [IntKind.wrap_i64]; omega
  have hneg : ¬ ((m : Int) < 0) := by omega
  have h48i : ¬ (281474976710656 < (m : Int) * 8) := by omega
  have hns : ¬ m = 0 := by omega
  have hxl : (ints xs).length = n := by have := hown.1; simpa using this
  have hnl : (ints (List.replicate m (0 : Int))).length = m := by simp
  have hcat : ints (xs ++ List.replicate m 0) = ints xs ++ ints (List.replicate m 0) := by simp [ints]
  rcases hown.2 with ⟨h, _⟩ | ⟨g', cap', cur, hv, hbg, hg, hnc, hcm, hcs, htake⟩
  · simp at h
  simp only [Value.slice.injEq, Option.some.injEq, Addr.mk.injEq, and_true, true_and] at hv
  obtain ⟨rfl, rfl⟩ := hv
  have hzc : (#[Value.int .i64 0] : Array Value) = Value.cells (.int .i64 0) := rfl
  by_cases hroom : n + m ≤ cap
  · have hst := run_storeCells_at P g n 3 (ints (List.replicate m 0)) 0 cur w hg (by rw [hnl, hcs]; omega) (fun v hv => ints_oneCell .i64 _ v hv)
    simp only [Nat.add_zero] at hst
    have hzl := zc_list m
    refine ⟨_, _, by simp [Builtin.append_, run_underlying ht, run_underlying htn, sizeOf, typeInfo, zeroValue, hi, hz, h1, h8, asInt, asIntOf, hw, hneg, h48i, hns, hroom, Addr.add_lit]; simp only [← hzc, hzl, hst]; rfl, ?_, ?_⟩
    · refine ⟨by simp [hxl, hcat], .inr ⟨g, cap, _, rfl, hbg, setRow_heap w g cur _ _ _ hg, hroom, hcm, ?_, ?_⟩⟩
      · simp only [List.size_toArray, List.length_append, List.length_take, List.length_drop, Array.length_toList, hnl]
        omega
      · rw [hcat]
        have ht : cur.toList.take n = ints xs := by simpa using htake
        rw [ht]
        have : (n + m) * 1 = (ints xs ++ ints (List.replicate m 0)).length := by rw [List.length_append, hxl, hnl]; omega
        rw [this]
        exact List.take_left
    · exact ⟨rfl, rfl, rfl, by simp, fun k _ hk => setRow_other w g k _ (fun e => hk (by rw [e]))⟩
  · have holds : ∀ j u, (ints xs)[j]? = some u → w.cell? ((⟨g, 0, none⟩ : Addr).add j) = some u := hown.cells (g := g) rfl
    have hfo := run_firstCells_some (P := P) w.drew 1 n ⟨g, 0, none⟩ n cap (ints xs) (by omega) (by simpa using holds)
    have h63' : ¬ (9223372036854775807 < ((n : Int) + (m : Int))) := by omega
    have h48' : ¬ (281474976710656 < Builtin.nextslicecap (n + m) cap * 8) := by
      have := growslice_fits (need := n + m) (old := cap) (bytes := 8) (by omega) (by omega)
      omega
    refine ⟨.slice (some ⟨w.heap.size, 0, none⟩) (n + m) (grownCap w (n + m) cap 3), w.drew.alloc (.cells ((ints xs).toArray ++ (Builtin.zeroCells (Value.int .i64 0).cells m ++ Builtin.zeroCells (Value.int .i64 0).cells (grownCap w (n + m) cap 3 - (n + m)))) 3),
      by simp [Builtin.append_, run_underlying ht, run_underlying htn, sizeOf, typeInfo, zeroValue, hi, hz, h1, h8, asInt, asIntOf, hw, hneg, h48i, hns, hroom, h63', h48', Question.forced, hfo, newRow, grownCap], ?_, ⟨rfl, rfl, rfl, by simp, fun k hk _ => heap_alloc_old w.drew _ hk⟩⟩
    have hge := grownCap_ge w (n + m) cap 3
    have hcm' : grownCap w (n + m) cap 3 ≤ maxLen := grownCap_le_maxLen w (n + m) cap 3 (by unfold maxLen; omega)
    generalize grownCap w (n + m) cap 3 = nc at *
    rw [← hzc]
    refine ⟨by simp [hxl, hcat], .inr ⟨w.heap.size, nc, _, rfl, hbase, heap_alloc_new w.drew _, hge, hcm', ?_, ?_⟩⟩
    · simp only [Array.size_append, List.size_toArray, zc_size, hxl]
      omega
    · simp only [Array.toList_append, zc_list]
      rw [hcat, ← List.append_assoc]
      have : (n + m) * 1 = (ints xs ++ ints (List.replicate m 0)).length := by rw [List.length_append, hxl, hnl]; omega
      rw [this]
      exact List.take_left
theorem run_zeros_any {P : Program} (w : World) (t tn ty : TypeId) (i : TypeInfo) (ht : P.underlying t = some (.slice 3)) (htn : P.underlying tn = some (.int .i64)) (hi : P.info? 3 = some i) (hz : i.zero = some (.int .i64 0)) (h1 : i.size = 1) (h8 : i.bytes = 8)
    (base n m : Nat) (v : Value) (xs : List Int) (hown : w.ownsRow base 3 1 v n (ints xs)) (hm : 0 < m) (hn : n + m ≤ 1000000) (hbase : base ≤ w.heap.size) :
    ∃ v' w', (Builtin.append_ #[t, tn] ty #[v, .int .i64 m]).run P w = .ok v' w' ∧ w'.ownsRow base 3 1 v' (n + m) (ints (xs ++ List.replicate m 0)) ∧ w.grownBy w' v.ownBlock := by
  rcases hown.2 with ⟨rfl, rfl⟩ | ⟨g, cap, cur, rfl, _⟩
  · have hx : xs = [] := by have := hown.1; simpa using this
    subst hx
    have hr := Lib.run_append_nil_zeros (P := P) w t tn ty 3 i (.int .i64 0) .i64 .i64 ht htn hi hz m hm (by omega) (by omega) (by rw [h8]; omega)
    refine ⟨_, _, hr, ?_, ⟨rfl, rfl, rfl, by simp, fun k hk _ => heap_alloc_old w.drew _ hk⟩⟩
    have hge := grownCap_ge w m 0 3
    have hcm' : grownCap w m 0 3 ≤ maxLen := grownCap_le_maxLen w m 0 3 (by unfold maxLen; omega)
    generalize grownCap w m 0 3 = nc at *
    have hzc : (#[Value.int .i64 0] : Array Value) = Value.cells (.int .i64 0) := rfl
    have hnl : (ints (List.replicate m (0 : Int))).length = m := by simp
    rw [← hzc, List.nil_append, Nat.zero_add]
    refine ⟨by simp, .inr ⟨w.heap.size, nc, _, rfl, hbase, heap_alloc_new w.drew _, hge, hcm', ?_, ?_⟩⟩
    · simp only [Array.size_append, zc_size]
      omega
    · simp only [Array.toList_append, zc_list]
      have : m * 1 = (ints (List.replicate m 0)).length := by rw [hnl]; omega
      rw [this]
      exact List.take_left
  · exact run_zeros w t tn ty i ht htn hi hz h1 h8 base g n cap m xs hown hm hn hbase
theorem wpList_catZeros {P : Program} {ops : Array Oper} {rest : List Oper} {o : Oper} {a : Act} {Q : Exit → Act → World → Prop} {w : World} (hgd : o.guard = none) (s x : Operand) (t tn : TypeId)
    (ho : o.op = .call { callee := .builtin .append, args := #[s, x], argTypes := #[t, tn] }) (ht : P.underlying t = some (.slice 3)) (htn : P.underlying tn = some (.int .i64))
    (hinfo : (P.info? 3).map (fun i => (i.zero, i.size, i.bytes)) = some (some (.int .i64 0), 1, 8))
    (base n m : Nat) (v : Value) (xs : List Int) (hs : a.eval s = v) (hx : a.eval x = .int .i64 m) (hown : w.ownsRow base 3 1 v n (ints xs)) (hm : 0 < m) (hn : n + m ≤ 1000000) (hbase : base ≤ w.heap.size)
    (h : ∀ v' w', w'.ownsRow base 3 1 v' (n + m) (ints (xs ++ List.replicate m 0)) → w.grownBy w' v.ownBlock → wpList P ops Q rest (a.put o.dst v') w') :
    wpList P ops Q (o :: rest) a w := by
  obtain ⟨i0, hi, hz0, hz1, hz2⟩ := info_parts hinfo
  obtain ⟨v', w', hr, h1, h2⟩ := run_zeros_any (P := P) w t tn o.type i0 ht htn hi hz0 hz1 hz2 base n m v xs hown hm hn hbase
  exact Lib.wpList_append_run w hgd s x t tn ho _ _ hs hx v' w' hr (h v' w' h1 h2)
end Go.Proofs.Ytlemielobmbadaa
