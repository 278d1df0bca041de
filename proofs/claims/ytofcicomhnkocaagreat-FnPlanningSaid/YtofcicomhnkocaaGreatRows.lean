/-
  No cell of these rows narrows 'for every input' (looked for: loops, veiled, ifaces, maps, wideKeys, modest, calm, conditions, laid).
  DERIVED. THE GIVEN ROWS OF THIS SEAT. 9 by the template 'for every input the law returns true; each argument reads behind the call as it read before'; 0 by the template 'total and deterministic' (their statements: YtofcicomhnkocaaGreatTotals.lean).
  GIVEN WITH THE SEED: the statements are not yours to turn. If you find one false, say at which input.
  Laid BY PROGRAM, IN A SANDBOX (cutbox-rows.mjs): the forced cells as the released guide's own fill.sh prints them over the translation e14a1b53d7de561d… (all of the seat's roots in one cut). By AI agents, Wed Nov 11 2026. No macro, syntax, notation, axiom, sorry.
-/
import Derived.Test.YtofcicomhnkocaaGreatChecked
import GoSem.Claim
import GoSem.ClaimJoined
import GoSem.ClaimMapViews
import Derived.JoinedTies
import Derived.KernelRfl
namespace Go.Proofs.YtofcicomhnkocaaGreat
/- THE CELL 'sum', in the pinned program and in every row, IS THE sha256 OF THE DUMP (.gsa) THAT YtofcicomhnkocaaGreatProg.lean LOADS. Nothing in Lean hashes anything: it is a label: what it is worth is what the hold of that sum in a sandbox is worth. -/
noncomputable def Tryz.pinned : Pinned := { name := "ytofcicomhnkocaagreat", sum := "e14a1b53d7de561dfadb518e9203397b6292e15192fb6b28abf1c52897552212", checked := Tryz.checked }
namespace Rows
def none {H : Type} : Left H := { results := [], args := [] }

/-- 'laws.FnExactCarriedRate': WHATEVER THE INPUT: true; the input reads as it did. -/
def fnExactCarriedRateSpec : ChangeSpec := { name := "fnExactCarriedRate", fn := fun _ => fun
  | [d1, d2, d3] => { results := [.lit (.bool true)], args := [d1, d2, d3] }
  | _ => none }
def fnExactCarriedRateRow : OpenClaim := { program := "ytofcicomhnkocaagreat", sum := "e14a1b53d7de561dfadb518e9203397b6292e15192fb6b28abf1c52897552212", func := "loop.example/g00897/laws.FnExactCarriedRate", spec := "fnExactCarriedRate", inPlace := ["slices.overlaps[loop.example/g00897/impl.Light]"], unfollowed := true, recurses := true, apart := false }
def FnExactCarriedRateSaid : Prop := fnExactCarriedRateRow.holds Tryz.pinned (OpenSpec.ofChange fnExactCarriedRateSpec)

/-- ITS FALSE NEIGHBOUR: 'it returns false'. Refute it at one input. -/
def fnExactCarriedRateWrong : ChangeSpec := { name := "fnExactCarriedRate", fn := fun _ => fun
  | [d1, d2, d3] => { results := [.lit (.bool false)], args := [d1, d2, d3] }
  | _ => none }
def FnExactCarriedRateWrongFalsely : Prop := fnExactCarriedRateRow.holds Tryz.pinned (OpenSpec.ofChange fnExactCarriedRateWrong)

/-- 'laws.FnDelays': WHATEVER THE INPUT: true; the input reads as it did. -/
def fnDelaysSpec : ChangeSpec := { name := "fnDelays", fn := fun _ => fun
  | [d] => { results := [.lit (.bool true)], args := [d] }
  | _ => none }
def fnDelaysRow : OpenClaim := { program := "ytofcicomhnkocaagreat", sum := "e14a1b53d7de561dfadb518e9203397b6292e15192fb6b28abf1c52897552212", func := "loop.example/g00897/laws.FnDelays", spec := "fnDelays", inPlace := ["slices.overlaps[loop.example/g00897/impl.Light]"], unfollowed := true, recurses := true, apart := false }
def FnDelaysSaid : Prop := fnDelaysRow.holds Tryz.pinned (OpenSpec.ofChange fnDelaysSpec)

/-- ITS FALSE NEIGHBOUR: 'it returns false'. Refute it at one input. -/
def fnDelaysWrong : ChangeSpec := { name := "fnDelays", fn := fun _ => fun
  | [d] => { results := [.lit (.bool false)], args := [d] }
  | _ => none }
def FnDelaysWrongFalsely : Prop := fnDelaysRow.holds Tryz.pinned (OpenSpec.ofChange fnDelaysWrong)

/-- 'laws.FnExactPeakFiber': WHATEVER THE INPUT: true; the input reads as it did. -/
def fnExactPeakFiberSpec : ChangeSpec := { name := "fnExactPeakFiber", fn := fun _ => fun
  | [d1, d2, d3] => { results := [.lit (.bool true)], args := [d1, d2, d3] }
  | _ => none }
def fnExactPeakFiberRow : OpenClaim := { program := "ytofcicomhnkocaagreat", sum := "e14a1b53d7de561dfadb518e9203397b6292e15192fb6b28abf1c52897552212", func := "loop.example/g00897/laws.FnExactPeakFiber", spec := "fnExactPeakFiber", inPlace := ["slices.overlaps[loop.example/g00897/impl.Light]"], unfollowed := true, recurses := true, apart := false }
def FnExactPeakFiberSaid : Prop := fnExactPeakFiberRow.holds Tryz.pinned (OpenSpec.ofChange fnExactPeakFiberSpec)

/-- ITS FALSE NEIGHBOUR: 'it returns false'. Refute it at one input. -/
def fnExactPeakFiberWrong : ChangeSpec := { name := "fnExactPeakFiber", fn := fun _ => fun
  | [d1, d2, d3] => { results := [.lit (.bool false)], args := [d1, d2, d3] }
  | _ => none }
def FnExactPeakFiberWrongFalsely : Prop := fnExactPeakFiberRow.holds Tryz.pinned (OpenSpec.ofChange fnExactPeakFiberWrong)

/-- 'laws.FnExactBlockedGrowth': WHATEVER THE INPUT: true; the input reads as it did. -/
def fnExactBlockedGrowthSpec : ChangeSpec := { name := "fnExactBlockedGrowth", fn := fun _ => fun
  | [d1, d2, d3] => { results := [.lit (.bool true)], args := [d1, d2, d3] }
  | _ => none }
def fnExactBlockedGrowthRow : OpenClaim := { program := "ytofcicomhnkocaagreat", sum := "e14a1b53d7de561dfadb518e9203397b6292e15192fb6b28abf1c52897552212", func := "loop.example/g00897/laws.FnExactBlockedGrowth", spec := "fnExactBlockedGrowth", inPlace := ["slices.overlaps[loop.example/g00897/impl.Light]"], unfollowed := true, recurses := true, apart := false }
def FnExactBlockedGrowthSaid : Prop := fnExactBlockedGrowthRow.holds Tryz.pinned (OpenSpec.ofChange fnExactBlockedGrowthSpec)

/-- ITS FALSE NEIGHBOUR: 'it returns false'. Refute it at one input. -/
def fnExactBlockedGrowthWrong : ChangeSpec := { name := "fnExactBlockedGrowth", fn := fun _ => fun
  | [d1, d2, d3] => { results := [.lit (.bool false)], args := [d1, d2, d3] }
  | _ => none }
def FnExactBlockedGrowthWrongFalsely : Prop := fnExactBlockedGrowthRow.holds Tryz.pinned (OpenSpec.ofChange fnExactBlockedGrowthWrong)

/-- 'laws.FnUpgrades': WHATEVER THE INPUT: true; the input reads as it did. -/
def fnUpgradesSpec : ChangeSpec := { name := "fnUpgrades", fn := fun _ => fun
  | [d] => { results := [.lit (.bool true)], args := [d] }
  | _ => none }
def fnUpgradesRow : OpenClaim := { program := "ytofcicomhnkocaagreat", sum := "e14a1b53d7de561dfadb518e9203397b6292e15192fb6b28abf1c52897552212", func := "loop.example/g00897/laws.FnUpgrades", spec := "fnUpgrades", inPlace := ["slices.overlaps[loop.example/g00897/impl.Light]"], unfollowed := true, recurses := true, apart := false }
def FnUpgradesSaid : Prop := fnUpgradesRow.holds Tryz.pinned (OpenSpec.ofChange fnUpgradesSpec)

/-- ITS FALSE NEIGHBOUR: 'it returns false'. Refute it at one input. -/
def fnUpgradesWrong : ChangeSpec := { name := "fnUpgrades", fn := fun _ => fun
  | [d] => { results := [.lit (.bool false)], args := [d] }
  | _ => none }
def FnUpgradesWrongFalsely : Prop := fnUpgradesRow.holds Tryz.pinned (OpenSpec.ofChange fnUpgradesWrong)

/-- 'laws.FnExactUpgradePeriods': WHATEVER THE INPUT: true; the input reads as it did. -/
def fnExactUpgradePeriodsSpec : ChangeSpec := { name := "fnExactUpgradePeriods", fn := fun _ => fun
  | [d1, d2, d3, d4] => { results := [.lit (.bool true)], args := [d1, d2, d3, d4] }
  | _ => none }
def fnExactUpgradePeriodsRow : OpenClaim := { program := "ytofcicomhnkocaagreat", sum := "e14a1b53d7de561dfadb518e9203397b6292e15192fb6b28abf1c52897552212", func := "loop.example/g00897/laws.FnExactUpgradePeriods", spec := "fnExactUpgradePeriods", inPlace := ["slices.overlaps[loop.example/g00897/impl.Light]"], unfollowed := true, recurses := true, apart := false }
def FnExactUpgradePeriodsSaid : Prop := fnExactUpgradePeriodsRow.holds Tryz.pinned (OpenSpec.ofChange fnExactUpgradePeriodsSpec)

/-- ITS FALSE NEIGHBOUR: 'it returns false'. Refute it at one input. -/
def fnExactUpgradePeriodsWrong : ChangeSpec := { name := "fnExactUpgradePeriods", fn := fun _ => fun
  | [d1, d2, d3, d4] => { results := [.lit (.bool false)], args := [d1, d2, d3, d4] }
  | _ => none }
def FnExactUpgradePeriodsWrongFalsely : Prop := fnExactUpgradePeriodsRow.holds Tryz.pinned (OpenSpec.ofChange fnExactUpgradePeriodsWrong)

/-- 'laws.FnPlanning': WHATEVER THE INPUT: true; the input reads as it did. -/
def fnPlanningSpec : ChangeSpec := { name := "fnPlanning", fn := fun _ => fun
  | [d] => { results := [.lit (.bool true)], args := [d] }
  | _ => none }
def fnPlanningRow : OpenClaim := { program := "ytofcicomhnkocaagreat", sum := "e14a1b53d7de561dfadb518e9203397b6292e15192fb6b28abf1c52897552212", func := "loop.example/g00897/laws.FnPlanning", spec := "fnPlanning", inPlace := ["slices.overlaps[loop.example/g00897/impl.Light]"], unfollowed := true, recurses := true, apart := false }
def FnPlanningSaid : Prop := fnPlanningRow.holds Tryz.pinned (OpenSpec.ofChange fnPlanningSpec)

/-- ITS FALSE NEIGHBOUR: 'it returns false'. Refute it at one input. -/
def fnPlanningWrong : ChangeSpec := { name := "fnPlanning", fn := fun _ => fun
  | [d] => { results := [.lit (.bool false)], args := [d] }
  | _ => none }
def FnPlanningWrongFalsely : Prop := fnPlanningRow.holds Tryz.pinned (OpenSpec.ofChange fnPlanningWrong)

/-- 'laws.FnExactUseHistory': WHATEVER THE INPUT: true; the input reads as it did. -/
def fnExactUseHistorySpec : ChangeSpec := { name := "fnExactUseHistory", fn := fun _ => fun
  | [d1, d2, d3] => { results := [.lit (.bool true)], args := [d1, d2, d3] }
  | _ => none }
def fnExactUseHistoryRow : OpenClaim := { program := "ytofcicomhnkocaagreat", sum := "e14a1b53d7de561dfadb518e9203397b6292e15192fb6b28abf1c52897552212", func := "loop.example/g00897/laws.FnExactUseHistory", spec := "fnExactUseHistory", inPlace := ["slices.overlaps[loop.example/g00897/impl.Light]"], unfollowed := true, recurses := true, apart := false }
def FnExactUseHistorySaid : Prop := fnExactUseHistoryRow.holds Tryz.pinned (OpenSpec.ofChange fnExactUseHistorySpec)

/-- ITS FALSE NEIGHBOUR: 'it returns false'. Refute it at one input. -/
def fnExactUseHistoryWrong : ChangeSpec := { name := "fnExactUseHistory", fn := fun _ => fun
  | [d1, d2, d3] => { results := [.lit (.bool false)], args := [d1, d2, d3] }
  | _ => none }
def FnExactUseHistoryWrongFalsely : Prop := fnExactUseHistoryRow.holds Tryz.pinned (OpenSpec.ofChange fnExactUseHistoryWrong)

/-- 'laws.FnExactPlanAt': WHATEVER THE INPUT: true; the input reads as it did. -/
def fnExactPlanAtSpec : ChangeSpec := { name := "fnExactPlanAt", fn := fun _ => fun
  | [d1, d2, d3, d4] => { results := [.lit (.bool true)], args := [d1, d2, d3, d4] }
  | _ => none }
def fnExactPlanAtRow : OpenClaim := { program := "ytofcicomhnkocaagreat", sum := "e14a1b53d7de561dfadb518e9203397b6292e15192fb6b28abf1c52897552212", func := "loop.example/g00897/laws.FnExactPlanAt", spec := "fnExactPlanAt", inPlace := ["slices.overlaps[loop.example/g00897/impl.Light]"], unfollowed := true, recurses := true, apart := false }
def FnExactPlanAtSaid : Prop := fnExactPlanAtRow.holds Tryz.pinned (OpenSpec.ofChange fnExactPlanAtSpec)

/-- ITS FALSE NEIGHBOUR: 'it returns false'. Refute it at one input. -/
def fnExactPlanAtWrong : ChangeSpec := { name := "fnExactPlanAt", fn := fun _ => fun
  | [d1, d2, d3, d4] => { results := [.lit (.bool false)], args := [d1, d2, d3, d4] }
  | _ => none }
def FnExactPlanAtWrongFalsely : Prop := fnExactPlanAtRow.holds Tryz.pinned (OpenSpec.ofChange fnExactPlanAtWrong)

/- THE SECOND FORM. 'bulk': how many values and letters a reading holds, each counted each time it is reached (what is shared counts as often as it is met; a slice's spare places count too). A statement '..UptoSaid' is the law's where the arguments, and the package variables that the reading takes, are together of bulk at most 1048576: NARROWER than '..Said'. Prove '..Said' where nothing that the law and all that it calls make is longer than what came in: it says more and counts as full. Else prove '..UptoSaid'. A law counts once. -/
mutual
def uptoBulk {H : Type} : DataW H → Nat
  | .lit (.string bytes) => bytes.length + 1
  | .lit _ => 1
  | .nil => 1
  | .ptr d => uptoBulk d + 1
  | .slice elems spare => uptoBulkAll elems + uptoBulkAll spare + 1
  | .agg parts => uptoBulkAll parts + 1
  | .iface _ d => uptoBulk d + 1
  | .map entries => uptoBulkEntries entries + 1
  | .held _ => 1
def uptoBulkAll {H : Type} : List (DataW H) → Nat
  | [] => 0
  | d :: r => uptoBulk d + uptoBulkAll r
def uptoBulkEntries {H : Type} : List (Lit × DataW H) → Nat
  | [] => 0
  | x :: r => uptoBulkEntry x + uptoBulkEntries r
def uptoBulkEntry {H : Type} : Lit × DataW H → Nat
  | (.string bytes, d) => bytes.length + uptoBulk d + 1
  | (_, d) => uptoBulk d + 1
 end
def uptoSmall : (H : Type) → List (DataW H) → Bool := fun _ ds => decide (uptoBulkAll ds ≤ 1048576)
def OpenSpec.upto (s : _root_.Go.ChangeSpec) : _root_.Go.OpenSpec := { _root_.Go.OpenSpec.ofChange s with cond := some uptoSmall }

/-- 'laws.FnExactCarriedRate', WHERE WHAT IT READS IS OF BULK AT MOST 1048576: true; the input reads as it did. -/
def fnExactCarriedRateUptoRow : OpenClaim := { program := "ytofcicomhnkocaagreat", sum := "e14a1b53d7de561dfadb518e9203397b6292e15192fb6b28abf1c52897552212", func := "loop.example/g00897/laws.FnExactCarriedRate", spec := "fnExactCarriedRate", inPlace := ["slices.overlaps[loop.example/g00897/impl.Light]"], unfollowed := true, recurses := true, apart := false, narrowed := true }
def FnExactCarriedRateUptoSaid : Prop := fnExactCarriedRateUptoRow.holds Tryz.pinned (OpenSpec.upto fnExactCarriedRateSpec)

/-- 'laws.FnDelays', WHERE WHAT IT READS IS OF BULK AT MOST 1048576: true; the input reads as it did. -/
def fnDelaysUptoRow : OpenClaim := { program := "ytofcicomhnkocaagreat", sum := "e14a1b53d7de561dfadb518e9203397b6292e15192fb6b28abf1c52897552212", func := "loop.example/g00897/laws.FnDelays", spec := "fnDelays", inPlace := ["slices.overlaps[loop.example/g00897/impl.Light]"], unfollowed := true, recurses := true, apart := false, narrowed := true }
def FnDelaysUptoSaid : Prop := fnDelaysUptoRow.holds Tryz.pinned (OpenSpec.upto fnDelaysSpec)

/-- 'laws.FnExactPeakFiber', WHERE WHAT IT READS IS OF BULK AT MOST 1048576: true; the input reads as it did. -/
def fnExactPeakFiberUptoRow : OpenClaim := { program := "ytofcicomhnkocaagreat", sum := "e14a1b53d7de561dfadb518e9203397b6292e15192fb6b28abf1c52897552212", func := "loop.example/g00897/laws.FnExactPeakFiber", spec := "fnExactPeakFiber", inPlace := ["slices.overlaps[loop.example/g00897/impl.Light]"], unfollowed := true, recurses := true, apart := false, narrowed := true }
def FnExactPeakFiberUptoSaid : Prop := fnExactPeakFiberUptoRow.holds Tryz.pinned (OpenSpec.upto fnExactPeakFiberSpec)

/-- 'laws.FnExactBlockedGrowth', WHERE WHAT IT READS IS OF BULK AT MOST 1048576: true; the input reads as it did. -/
def fnExactBlockedGrowthUptoRow : OpenClaim := { program := "ytofcicomhnkocaagreat", sum := "e14a1b53d7de561dfadb518e9203397b6292e15192fb6b28abf1c52897552212", func := "loop.example/g00897/laws.FnExactBlockedGrowth", spec := "fnExactBlockedGrowth", inPlace := ["slices.overlaps[loop.example/g00897/impl.Light]"], unfollowed := true, recurses := true, apart := false, narrowed := true }
def FnExactBlockedGrowthUptoSaid : Prop := fnExactBlockedGrowthUptoRow.holds Tryz.pinned (OpenSpec.upto fnExactBlockedGrowthSpec)

/-- 'laws.FnUpgrades', WHERE WHAT IT READS IS OF BULK AT MOST 1048576: true; the input reads as it did. -/
def fnUpgradesUptoRow : OpenClaim := { program := "ytofcicomhnkocaagreat", sum := "e14a1b53d7de561dfadb518e9203397b6292e15192fb6b28abf1c52897552212", func := "loop.example/g00897/laws.FnUpgrades", spec := "fnUpgrades", inPlace := ["slices.overlaps[loop.example/g00897/impl.Light]"], unfollowed := true, recurses := true, apart := false, narrowed := true }
def FnUpgradesUptoSaid : Prop := fnUpgradesUptoRow.holds Tryz.pinned (OpenSpec.upto fnUpgradesSpec)

/-- 'laws.FnExactUpgradePeriods', WHERE WHAT IT READS IS OF BULK AT MOST 1048576: true; the input reads as it did. -/
def fnExactUpgradePeriodsUptoRow : OpenClaim := { program := "ytofcicomhnkocaagreat", sum := "e14a1b53d7de561dfadb518e9203397b6292e15192fb6b28abf1c52897552212", func := "loop.example/g00897/laws.FnExactUpgradePeriods", spec := "fnExactUpgradePeriods", inPlace := ["slices.overlaps[loop.example/g00897/impl.Light]"], unfollowed := true, recurses := true, apart := false, narrowed := true }
def FnExactUpgradePeriodsUptoSaid : Prop := fnExactUpgradePeriodsUptoRow.holds Tryz.pinned (OpenSpec.upto fnExactUpgradePeriodsSpec)

/-- 'laws.FnPlanning', WHERE WHAT IT READS IS OF BULK AT MOST 1048576: true; the input reads as it did. -/
def fnPlanningUptoRow : OpenClaim := { program := "ytofcicomhnkocaagreat", sum := "e14a1b53d7de561dfadb518e9203397b6292e15192fb6b28abf1c52897552212", func := "loop.example/g00897/laws.FnPlanning", spec := "fnPlanning", inPlace := ["slices.overlaps[loop.example/g00897/impl.Light]"], unfollowed := true, recurses := true, apart := false, narrowed := true }
def FnPlanningUptoSaid : Prop := fnPlanningUptoRow.holds Tryz.pinned (OpenSpec.upto fnPlanningSpec)

/-- 'laws.FnExactUseHistory', WHERE WHAT IT READS IS OF BULK AT MOST 1048576: true; the input reads as it did. -/
def fnExactUseHistoryUptoRow : OpenClaim := { program := "ytofcicomhnkocaagreat", sum := "e14a1b53d7de561dfadb518e9203397b6292e15192fb6b28abf1c52897552212", func := "loop.example/g00897/laws.FnExactUseHistory", spec := "fnExactUseHistory", inPlace := ["slices.overlaps[loop.example/g00897/impl.Light]"], unfollowed := true, recurses := true, apart := false, narrowed := true }
def FnExactUseHistoryUptoSaid : Prop := fnExactUseHistoryUptoRow.holds Tryz.pinned (OpenSpec.upto fnExactUseHistorySpec)

/-- 'laws.FnExactPlanAt', WHERE WHAT IT READS IS OF BULK AT MOST 1048576: true; the input reads as it did. -/
def fnExactPlanAtUptoRow : OpenClaim := { program := "ytofcicomhnkocaagreat", sum := "e14a1b53d7de561dfadb518e9203397b6292e15192fb6b28abf1c52897552212", func := "loop.example/g00897/laws.FnExactPlanAt", spec := "fnExactPlanAt", inPlace := ["slices.overlaps[loop.example/g00897/impl.Light]"], unfollowed := true, recurses := true, apart := false, narrowed := true }
def FnExactPlanAtUptoSaid : Prop := fnExactPlanAtUptoRow.holds Tryz.pinned (OpenSpec.upto fnExactPlanAtSpec)

end Rows
end Go.Proofs.YtofcicomhnkocaaGreat
