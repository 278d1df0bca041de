/-
  No cell of these rows narrows 'for every input' (looked for: loops, veiled, ifaces, maps, wideKeys, modest, calm, conditions, laid).
  DERIVED. THE GIVEN ROWS OF THIS SEAT. 4 by the template 'for every input the law returns true; each argument reads behind the call as it read before'; 0 by the template 'total and deterministic' (their statements: YtphhenlokbodnaaTotals.lean).
  GIVEN WITH THE SEED: the statements are not yours to turn. If you find one false, say at which input.
  Laid BY PROGRAM, IN A SANDBOX (cutbox-rows.mjs): the forced cells as the released guide's own fill.sh prints them over the translation 17055bd982c3f414… (all of the seat's roots in one cut). By AI agents, Wed Nov 11 2026. No macro, syntax, notation, axiom, sorry.
-/
import Derived.Test.YtphhenlokbodnaaChecked
import GoSem.Claim
import GoSem.ClaimJoined
import GoSem.ClaimMapViews
import Derived.JoinedTies
import Derived.KernelRfl
namespace Go.Proofs.Ytphhenlokbodnaa
/- THE CELL 'sum', in the pinned program and in every row, IS THE sha256 OF THE DUMP (.gsa) THAT YtphhenlokbodnaaProg.lean LOADS. Nothing in Lean hashes anything: it is a label: what it is worth is what the hold of that sum in a sandbox is worth. -/
noncomputable def Try.pinned : Pinned := { name := "ytphhenlokbodnaa", sum := "17055bd982c3f414afc89c68f3ac5a1ed9e2bbebe0986f2bac6f58d7bf758055", checked := Try.checked }
namespace Rows
def none {H : Type} : Left H := { results := [], args := [] }

/-- 'laws.FnExactIsValidGrowth': WHATEVER THE INPUT: true; the input reads as it did. -/
def fnExactIsValidGrowthSpec : ChangeSpec := { name := "fnExactIsValidGrowth", fn := fun _ => fun
  | [d1, d2] => { results := [.lit (.bool true)], args := [d1, d2] }
  | _ => none }
def fnExactIsValidGrowthRow : OpenClaim := { program := "ytphhenlokbodnaa", sum := "17055bd982c3f414afc89c68f3ac5a1ed9e2bbebe0986f2bac6f58d7bf758055", func := "loop.example/g00897/laws.FnExactIsValidGrowth", spec := "fnExactIsValidGrowth", unfollowed := true, recurses := true, apart := false }
def FnExactIsValidGrowthSaid : Prop := fnExactIsValidGrowthRow.holds Try.pinned (OpenSpec.ofChange fnExactIsValidGrowthSpec)

/-- ITS FALSE NEIGHBOUR: 'it returns false'. Refute it at one input. -/
def fnExactIsValidGrowthWrong : ChangeSpec := { name := "fnExactIsValidGrowth", fn := fun _ => fun
  | [d1, d2] => { results := [.lit (.bool false)], args := [d1, d2] }
  | _ => none }
def FnExactIsValidGrowthWrongFalsely : Prop := fnExactIsValidGrowthRow.holds Try.pinned (OpenSpec.ofChange fnExactIsValidGrowthWrong)

/-- 'laws.FnExactActiveGrowth': WHATEVER THE INPUT: true; the input reads as it did. -/
def fnExactActiveGrowthSpec : ChangeSpec := { name := "fnExactActiveGrowth", fn := fun _ => fun
  | [d1, d2, d3] => { results := [.lit (.bool true)], args := [d1, d2, d3] }
  | _ => none }
def fnExactActiveGrowthRow : OpenClaim := { program := "ytphhenlokbodnaa", sum := "17055bd982c3f414afc89c68f3ac5a1ed9e2bbebe0986f2bac6f58d7bf758055", func := "loop.example/g00897/laws.FnExactActiveGrowth", spec := "fnExactActiveGrowth", unfollowed := true, recurses := true, apart := false }
def FnExactActiveGrowthSaid : Prop := fnExactActiveGrowthRow.holds Try.pinned (OpenSpec.ofChange fnExactActiveGrowthSpec)

/-- ITS FALSE NEIGHBOUR: 'it returns false'. Refute it at one input. -/
def fnExactActiveGrowthWrong : ChangeSpec := { name := "fnExactActiveGrowth", fn := fun _ => fun
  | [d1, d2, d3] => { results := [.lit (.bool false)], args := [d1, d2, d3] }
  | _ => none }
def FnExactActiveGrowthWrongFalsely : Prop := fnExactActiveGrowthRow.holds Try.pinned (OpenSpec.ofChange fnExactActiveGrowthWrong)

/-- 'laws.FnExactDelayGrowth': WHATEVER THE INPUT: true; the input reads as it did. -/
def fnExactDelayGrowthSpec : ChangeSpec := { name := "fnExactDelayGrowth", fn := fun _ => fun
  | [d1, d2, d3, d4] => { results := [.lit (.bool true)], args := [d1, d2, d3, d4] }
  | _ => none }
def fnExactDelayGrowthRow : OpenClaim := { program := "ytphhenlokbodnaa", sum := "17055bd982c3f414afc89c68f3ac5a1ed9e2bbebe0986f2bac6f58d7bf758055", func := "loop.example/g00897/laws.FnExactDelayGrowth", spec := "fnExactDelayGrowth", unfollowed := true, recurses := true, apart := false }
def FnExactDelayGrowthSaid : Prop := fnExactDelayGrowthRow.holds Try.pinned (OpenSpec.ofChange fnExactDelayGrowthSpec)

/-- ITS FALSE NEIGHBOUR: 'it returns false'. Refute it at one input. -/
def fnExactDelayGrowthWrong : ChangeSpec := { name := "fnExactDelayGrowth", fn := fun _ => fun
  | [d1, d2, d3, d4] => { results := [.lit (.bool false)], args := [d1, d2, d3, d4] }
  | _ => none }
def FnExactDelayGrowthWrongFalsely : Prop := fnExactDelayGrowthRow.holds Try.pinned (OpenSpec.ofChange fnExactDelayGrowthWrong)

/-- 'laws.FnExactAlarmBursts': WHATEVER THE INPUT: true; the input reads as it did. -/
def fnExactAlarmBurstsSpec : ChangeSpec := { name := "fnExactAlarmBursts", fn := fun _ => fun
  | [d1, d2] => { results := [.lit (.bool true)], args := [d1, d2] }
  | _ => none }
def fnExactAlarmBurstsRow : OpenClaim := { program := "ytphhenlokbodnaa", sum := "17055bd982c3f414afc89c68f3ac5a1ed9e2bbebe0986f2bac6f58d7bf758055", func := "loop.example/g00897/laws.FnExactAlarmBursts", spec := "fnExactAlarmBursts", recurses := true, apart := false }
def FnExactAlarmBurstsSaid : Prop := fnExactAlarmBurstsRow.holds Try.pinned (OpenSpec.ofChange fnExactAlarmBurstsSpec)

/-- ITS FALSE NEIGHBOUR: 'it returns false'. Refute it at one input. -/
def fnExactAlarmBurstsWrong : ChangeSpec := { name := "fnExactAlarmBursts", fn := fun _ => fun
  | [d1, d2] => { results := [.lit (.bool false)], args := [d1, d2] }
  | _ => none }
def FnExactAlarmBurstsWrongFalsely : Prop := fnExactAlarmBurstsRow.holds Try.pinned (OpenSpec.ofChange fnExactAlarmBurstsWrong)

/- THE SECOND FORM. 'bulk': how many values and letters a reading holds, each counted each time it is reached (what is shared counts as often as it is met; a slice's spare places count too). A statement '..UptoSaid' is the law's where the arguments, and the package variables that the reading takes, are together of bulk at most 1048576: NARROWER than '..Said'. Prove '..Said' where nothing that the law and all that it calls make is longer than what came in: it says more and counts as full. Else prove '..UptoSaid'. A law counts once. -/
mutual
def uptoBulk {H : Type} : DataW H → Nat
  | .lit (.string bytes) => bytes.length + 1
  | .lit _ => 1
  | .nil => 1
  | .ptr d => uptoBulk d + 1
  | .slice elems spare => uptoBulkAll elems + uptoBulkAll spare + 1
  | .agg parts => uptoBulkAll parts + 1
  | .iface _ d => uptoBulk d + 1
  | .map entries => uptoBulkEntries entries + 1
  | .held _ => 1
def uptoBulkAll {H : Type} : List (DataW H) → Nat
  | [] => 0
  | d :: r => uptoBulk d + uptoBulkAll r
def uptoBulkEntries {H : Type} : List (Lit × DataW H) → Nat
  | [] => 0
  | x :: r => uptoBulkEntry x + uptoBulkEntries r
def uptoBulkEntry {H : Type} : Lit × DataW H → Nat
  | (.string bytes, d) => bytes.length + uptoBulk d + 1
  | (_, d) => uptoBulk d + 1
 end
def uptoSmall : (H : Type) → List (DataW H) → Bool := fun _ ds => decide (uptoBulkAll ds ≤ 1048576)
def OpenSpec.upto (s : _root_.Go.ChangeSpec) : _root_.Go.OpenSpec := { _root_.Go.OpenSpec.ofChange s with cond := some uptoSmall }

/-- 'laws.FnExactIsValidGrowth', WHERE WHAT IT READS IS OF BULK AT MOST 1048576: true; the input reads as it did. -/
def fnExactIsValidGrowthUptoRow : OpenClaim := { program := "ytphhenlokbodnaa", sum := "17055bd982c3f414afc89c68f3ac5a1ed9e2bbebe0986f2bac6f58d7bf758055", func := "loop.example/g00897/laws.FnExactIsValidGrowth", spec := "fnExactIsValidGrowth", unfollowed := true, recurses := true, apart := false, narrowed := true }
def FnExactIsValidGrowthUptoSaid : Prop := fnExactIsValidGrowthUptoRow.holds Try.pinned (OpenSpec.upto fnExactIsValidGrowthSpec)

/-- 'laws.FnExactActiveGrowth', WHERE WHAT IT READS IS OF BULK AT MOST 1048576: true; the input reads as it did. -/
def fnExactActiveGrowthUptoRow : OpenClaim := { program := "ytphhenlokbodnaa", sum := "17055bd982c3f414afc89c68f3ac5a1ed9e2bbebe0986f2bac6f58d7bf758055", func := "loop.example/g00897/laws.FnExactActiveGrowth", spec := "fnExactActiveGrowth", unfollowed := true, recurses := true, apart := false, narrowed := true }
def FnExactActiveGrowthUptoSaid : Prop := fnExactActiveGrowthUptoRow.holds Try.pinned (OpenSpec.upto fnExactActiveGrowthSpec)

/-- 'laws.FnExactDelayGrowth', WHERE WHAT IT READS IS OF BULK AT MOST 1048576: true; the input reads as it did. -/
def fnExactDelayGrowthUptoRow : OpenClaim := { program := "ytphhenlokbodnaa", sum := "17055bd982c3f414afc89c68f3ac5a1ed9e2bbebe0986f2bac6f58d7bf758055", func := "loop.example/g00897/laws.FnExactDelayGrowth", spec := "fnExactDelayGrowth", unfollowed := true, recurses := true, apart := false, narrowed := true }
def FnExactDelayGrowthUptoSaid : Prop := fnExactDelayGrowthUptoRow.holds Try.pinned (OpenSpec.upto fnExactDelayGrowthSpec)

/-- 'laws.FnExactAlarmBursts', WHERE WHAT IT READS IS OF BULK AT MOST 1048576: true; the input reads as it did. -/
def fnExactAlarmBurstsUptoRow : OpenClaim := { program := "ytphhenlokbodnaa", sum := "17055bd982c3f414afc89c68f3ac5a1ed9e2bbebe0986f2bac6f58d7bf758055", func := "loop.example/g00897/laws.FnExactAlarmBursts", spec := "fnExactAlarmBursts", recurses := true, apart := false, narrowed := true }
def FnExactAlarmBurstsUptoSaid : Prop := fnExactAlarmBurstsUptoRow.holds Try.pinned (OpenSpec.upto fnExactAlarmBurstsSpec)

end Rows
end Go.Proofs.Ytphhenlokbodnaa
