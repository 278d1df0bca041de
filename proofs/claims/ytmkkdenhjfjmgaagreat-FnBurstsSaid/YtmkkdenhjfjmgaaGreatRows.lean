/-
  No cell of these rows narrows 'for every input' (looked for: loops, veiled, ifaces, maps, wideKeys, modest, calm, conditions, laid).
  DERIVED. THE GIVEN ROWS OF THIS SEAT. 11 by the template 'for every input the law returns true; each argument reads behind the call as it read before'; 0 by the template 'total and deterministic' (their statements: YtmkkdenhjfjmgaaGreatTotals.lean).
  GIVEN WITH THE SEED: the statements are not yours to turn. If you find one false, say at which input.
  Laid BY PROGRAM, IN A SANDBOX (cutbox-rows.mjs): the forced cells as the released guide's own fill.sh prints them over the translation a83435871691ff1e… (all of the seat's roots in one cut). By AI agents, Wed Nov 11 2026. No macro, syntax, notation, axiom, sorry.
-/
import Derived.Test.YtmkkdenhjfjmgaaGreatChecked
import GoSem.Claim
import GoSem.ClaimJoined
import GoSem.ClaimMapViews
import Derived.JoinedTies
import Derived.KernelRfl
namespace Go.Proofs.YtmkkdenhjfjmgaaGreat
/- THE CELL 'sum', in the pinned program and in every row, IS THE sha256 OF THE DUMP (.gsa) THAT YtmkkdenhjfjmgaaGreatProg.lean LOADS. Nothing in Lean hashes anything: it is a label: what it is worth is what the hold of that sum in a sandbox is worth. -/
noncomputable def Tryz.pinned : Pinned := { name := "ytmkkdenhjfjmgaagreat", sum := "a83435871691ff1e3fcedf4557304e26aa4563f8bc691792aa5fd95e7d7e936f", checked := Tryz.checked }
namespace Rows
def none {H : Type} : Left H := { results := [], args := [] }

/-- 'laws.FnExactDistinguishingLight': WHATEVER THE INPUT: true; the input reads as it did. -/
def fnExactDistinguishingLightSpec : ChangeSpec := { name := "fnExactDistinguishingLight", fn := fun _ => fun
  | [d1, d2, d3] => { results := [.lit (.bool true)], args := [d1, d2, d3] }
  | _ => none }
def fnExactDistinguishingLightRow : OpenClaim := { program := "ytmkkdenhjfjmgaagreat", sum := "a83435871691ff1e3fcedf4557304e26aa4563f8bc691792aa5fd95e7d7e936f", func := "loop.example/g00897/laws.FnExactDistinguishingLight", spec := "fnExactDistinguishingLight", unfollowed := true, recurses := true, apart := false }
def FnExactDistinguishingLightSaid : Prop := fnExactDistinguishingLightRow.holds Tryz.pinned (OpenSpec.ofChange fnExactDistinguishingLightSpec)

/-- ITS FALSE NEIGHBOUR: 'it returns false'. Refute it at one input. -/
def fnExactDistinguishingLightWrong : ChangeSpec := { name := "fnExactDistinguishingLight", fn := fun _ => fun
  | [d1, d2, d3] => { results := [.lit (.bool false)], args := [d1, d2, d3] }
  | _ => none }
def FnExactDistinguishingLightWrongFalsely : Prop := fnExactDistinguishingLightRow.holds Tryz.pinned (OpenSpec.ofChange fnExactDistinguishingLightWrong)

/-- 'laws.FnExactIsExplanation': WHATEVER THE INPUT: true; the input reads as it did. -/
def fnExactIsExplanationSpec : ChangeSpec := { name := "fnExactIsExplanation", fn := fun _ => fun
  | [d1, d2, d3] => { results := [.lit (.bool true)], args := [d1, d2, d3] }
  | _ => none }
def fnExactIsExplanationRow : OpenClaim := { program := "ytmkkdenhjfjmgaagreat", sum := "a83435871691ff1e3fcedf4557304e26aa4563f8bc691792aa5fd95e7d7e936f", func := "loop.example/g00897/laws.FnExactIsExplanation", spec := "fnExactIsExplanation", unfollowed := true, recurses := true, apart := false }
def FnExactIsExplanationSaid : Prop := fnExactIsExplanationRow.holds Tryz.pinned (OpenSpec.ofChange fnExactIsExplanationSpec)

/-- ITS FALSE NEIGHBOUR: 'it returns false'. Refute it at one input. -/
def fnExactIsExplanationWrong : ChangeSpec := { name := "fnExactIsExplanation", fn := fun _ => fun
  | [d1, d2, d3] => { results := [.lit (.bool false)], args := [d1, d2, d3] }
  | _ => none }
def FnExactIsExplanationWrongFalsely : Prop := fnExactIsExplanationRow.holds Tryz.pinned (OpenSpec.ofChange fnExactIsExplanationWrong)

/-- 'laws.FnExactLightsHit': WHATEVER THE INPUT: true; the input reads as it did. -/
def fnExactLightsHitSpec : ChangeSpec := { name := "fnExactLightsHit", fn := fun _ => fun
  | [d1, d2] => { results := [.lit (.bool true)], args := [d1, d2] }
  | _ => none }
def fnExactLightsHitRow : OpenClaim := { program := "ytmkkdenhjfjmgaagreat", sum := "a83435871691ff1e3fcedf4557304e26aa4563f8bc691792aa5fd95e7d7e936f", func := "loop.example/g00897/laws.FnExactLightsHit", spec := "fnExactLightsHit", unfollowed := true, recurses := true, apart := false }
def FnExactLightsHitSaid : Prop := fnExactLightsHitRow.holds Tryz.pinned (OpenSpec.ofChange fnExactLightsHitSpec)

/-- ITS FALSE NEIGHBOUR: 'it returns false'. Refute it at one input. -/
def fnExactLightsHitWrong : ChangeSpec := { name := "fnExactLightsHit", fn := fun _ => fun
  | [d1, d2] => { results := [.lit (.bool false)], args := [d1, d2] }
  | _ => none }
def FnExactLightsHitWrongFalsely : Prop := fnExactLightsHitRow.holds Tryz.pinned (OpenSpec.ofChange fnExactLightsHitWrong)

/-- 'laws.FnExactSuspectGroups': WHATEVER THE INPUT: true; the input reads as it did. -/
def fnExactSuspectGroupsSpec : ChangeSpec := { name := "fnExactSuspectGroups", fn := fun _ => fun
  | [d1, d2] => { results := [.lit (.bool true)], args := [d1, d2] }
  | _ => none }
def fnExactSuspectGroupsRow : OpenClaim := { program := "ytmkkdenhjfjmgaagreat", sum := "a83435871691ff1e3fcedf4557304e26aa4563f8bc691792aa5fd95e7d7e936f", func := "loop.example/g00897/laws.FnExactSuspectGroups", spec := "fnExactSuspectGroups", unfollowed := true, recurses := true, apart := false }
def FnExactSuspectGroupsSaid : Prop := fnExactSuspectGroupsRow.holds Tryz.pinned (OpenSpec.ofChange fnExactSuspectGroupsSpec)

/-- ITS FALSE NEIGHBOUR: 'it returns false'. Refute it at one input. -/
def fnExactSuspectGroupsWrong : ChangeSpec := { name := "fnExactSuspectGroups", fn := fun _ => fun
  | [d1, d2] => { results := [.lit (.bool false)], args := [d1, d2] }
  | _ => none }
def FnExactSuspectGroupsWrongFalsely : Prop := fnExactSuspectGroupsRow.holds Tryz.pinned (OpenSpec.ofChange fnExactSuspectGroupsWrong)

/-- 'laws.FnSuspects': WHATEVER THE INPUT: true; the input reads as it did. -/
def fnSuspectsSpec : ChangeSpec := { name := "fnSuspects", fn := fun _ => fun
  | [d] => { results := [.lit (.bool true)], args := [d] }
  | _ => none }
def fnSuspectsRow : OpenClaim := { program := "ytmkkdenhjfjmgaagreat", sum := "a83435871691ff1e3fcedf4557304e26aa4563f8bc691792aa5fd95e7d7e936f", func := "loop.example/g00897/laws.FnSuspects", spec := "fnSuspects", unfollowed := true, recurses := true, apart := false }
def FnSuspectsSaid : Prop := fnSuspectsRow.holds Tryz.pinned (OpenSpec.ofChange fnSuspectsSpec)

/-- ITS FALSE NEIGHBOUR: 'it returns false'. Refute it at one input. -/
def fnSuspectsWrong : ChangeSpec := { name := "fnSuspects", fn := fun _ => fun
  | [d] => { results := [.lit (.bool false)], args := [d] }
  | _ => none }
def FnSuspectsWrongFalsely : Prop := fnSuspectsRow.holds Tryz.pinned (OpenSpec.ofChange fnSuspectsWrong)

/-- 'laws.FnExactFewestFailures': WHATEVER THE INPUT: true; the input reads as it did. -/
def fnExactFewestFailuresSpec : ChangeSpec := { name := "fnExactFewestFailures", fn := fun _ => fun
  | [d1, d2] => { results := [.lit (.bool true)], args := [d1, d2] }
  | _ => none }
def fnExactFewestFailuresRow : OpenClaim := { program := "ytmkkdenhjfjmgaagreat", sum := "a83435871691ff1e3fcedf4557304e26aa4563f8bc691792aa5fd95e7d7e936f", func := "loop.example/g00897/laws.FnExactFewestFailures", spec := "fnExactFewestFailures", unfollowed := true, recurses := true, apart := false }
def FnExactFewestFailuresSaid : Prop := fnExactFewestFailuresRow.holds Tryz.pinned (OpenSpec.ofChange fnExactFewestFailuresSpec)

/-- ITS FALSE NEIGHBOUR: 'it returns false'. Refute it at one input. -/
def fnExactFewestFailuresWrong : ChangeSpec := { name := "fnExactFewestFailures", fn := fun _ => fun
  | [d1, d2] => { results := [.lit (.bool false)], args := [d1, d2] }
  | _ => none }
def FnExactFewestFailuresWrongFalsely : Prop := fnExactFewestFailuresRow.holds Tryz.pinned (OpenSpec.ofChange fnExactFewestFailuresWrong)

/-- 'laws.FnBursts': WHATEVER THE INPUT: true; the input reads as it did. -/
def fnBurstsSpec : ChangeSpec := { name := "fnBursts", fn := fun _ => fun
  | [d] => { results := [.lit (.bool true)], args := [d] }
  | _ => none }
def fnBurstsRow : OpenClaim := { program := "ytmkkdenhjfjmgaagreat", sum := "a83435871691ff1e3fcedf4557304e26aa4563f8bc691792aa5fd95e7d7e936f", func := "loop.example/g00897/laws.FnBursts", spec := "fnBursts", unfollowed := true, recurses := true, apart := false }
def FnBurstsSaid : Prop := fnBurstsRow.holds Tryz.pinned (OpenSpec.ofChange fnBurstsSpec)

/-- ITS FALSE NEIGHBOUR: 'it returns false'. Refute it at one input. -/
def fnBurstsWrong : ChangeSpec := { name := "fnBursts", fn := fun _ => fun
  | [d] => { results := [.lit (.bool false)], args := [d] }
  | _ => none }
def FnBurstsWrongFalsely : Prop := fnBurstsRow.holds Tryz.pinned (OpenSpec.ofChange fnBurstsWrong)

/-- 'laws.FnExactMinimalExplanations': WHATEVER THE INPUT: true; the input reads as it did. -/
def fnExactMinimalExplanationsSpec : ChangeSpec := { name := "fnExactMinimalExplanations", fn := fun _ => fun
  | [d1, d2] => { results := [.lit (.bool true)], args := [d1, d2] }
  | _ => none }
def fnExactMinimalExplanationsRow : OpenClaim := { program := "ytmkkdenhjfjmgaagreat", sum := "a83435871691ff1e3fcedf4557304e26aa4563f8bc691792aa5fd95e7d7e936f", func := "loop.example/g00897/laws.FnExactMinimalExplanations", spec := "fnExactMinimalExplanations", unfollowed := true, recurses := true, apart := false }
def FnExactMinimalExplanationsSaid : Prop := fnExactMinimalExplanationsRow.holds Tryz.pinned (OpenSpec.ofChange fnExactMinimalExplanationsSpec)

/-- ITS FALSE NEIGHBOUR: 'it returns false'. Refute it at one input. -/
def fnExactMinimalExplanationsWrong : ChangeSpec := { name := "fnExactMinimalExplanations", fn := fun _ => fun
  | [d1, d2] => { results := [.lit (.bool false)], args := [d1, d2] }
  | _ => none }
def FnExactMinimalExplanationsWrongFalsely : Prop := fnExactMinimalExplanationsRow.holds Tryz.pinned (OpenSpec.ofChange fnExactMinimalExplanationsWrong)

/-- 'laws.FnExactCertainGroups': WHATEVER THE INPUT: true; the input reads as it did. -/
def fnExactCertainGroupsSpec : ChangeSpec := { name := "fnExactCertainGroups", fn := fun _ => fun
  | [d1, d2] => { results := [.lit (.bool true)], args := [d1, d2] }
  | _ => none }
def fnExactCertainGroupsRow : OpenClaim := { program := "ytmkkdenhjfjmgaagreat", sum := "a83435871691ff1e3fcedf4557304e26aa4563f8bc691792aa5fd95e7d7e936f", func := "loop.example/g00897/laws.FnExactCertainGroups", spec := "fnExactCertainGroups", unfollowed := true, recurses := true, apart := false }
def FnExactCertainGroupsSaid : Prop := fnExactCertainGroupsRow.holds Tryz.pinned (OpenSpec.ofChange fnExactCertainGroupsSpec)

/-- ITS FALSE NEIGHBOUR: 'it returns false'. Refute it at one input. -/
def fnExactCertainGroupsWrong : ChangeSpec := { name := "fnExactCertainGroups", fn := fun _ => fun
  | [d1, d2] => { results := [.lit (.bool false)], args := [d1, d2] }
  | _ => none }
def FnExactCertainGroupsWrongFalsely : Prop := fnExactCertainGroupsRow.holds Tryz.pinned (OpenSpec.ofChange fnExactCertainGroupsWrong)

/-- 'laws.FnExplanations': WHATEVER THE INPUT: true; the input reads as it did. -/
def fnExplanationsSpec : ChangeSpec := { name := "fnExplanations", fn := fun _ => fun
  | [d] => { results := [.lit (.bool true)], args := [d] }
  | _ => none }
def fnExplanationsRow : OpenClaim := { program := "ytmkkdenhjfjmgaagreat", sum := "a83435871691ff1e3fcedf4557304e26aa4563f8bc691792aa5fd95e7d7e936f", func := "loop.example/g00897/laws.FnExplanations", spec := "fnExplanations", unfollowed := true, recurses := true, apart := false }
def FnExplanationsSaid : Prop := fnExplanationsRow.holds Tryz.pinned (OpenSpec.ofChange fnExplanationsSpec)

/-- ITS FALSE NEIGHBOUR: 'it returns false'. Refute it at one input. -/
def fnExplanationsWrong : ChangeSpec := { name := "fnExplanations", fn := fun _ => fun
  | [d] => { results := [.lit (.bool false)], args := [d] }
  | _ => none }
def FnExplanationsWrongFalsely : Prop := fnExplanationsRow.holds Tryz.pinned (OpenSpec.ofChange fnExplanationsWrong)

/-- 'laws.FnExactProbableCauses': WHATEVER THE INPUT: true; the input reads as it did. -/
def fnExactProbableCausesSpec : ChangeSpec := { name := "fnExactProbableCauses", fn := fun _ => fun
  | [d1, d2, d3] => { results := [.lit (.bool true)], args := [d1, d2, d3] }
  | _ => none }
def fnExactProbableCausesRow : OpenClaim := { program := "ytmkkdenhjfjmgaagreat", sum := "a83435871691ff1e3fcedf4557304e26aa4563f8bc691792aa5fd95e7d7e936f", func := "loop.example/g00897/laws.FnExactProbableCauses", spec := "fnExactProbableCauses", unfollowed := true, recurses := true, apart := false }
def FnExactProbableCausesSaid : Prop := fnExactProbableCausesRow.holds Tryz.pinned (OpenSpec.ofChange fnExactProbableCausesSpec)

/-- ITS FALSE NEIGHBOUR: 'it returns false'. Refute it at one input. -/
def fnExactProbableCausesWrong : ChangeSpec := { name := "fnExactProbableCauses", fn := fun _ => fun
  | [d1, d2, d3] => { results := [.lit (.bool false)], args := [d1, d2, d3] }
  | _ => none }
def FnExactProbableCausesWrongFalsely : Prop := fnExactProbableCausesRow.holds Tryz.pinned (OpenSpec.ofChange fnExactProbableCausesWrong)

/- THE SECOND FORM. 'bulk': how many values and letters a reading holds, each counted each time it is reached (what is shared counts as often as it is met; a slice's spare places count too). A statement '..UptoSaid' is the law's where the arguments, and the package variables that the reading takes, are together of bulk at most 1048576: NARROWER than '..Said'. Prove '..Said' where nothing that the law and all that it calls make is longer than what came in: it says more and counts as full. Else prove '..UptoSaid'. A law counts once. -/
mutual
def uptoBulk {H : Type} : DataW H → Nat
  | .lit (.string bytes) => bytes.length + 1
  | .lit _ => 1
  | .nil => 1
  | .ptr d => uptoBulk d + 1
  | .slice elems spare => uptoBulkAll elems + uptoBulkAll spare + 1
  | .agg parts => uptoBulkAll parts + 1
  | .iface _ d => uptoBulk d + 1
  | .map entries => uptoBulkEntries entries + 1
  | .held _ => 1
def uptoBulkAll {H : Type} : List (DataW H) → Nat
  | [] => 0
  | d :: r => uptoBulk d + uptoBulkAll r
def uptoBulkEntries {H : Type} : List (Lit × DataW H) → Nat
  | [] => 0
  | x :: r => uptoBulkEntry x + uptoBulkEntries r
def uptoBulkEntry {H : Type} : Lit × DataW H → Nat
  | (.string bytes, d) => bytes.length + uptoBulk d + 1
  | (_, d) => uptoBulk d + 1
 end
def uptoSmall : (H : Type) → List (DataW H) → Bool := fun _ ds => decide (uptoBulkAll ds ≤ 1048576)
def OpenSpec.upto (s : _root_.Go.ChangeSpec) : _root_.Go.OpenSpec := { _root_.Go.OpenSpec.ofChange s with cond := some uptoSmall }

/-- 'laws.FnExactDistinguishingLight', WHERE WHAT IT READS IS OF BULK AT MOST 1048576: true; the input reads as it did. -/
def fnExactDistinguishingLightUptoRow : OpenClaim := { program := "ytmkkdenhjfjmgaagreat", sum := "a83435871691ff1e3fcedf4557304e26aa4563f8bc691792aa5fd95e7d7e936f", func := "loop.example/g00897/laws.FnExactDistinguishingLight", spec := "fnExactDistinguishingLight", unfollowed := true, recurses := true, apart := false, narrowed := true }
def FnExactDistinguishingLightUptoSaid : Prop := fnExactDistinguishingLightUptoRow.holds Tryz.pinned (OpenSpec.upto fnExactDistinguishingLightSpec)

/-- 'laws.FnExactIsExplanation', WHERE WHAT IT READS IS OF BULK AT MOST 1048576: true; the input reads as it did. -/
def fnExactIsExplanationUptoRow : OpenClaim := { program := "ytmkkdenhjfjmgaagreat", sum := "a83435871691ff1e3fcedf4557304e26aa4563f8bc691792aa5fd95e7d7e936f", func := "loop.example/g00897/laws.FnExactIsExplanation", spec := "fnExactIsExplanation", unfollowed := true, recurses := true, apart := false, narrowed := true }
def FnExactIsExplanationUptoSaid : Prop := fnExactIsExplanationUptoRow.holds Tryz.pinned (OpenSpec.upto fnExactIsExplanationSpec)

/-- 'laws.FnExactLightsHit', WHERE WHAT IT READS IS OF BULK AT MOST 1048576: true; the input reads as it did. -/
def fnExactLightsHitUptoRow : OpenClaim := { program := "ytmkkdenhjfjmgaagreat", sum := "a83435871691ff1e3fcedf4557304e26aa4563f8bc691792aa5fd95e7d7e936f", func := "loop.example/g00897/laws.FnExactLightsHit", spec := "fnExactLightsHit", unfollowed := true, recurses := true, apart := false, narrowed := true }
def FnExactLightsHitUptoSaid : Prop := fnExactLightsHitUptoRow.holds Tryz.pinned (OpenSpec.upto fnExactLightsHitSpec)

/-- 'laws.FnExactSuspectGroups', WHERE WHAT IT READS IS OF BULK AT MOST 1048576: true; the input reads as it did. -/
def fnExactSuspectGroupsUptoRow : OpenClaim := { program := "ytmkkdenhjfjmgaagreat", sum := "a83435871691ff1e3fcedf4557304e26aa4563f8bc691792aa5fd95e7d7e936f", func := "loop.example/g00897/laws.FnExactSuspectGroups", spec := "fnExactSuspectGroups", unfollowed := true, recurses := true, apart := false, narrowed := true }
def FnExactSuspectGroupsUptoSaid : Prop := fnExactSuspectGroupsUptoRow.holds Tryz.pinned (OpenSpec.upto fnExactSuspectGroupsSpec)

/-- 'laws.FnSuspects', WHERE WHAT IT READS IS OF BULK AT MOST 1048576: true; the input reads as it did. -/
def fnSuspectsUptoRow : OpenClaim := { program := "ytmkkdenhjfjmgaagreat", sum := "a83435871691ff1e3fcedf4557304e26aa4563f8bc691792aa5fd95e7d7e936f", func := "loop.example/g00897/laws.FnSuspects", spec := "fnSuspects", unfollowed := true, recurses := true, apart := false, narrowed := true }
def FnSuspectsUptoSaid : Prop := fnSuspectsUptoRow.holds Tryz.pinned (OpenSpec.upto fnSuspectsSpec)

/-- 'laws.FnExactFewestFailures', WHERE WHAT IT READS IS OF BULK AT MOST 1048576: true; the input reads as it did. -/
def fnExactFewestFailuresUptoRow : OpenClaim := { program := "ytmkkdenhjfjmgaagreat", sum := "a83435871691ff1e3fcedf4557304e26aa4563f8bc691792aa5fd95e7d7e936f", func := "loop.example/g00897/laws.FnExactFewestFailures", spec := "fnExactFewestFailures", unfollowed := true, recurses := true, apart := false, narrowed := true }
def FnExactFewestFailuresUptoSaid : Prop := fnExactFewestFailuresUptoRow.holds Tryz.pinned (OpenSpec.upto fnExactFewestFailuresSpec)

/-- 'laws.FnBursts', WHERE WHAT IT READS IS OF BULK AT MOST 1048576: true; the input reads as it did. -/
def fnBurstsUptoRow : OpenClaim := { program := "ytmkkdenhjfjmgaagreat", sum := "a83435871691ff1e3fcedf4557304e26aa4563f8bc691792aa5fd95e7d7e936f", func := "loop.example/g00897/laws.FnBursts", spec := "fnBursts", unfollowed := true, recurses := true, apart := false, narrowed := true }
def FnBurstsUptoSaid : Prop := fnBurstsUptoRow.holds Tryz.pinned (OpenSpec.upto fnBurstsSpec)

/-- 'laws.FnExactMinimalExplanations', WHERE WHAT IT READS IS OF BULK AT MOST 1048576: true; the input reads as it did. -/
def fnExactMinimalExplanationsUptoRow : OpenClaim := { program := "ytmkkdenhjfjmgaagreat", sum := "a83435871691ff1e3fcedf4557304e26aa4563f8bc691792aa5fd95e7d7e936f", func := "loop.example/g00897/laws.FnExactMinimalExplanations", spec := "fnExactMinimalExplanations", unfollowed := true, recurses := true, apart := false, narrowed := true }
def FnExactMinimalExplanationsUptoSaid : Prop := fnExactMinimalExplanationsUptoRow.holds Tryz.pinned (OpenSpec.upto fnExactMinimalExplanationsSpec)

/-- 'laws.FnExactCertainGroups', WHERE WHAT IT READS IS OF BULK AT MOST 1048576: true; the input reads as it did. -/
def fnExactCertainGroupsUptoRow : OpenClaim := { program := "ytmkkdenhjfjmgaagreat", sum := "a83435871691ff1e3fcedf4557304e26aa4563f8bc691792aa5fd95e7d7e936f", func := "loop.example/g00897/laws.FnExactCertainGroups", spec := "fnExactCertainGroups", unfollowed := true, recurses := true, apart := false, narrowed := true }
def FnExactCertainGroupsUptoSaid : Prop := fnExactCertainGroupsUptoRow.holds Tryz.pinned (OpenSpec.upto fnExactCertainGroupsSpec)

/-- 'laws.FnExplanations', WHERE WHAT IT READS IS OF BULK AT MOST 1048576: true; the input reads as it did. -/
def fnExplanationsUptoRow : OpenClaim := { program := "ytmkkdenhjfjmgaagreat", sum := "a83435871691ff1e3fcedf4557304e26aa4563f8bc691792aa5fd95e7d7e936f", func := "loop.example/g00897/laws.FnExplanations", spec := "fnExplanations", unfollowed := true, recurses := true, apart := false, narrowed := true }
def FnExplanationsUptoSaid : Prop := fnExplanationsUptoRow.holds Tryz.pinned (OpenSpec.upto fnExplanationsSpec)

/-- 'laws.FnExactProbableCauses', WHERE WHAT IT READS IS OF BULK AT MOST 1048576: true; the input reads as it did. -/
def fnExactProbableCausesUptoRow : OpenClaim := { program := "ytmkkdenhjfjmgaagreat", sum := "a83435871691ff1e3fcedf4557304e26aa4563f8bc691792aa5fd95e7d7e936f", func := "loop.example/g00897/laws.FnExactProbableCauses", spec := "fnExactProbableCauses", unfollowed := true, recurses := true, apart := false, narrowed := true }
def FnExactProbableCausesUptoSaid : Prop := fnExactProbableCausesUptoRow.holds Tryz.pinned (OpenSpec.upto fnExactProbableCausesSpec)

end Rows
end Go.Proofs.YtmkkdenhjfjmgaaGreat
