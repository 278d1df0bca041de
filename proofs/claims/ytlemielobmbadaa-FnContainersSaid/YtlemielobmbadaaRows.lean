/-
  No cell of these rows narrows 'for every input' (looked for: loops, veiled, ifaces, maps, wideKeys, modest, calm, conditions, laid).
  DERIVED. THE GIVEN ROWS OF THIS SEAT. 6 by the template 'for every input the law returns true; each argument reads behind the call as it read before'; 0 by the template 'total and deterministic' (their statements: YtlemielobmbadaaTotals.lean).
  GIVEN WITH THE SEED: the statements are not yours to turn. If you find one false, say at which input.
  Laid BY PROGRAM, IN A SANDBOX (cutbox-rows.mjs): the forced cells as the released guide's own fill.sh prints them over the translation 5a6854afa87ab894… (all of the seat's roots in one cut). By AI agents, Wed Nov 11 2026. No macro, syntax, notation, axiom, sorry.
-/
import Derived.Test.YtlemielobmbadaaChecked
import GoSem.Claim
import GoSem.ClaimJoined
import GoSem.ClaimMapViews
import Derived.JoinedTies
import Derived.KernelRfl
namespace Go.Proofs.Ytlemielobmbadaa
/- THE CELL 'sum', in the pinned program and in every row, IS THE sha256 OF THE DUMP (.gsa) THAT YtlemielobmbadaaProg.lean LOADS. Nothing in Lean hashes anything: it is a label: what it is worth is what the hold of that sum in a sandbox is worth. -/
noncomputable def Try.pinned : Pinned := { name := "ytlemielobmbadaa", sum := "5a6854afa87ab894625d39bc19ffe789fceb67ca8984fb27dd4364335521b534", checked := Try.checked }
namespace Rows
def none {H : Type} : Left H := { results := [], args := [] }

/-- 'laws.FnStreams': WHATEVER THE INPUT: true; the input reads as it did. -/
def fnStreamsSpec : ChangeSpec := { name := "fnStreams", fn := fun _ => fun
  | [d] => { results := [.lit (.bool true)], args := [d] }
  | _ => none }
def fnStreamsRow : OpenClaim := { program := "ytlemielobmbadaa", sum := "5a6854afa87ab894625d39bc19ffe789fceb67ca8984fb27dd4364335521b534", func := "loop.example/g00897/laws.FnStreams", spec := "fnStreams", unfollowed := true, recurses := true, apart := false }
def FnStreamsSaid : Prop := fnStreamsRow.holds Try.pinned (OpenSpec.ofChange fnStreamsSpec)

/-- ITS FALSE NEIGHBOUR: 'it returns false'. Refute it at one input. -/
def fnStreamsWrong : ChangeSpec := { name := "fnStreams", fn := fun _ => fun
  | [d] => { results := [.lit (.bool false)], args := [d] }
  | _ => none }
def FnStreamsWrongFalsely : Prop := fnStreamsRow.holds Try.pinned (OpenSpec.ofChange fnStreamsWrong)

/-- 'laws.FnCodes': WHATEVER THE INPUT: true; the input reads as it did. -/
def fnCodesSpec : ChangeSpec := { name := "fnCodes", fn := fun _ => fun
  | [d] => { results := [.lit (.bool true)], args := [d] }
  | _ => none }
def fnCodesRow : OpenClaim := { program := "ytlemielobmbadaa", sum := "5a6854afa87ab894625d39bc19ffe789fceb67ca8984fb27dd4364335521b534", func := "loop.example/g00897/laws.FnCodes", spec := "fnCodes", unfollowed := true, recurses := true, apart := false }
def FnCodesSaid : Prop := fnCodesRow.holds Try.pinned (OpenSpec.ofChange fnCodesSpec)

/-- ITS FALSE NEIGHBOUR: 'it returns false'. Refute it at one input. -/
def fnCodesWrong : ChangeSpec := { name := "fnCodes", fn := fun _ => fun
  | [d] => { results := [.lit (.bool false)], args := [d] }
  | _ => none }
def FnCodesWrongFalsely : Prop := fnCodesRow.holds Try.pinned (OpenSpec.ofChange fnCodesWrong)

/-- 'laws.FnExactWriteContainers': WHATEVER THE INPUT: true; the input reads as it did. -/
def fnExactWriteContainersSpec : ChangeSpec := { name := "fnExactWriteContainers", fn := fun _ => fun
  | [d1, d2] => { results := [.lit (.bool true)], args := [d1, d2] }
  | _ => none }
def fnExactWriteContainersRow : OpenClaim := { program := "ytlemielobmbadaa", sum := "5a6854afa87ab894625d39bc19ffe789fceb67ca8984fb27dd4364335521b534", func := "loop.example/g00897/laws.FnExactWriteContainers", spec := "fnExactWriteContainers", unfollowed := true, recurses := true, apart := false }
def FnExactWriteContainersSaid : Prop := fnExactWriteContainersRow.holds Try.pinned (OpenSpec.ofChange fnExactWriteContainersSpec)

/-- ITS FALSE NEIGHBOUR: 'it returns false'. Refute it at one input. -/
def fnExactWriteContainersWrong : ChangeSpec := { name := "fnExactWriteContainers", fn := fun _ => fun
  | [d1, d2] => { results := [.lit (.bool false)], args := [d1, d2] }
  | _ => none }
def FnExactWriteContainersWrongFalsely : Prop := fnExactWriteContainersRow.holds Try.pinned (OpenSpec.ofChange fnExactWriteContainersWrong)

/-- 'laws.FnFrames': WHATEVER THE INPUT: true; the input reads as it did. -/
def fnFramesSpec : ChangeSpec := { name := "fnFrames", fn := fun _ => fun
  | [d] => { results := [.lit (.bool true)], args := [d] }
  | _ => none }
def fnFramesRow : OpenClaim := { program := "ytlemielobmbadaa", sum := "5a6854afa87ab894625d39bc19ffe789fceb67ca8984fb27dd4364335521b534", func := "loop.example/g00897/laws.FnFrames", spec := "fnFrames", unfollowed := true, recurses := true, apart := false }
def FnFramesSaid : Prop := fnFramesRow.holds Try.pinned (OpenSpec.ofChange fnFramesSpec)

/-- ITS FALSE NEIGHBOUR: 'it returns false'. Refute it at one input. -/
def fnFramesWrong : ChangeSpec := { name := "fnFrames", fn := fun _ => fun
  | [d] => { results := [.lit (.bool false)], args := [d] }
  | _ => none }
def FnFramesWrongFalsely : Prop := fnFramesRow.holds Try.pinned (OpenSpec.ofChange fnFramesWrong)

/-- 'laws.FnExactReadContainers': WHATEVER THE INPUT: true; the input reads as it did. -/
def fnExactReadContainersSpec : ChangeSpec := { name := "fnExactReadContainers", fn := fun _ => fun
  | [d] => { results := [.lit (.bool true)], args := [d] }
  | _ => none }
def fnExactReadContainersRow : OpenClaim := { program := "ytlemielobmbadaa", sum := "5a6854afa87ab894625d39bc19ffe789fceb67ca8984fb27dd4364335521b534", func := "loop.example/g00897/laws.FnExactReadContainers", spec := "fnExactReadContainers", unfollowed := true, recurses := true, apart := false }
def FnExactReadContainersSaid : Prop := fnExactReadContainersRow.holds Try.pinned (OpenSpec.ofChange fnExactReadContainersSpec)

/-- ITS FALSE NEIGHBOUR: 'it returns false'. Refute it at one input. -/
def fnExactReadContainersWrong : ChangeSpec := { name := "fnExactReadContainers", fn := fun _ => fun
  | [d] => { results := [.lit (.bool false)], args := [d] }
  | _ => none }
def FnExactReadContainersWrongFalsely : Prop := fnExactReadContainersRow.holds Try.pinned (OpenSpec.ofChange fnExactReadContainersWrong)

/-- 'laws.FnContainers': WHATEVER THE INPUT: true; the input reads as it did. -/
def fnContainersSpec : ChangeSpec := { name := "fnContainers", fn := fun _ => fun
  | [d] => { results := [.lit (.bool true)], args := [d] }
  | _ => none }
def fnContainersRow : OpenClaim := { program := "ytlemielobmbadaa", sum := "5a6854afa87ab894625d39bc19ffe789fceb67ca8984fb27dd4364335521b534", func := "loop.example/g00897/laws.FnContainers", spec := "fnContainers", unfollowed := true, recurses := true, apart := false }
def FnContainersSaid : Prop := fnContainersRow.holds Try.pinned (OpenSpec.ofChange fnContainersSpec)

/-- ITS FALSE NEIGHBOUR: 'it returns false'. Refute it at one input. -/
def fnContainersWrong : ChangeSpec := { name := "fnContainers", fn := fun _ => fun
  | [d] => { results := [.lit (.bool false)], args := [d] }
  | _ => none }
def FnContainersWrongFalsely : Prop := fnContainersRow.holds Try.pinned (OpenSpec.ofChange fnContainersWrong)

/- THE SECOND FORM. 'bulk': how many values and letters a reading holds, each counted each time it is reached (what is shared counts as often as it is met; a slice's spare places count too). A statement '..UptoSaid' is the law's where the arguments, and the package variables that the reading takes, are together of bulk at most 1048576: NARROWER than '..Said'. Prove '..Said' where nothing that the law and all that it calls make is longer than what came in: it says more and counts as full. Else prove '..UptoSaid'. A law counts once. -/
mutual
def uptoBulk {H : Type} : DataW H → Nat
  | .lit (.string bytes) => bytes.length + 1
  | .lit _ => 1
  | .nil => 1
  | .ptr d => uptoBulk d + 1
  | .slice elems spare => uptoBulkAll elems + uptoBulkAll spare + 1
  | .agg parts => uptoBulkAll parts + 1
  | .iface _ d => uptoBulk d + 1
  | .map entries => uptoBulkEntries entries + 1
  | .held _ => 1
def uptoBulkAll {H : Type} : List (DataW H) → Nat
  | [] => 0
  | d :: r => uptoBulk d + uptoBulkAll r
def uptoBulkEntries {H : Type} : List (Lit × DataW H) → Nat
  | [] => 0
  | x :: r => uptoBulkEntry x + uptoBulkEntries r
def uptoBulkEntry {H : Type} : Lit × DataW H → Nat
  | (.string bytes, d) => bytes.length + uptoBulk d + 1
  | (_, d) => uptoBulk d + 1
 end
def uptoSmall : (H : Type) → List (DataW H) → Bool := fun _ ds => decide (uptoBulkAll ds ≤ 1048576)
def OpenSpec.upto (s : _root_.Go.ChangeSpec) : _root_.Go.OpenSpec := { _root_.Go.OpenSpec.ofChange s with cond := some uptoSmall }

/-- 'laws.FnStreams', WHERE WHAT IT READS IS OF BULK AT MOST 1048576: true; the input reads as it did. -/
def fnStreamsUptoRow : OpenClaim := { program := "ytlemielobmbadaa", sum := "5a6854afa87ab894625d39bc19ffe789fceb67ca8984fb27dd4364335521b534", func := "loop.example/g00897/laws.FnStreams", spec := "fnStreams", unfollowed := true, recurses := true, apart := false, narrowed := true }
def FnStreamsUptoSaid : Prop := fnStreamsUptoRow.holds Try.pinned (OpenSpec.upto fnStreamsSpec)

/-- 'laws.FnCodes', WHERE WHAT IT READS IS OF BULK AT MOST 1048576: true; the input reads as it did. -/
def fnCodesUptoRow : OpenClaim := { program := "ytlemielobmbadaa", sum := "5a6854afa87ab894625d39bc19ffe789fceb67ca8984fb27dd4364335521b534", func := "loop.example/g00897/laws.FnCodes", spec := "fnCodes", unfollowed := true, recurses := true, apart := false, narrowed := true }
def FnCodesUptoSaid : Prop := fnCodesUptoRow.holds Try.pinned (OpenSpec.upto fnCodesSpec)

/-- 'laws.FnExactWriteContainers', WHERE WHAT IT READS IS OF BULK AT MOST 1048576: true; the input reads as it did. -/
def fnExactWriteContainersUptoRow : OpenClaim := { program := "ytlemielobmbadaa", sum := "5a6854afa87ab894625d39bc19ffe789fceb67ca8984fb27dd4364335521b534", func := "loop.example/g00897/laws.FnExactWriteContainers", spec := "fnExactWriteContainers", unfollowed := true, recurses := true, apart := false, narrowed := true }
def FnExactWriteContainersUptoSaid : Prop := fnExactWriteContainersUptoRow.holds Try.pinned (OpenSpec.upto fnExactWriteContainersSpec)

/-- 'laws.FnFrames', WHERE WHAT IT READS IS OF BULK AT MOST 1048576: true; the input reads as it did. -/
def fnFramesUptoRow : OpenClaim := { program := "ytlemielobmbadaa", sum := "5a6854afa87ab894625d39bc19ffe789fceb67ca8984fb27dd4364335521b534", func := "loop.example/g00897/laws.FnFrames", spec := "fnFrames", unfollowed := true, recurses := true, apart := false, narrowed := true }
def FnFramesUptoSaid : Prop := fnFramesUptoRow.holds Try.pinned (OpenSpec.upto fnFramesSpec)

/-- 'laws.FnExactReadContainers', WHERE WHAT IT READS IS OF BULK AT MOST 1048576: true; the input reads as it did. -/
def fnExactReadContainersUptoRow : OpenClaim := { program := "ytlemielobmbadaa", sum := "5a6854afa87ab894625d39bc19ffe789fceb67ca8984fb27dd4364335521b534", func := "loop.example/g00897/laws.FnExactReadContainers", spec := "fnExactReadContainers", unfollowed := true, recurses := true, apart := false, narrowed := true }
def FnExactReadContainersUptoSaid : Prop := fnExactReadContainersUptoRow.holds Try.pinned (OpenSpec.upto fnExactReadContainersSpec)

/-- 'laws.FnContainers', WHERE WHAT IT READS IS OF BULK AT MOST 1048576: true; the input reads as it did. -/
def fnContainersUptoRow : OpenClaim := { program := "ytlemielobmbadaa", sum := "5a6854afa87ab894625d39bc19ffe789fceb67ca8984fb27dd4364335521b534", func := "loop.example/g00897/laws.FnContainers", spec := "fnContainers", unfollowed := true, recurses := true, apart := false, narrowed := true }
def FnContainersUptoSaid : Prop := fnContainersUptoRow.holds Try.pinned (OpenSpec.upto fnContainersSpec)

end Rows
end Go.Proofs.Ytlemielobmbadaa
