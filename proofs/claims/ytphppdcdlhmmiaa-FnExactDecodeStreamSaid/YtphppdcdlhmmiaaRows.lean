/-
  No cell of these rows narrows 'for every input' (looked for: loops, veiled, ifaces, maps, wideKeys, modest, calm, conditions, laid).
  DERIVED. THE GIVEN ROWS OF THIS SEAT. 13 by the template 'for every input the law returns true; each argument reads behind the call as it read before'; 0 by the template 'total and deterministic' (their statements: YtphppdcdlhmmiaaTotals.lean).
  GIVEN WITH THE SEED: the statements are not yours to turn. If you find one false, say at which input.
  Laid BY PROGRAM, IN A SANDBOX (cutbox-rows.mjs): the forced cells as the released guide's own fill.sh prints them over the translation c8fa612b7036c4e6… (all of the seat's roots in one cut). By AI agents, Wed Nov 11 2026. No macro, syntax, notation, axiom, sorry.
-/
import Derived.Test.YtphppdcdlhmmiaaChecked
import GoSem.Claim
import GoSem.ClaimJoined
import GoSem.ClaimMapViews
import Derived.JoinedTies
import Derived.KernelRfl
namespace Go.Proofs.Ytphppdcdlhmmiaa
/- THE CELL 'sum', in the pinned program and in every row, IS THE sha256 OF THE DUMP (.gsa) THAT YtphppdcdlhmmiaaProg.lean LOADS. Nothing in Lean hashes anything: it is a label: what it is worth is what the hold of that sum in a sandbox is worth. -/
noncomputable def Try.pinned : Pinned := { name := "ytphppdcdlhmmiaa", sum := "c8fa612b7036c4e65e399e95debd1e4d24a01c127532054d609cd123baec5dc1", checked := Try.checked }
namespace Rows
def none {H : Type} : Left H := { results := [], args := [] }

/-- 'laws.FnExactMultiplySymbols': WHATEVER THE INPUT: true; the input reads as it did. -/
def fnExactMultiplySymbolsSpec : ChangeSpec := { name := "fnExactMultiplySymbols", fn := fun _ => fun
  | [d1, d2] => { results := [.lit (.bool true)], args := [d1, d2] }
  | _ => none }
def fnExactMultiplySymbolsRow : OpenClaim := { program := "ytphppdcdlhmmiaa", sum := "c8fa612b7036c4e65e399e95debd1e4d24a01c127532054d609cd123baec5dc1", func := "loop.example/g00897/laws.FnExactMultiplySymbols", spec := "fnExactMultiplySymbols", apart := false }
def FnExactMultiplySymbolsSaid : Prop := fnExactMultiplySymbolsRow.holds Try.pinned (OpenSpec.ofChange fnExactMultiplySymbolsSpec)

/-- ITS FALSE NEIGHBOUR: 'it returns false'. Refute it at one input. -/
def fnExactMultiplySymbolsWrong : ChangeSpec := { name := "fnExactMultiplySymbols", fn := fun _ => fun
  | [d1, d2] => { results := [.lit (.bool false)], args := [d1, d2] }
  | _ => none }
def FnExactMultiplySymbolsWrongFalsely : Prop := fnExactMultiplySymbolsRow.holds Try.pinned (OpenSpec.ofChange fnExactMultiplySymbolsWrong)

/-- 'laws.FnExactInverseSymbol': WHATEVER THE INPUT: true; the input reads as it did. -/
def fnExactInverseSymbolSpec : ChangeSpec := { name := "fnExactInverseSymbol", fn := fun _ => fun
  | [d] => { results := [.lit (.bool true)], args := [d] }
  | _ => none }
def fnExactInverseSymbolRow : OpenClaim := { program := "ytphppdcdlhmmiaa", sum := "c8fa612b7036c4e65e399e95debd1e4d24a01c127532054d609cd123baec5dc1", func := "loop.example/g00897/laws.FnExactInverseSymbol", spec := "fnExactInverseSymbol", apart := false }
def FnExactInverseSymbolSaid : Prop := fnExactInverseSymbolRow.holds Try.pinned (OpenSpec.ofChange fnExactInverseSymbolSpec)

/-- ITS FALSE NEIGHBOUR: 'it returns false'. Refute it at one input. -/
def fnExactInverseSymbolWrong : ChangeSpec := { name := "fnExactInverseSymbol", fn := fun _ => fun
  | [d] => { results := [.lit (.bool false)], args := [d] }
  | _ => none }
def FnExactInverseSymbolWrongFalsely : Prop := fnExactInverseSymbolRow.holds Try.pinned (OpenSpec.ofChange fnExactInverseSymbolWrong)

/-- 'laws.FnExactDeinterleaveSymbols': WHATEVER THE INPUT: true; the input reads as it did. -/
def fnExactDeinterleaveSymbolsSpec : ChangeSpec := { name := "fnExactDeinterleaveSymbols", fn := fun _ => fun
  | [d1, d2] => { results := [.lit (.bool true)], args := [d1, d2] }
  | _ => none }
def fnExactDeinterleaveSymbolsRow : OpenClaim := { program := "ytphppdcdlhmmiaa", sum := "c8fa612b7036c4e65e399e95debd1e4d24a01c127532054d609cd123baec5dc1", func := "loop.example/g00897/laws.FnExactDeinterleaveSymbols", spec := "fnExactDeinterleaveSymbols", unfollowed := true, recurses := true, apart := false }
def FnExactDeinterleaveSymbolsSaid : Prop := fnExactDeinterleaveSymbolsRow.holds Try.pinned (OpenSpec.ofChange fnExactDeinterleaveSymbolsSpec)

/-- ITS FALSE NEIGHBOUR: 'it returns false'. Refute it at one input. -/
def fnExactDeinterleaveSymbolsWrong : ChangeSpec := { name := "fnExactDeinterleaveSymbols", fn := fun _ => fun
  | [d1, d2] => { results := [.lit (.bool false)], args := [d1, d2] }
  | _ => none }
def FnExactDeinterleaveSymbolsWrongFalsely : Prop := fnExactDeinterleaveSymbolsRow.holds Try.pinned (OpenSpec.ofChange fnExactDeinterleaveSymbolsWrong)

/-- 'laws.FnExactInterleaveSymbols': WHATEVER THE INPUT: true; the input reads as it did. -/
def fnExactInterleaveSymbolsSpec : ChangeSpec := { name := "fnExactInterleaveSymbols", fn := fun _ => fun
  | [d1, d2] => { results := [.lit (.bool true)], args := [d1, d2] }
  | _ => none }
def fnExactInterleaveSymbolsRow : OpenClaim := { program := "ytphppdcdlhmmiaa", sum := "c8fa612b7036c4e65e399e95debd1e4d24a01c127532054d609cd123baec5dc1", func := "loop.example/g00897/laws.FnExactInterleaveSymbols", spec := "fnExactInterleaveSymbols", unfollowed := true, recurses := true, apart := false }
def FnExactInterleaveSymbolsSaid : Prop := fnExactInterleaveSymbolsRow.holds Try.pinned (OpenSpec.ofChange fnExactInterleaveSymbolsSpec)

/-- ITS FALSE NEIGHBOUR: 'it returns false'. Refute it at one input. -/
def fnExactInterleaveSymbolsWrong : ChangeSpec := { name := "fnExactInterleaveSymbols", fn := fun _ => fun
  | [d1, d2] => { results := [.lit (.bool false)], args := [d1, d2] }
  | _ => none }
def FnExactInterleaveSymbolsWrongFalsely : Prop := fnExactInterleaveSymbolsRow.holds Try.pinned (OpenSpec.ofChange fnExactInterleaveSymbolsWrong)

/-- 'laws.FnField': WHATEVER THE INPUT: true; the input reads as it did. -/
def fnFieldSpec : ChangeSpec := { name := "fnField", fn := fun _ => fun
  | [d] => { results := [.lit (.bool true)], args := [d] }
  | _ => none }
def fnFieldRow : OpenClaim := { program := "ytphppdcdlhmmiaa", sum := "c8fa612b7036c4e65e399e95debd1e4d24a01c127532054d609cd123baec5dc1", func := "loop.example/g00897/laws.FnField", spec := "fnField", apart := false }
def FnFieldSaid : Prop := fnFieldRow.holds Try.pinned (OpenSpec.ofChange fnFieldSpec)

/-- ITS FALSE NEIGHBOUR: 'it returns false'. Refute it at one input. -/
def fnFieldWrong : ChangeSpec := { name := "fnField", fn := fun _ => fun
  | [d] => { results := [.lit (.bool false)], args := [d] }
  | _ => none }
def FnFieldWrongFalsely : Prop := fnFieldRow.holds Try.pinned (OpenSpec.ofChange fnFieldWrong)

/-- 'laws.FnExactSyndromesOf': WHATEVER THE INPUT: true; the input reads as it did. -/
def fnExactSyndromesOfSpec : ChangeSpec := { name := "fnExactSyndromesOf", fn := fun _ => fun
  | [d] => { results := [.lit (.bool true)], args := [d] }
  | _ => none }
def fnExactSyndromesOfRow : OpenClaim := { program := "ytphppdcdlhmmiaa", sum := "c8fa612b7036c4e65e399e95debd1e4d24a01c127532054d609cd123baec5dc1", func := "loop.example/g00897/laws.FnExactSyndromesOf", spec := "fnExactSyndromesOf", unfollowed := true, recurses := true, apart := false }
def FnExactSyndromesOfSaid : Prop := fnExactSyndromesOfRow.holds Try.pinned (OpenSpec.ofChange fnExactSyndromesOfSpec)

/-- ITS FALSE NEIGHBOUR: 'it returns false'. Refute it at one input. -/
def fnExactSyndromesOfWrong : ChangeSpec := { name := "fnExactSyndromesOf", fn := fun _ => fun
  | [d] => { results := [.lit (.bool false)], args := [d] }
  | _ => none }
def FnExactSyndromesOfWrongFalsely : Prop := fnExactSyndromesOfRow.holds Try.pinned (OpenSpec.ofChange fnExactSyndromesOfWrong)

/-- 'laws.FnExactEncodeBlock': WHATEVER THE INPUT: true; the input reads as it did. -/
def fnExactEncodeBlockSpec : ChangeSpec := { name := "fnExactEncodeBlock", fn := fun _ => fun
  | [d] => { results := [.lit (.bool true)], args := [d] }
  | _ => none }
def fnExactEncodeBlockRow : OpenClaim := { program := "ytphppdcdlhmmiaa", sum := "c8fa612b7036c4e65e399e95debd1e4d24a01c127532054d609cd123baec5dc1", func := "loop.example/g00897/laws.FnExactEncodeBlock", spec := "fnExactEncodeBlock", unfollowed := true, recurses := true, apart := false }
def FnExactEncodeBlockSaid : Prop := fnExactEncodeBlockRow.holds Try.pinned (OpenSpec.ofChange fnExactEncodeBlockSpec)

/-- ITS FALSE NEIGHBOUR: 'it returns false'. Refute it at one input. -/
def fnExactEncodeBlockWrong : ChangeSpec := { name := "fnExactEncodeBlock", fn := fun _ => fun
  | [d] => { results := [.lit (.bool false)], args := [d] }
  | _ => none }
def FnExactEncodeBlockWrongFalsely : Prop := fnExactEncodeBlockRow.holds Try.pinned (OpenSpec.ofChange fnExactEncodeBlockWrong)

/-- 'laws.FnExactEraseBlock': WHATEVER THE INPUT: true; the input reads as it did. -/
def fnExactEraseBlockSpec : ChangeSpec := { name := "fnExactEraseBlock", fn := fun _ => fun
  | [d1, d2] => { results := [.lit (.bool true)], args := [d1, d2] }
  | _ => none }
def fnExactEraseBlockRow : OpenClaim := { program := "ytphppdcdlhmmiaa", sum := "c8fa612b7036c4e65e399e95debd1e4d24a01c127532054d609cd123baec5dc1", func := "loop.example/g00897/laws.FnExactEraseBlock", spec := "fnExactEraseBlock", unfollowed := true, recurses := true, apart := false }
def FnExactEraseBlockSaid : Prop := fnExactEraseBlockRow.holds Try.pinned (OpenSpec.ofChange fnExactEraseBlockSpec)

/-- ITS FALSE NEIGHBOUR: 'it returns false'. Refute it at one input. -/
def fnExactEraseBlockWrong : ChangeSpec := { name := "fnExactEraseBlock", fn := fun _ => fun
  | [d1, d2] => { results := [.lit (.bool false)], args := [d1, d2] }
  | _ => none }
def FnExactEraseBlockWrongFalsely : Prop := fnExactEraseBlockRow.holds Try.pinned (OpenSpec.ofChange fnExactEraseBlockWrong)

/-- 'laws.FnExactEncodeStream': WHATEVER THE INPUT: true; the input reads as it did. -/
def fnExactEncodeStreamSpec : ChangeSpec := { name := "fnExactEncodeStream", fn := fun _ => fun
  | [d] => { results := [.lit (.bool true)], args := [d] }
  | _ => none }
def fnExactEncodeStreamRow : OpenClaim := { program := "ytphppdcdlhmmiaa", sum := "c8fa612b7036c4e65e399e95debd1e4d24a01c127532054d609cd123baec5dc1", func := "loop.example/g00897/laws.FnExactEncodeStream", spec := "fnExactEncodeStream", unfollowed := true, recurses := true, apart := false }
def FnExactEncodeStreamSaid : Prop := fnExactEncodeStreamRow.holds Try.pinned (OpenSpec.ofChange fnExactEncodeStreamSpec)

/-- ITS FALSE NEIGHBOUR: 'it returns false'. Refute it at one input. -/
def fnExactEncodeStreamWrong : ChangeSpec := { name := "fnExactEncodeStream", fn := fun _ => fun
  | [d] => { results := [.lit (.bool false)], args := [d] }
  | _ => none }
def FnExactEncodeStreamWrongFalsely : Prop := fnExactEncodeStreamRow.holds Try.pinned (OpenSpec.ofChange fnExactEncodeStreamWrong)

/-- 'laws.FnExactDecodeBlock': WHATEVER THE INPUT: true; the input reads as it did. -/
def fnExactDecodeBlockSpec : ChangeSpec := { name := "fnExactDecodeBlock", fn := fun _ => fun
  | [d] => { results := [.lit (.bool true)], args := [d] }
  | _ => none }
def fnExactDecodeBlockRow : OpenClaim := { program := "ytphppdcdlhmmiaa", sum := "c8fa612b7036c4e65e399e95debd1e4d24a01c127532054d609cd123baec5dc1", func := "loop.example/g00897/laws.FnExactDecodeBlock", spec := "fnExactDecodeBlock", unfollowed := true, recurses := true, apart := false }
def FnExactDecodeBlockSaid : Prop := fnExactDecodeBlockRow.holds Try.pinned (OpenSpec.ofChange fnExactDecodeBlockSpec)

/-- ITS FALSE NEIGHBOUR: 'it returns false'. Refute it at one input. -/
def fnExactDecodeBlockWrong : ChangeSpec := { name := "fnExactDecodeBlock", fn := fun _ => fun
  | [d] => { results := [.lit (.bool false)], args := [d] }
  | _ => none }
def FnExactDecodeBlockWrongFalsely : Prop := fnExactDecodeBlockRow.holds Try.pinned (OpenSpec.ofChange fnExactDecodeBlockWrong)

/-- 'laws.FnExactDecodeStream': WHATEVER THE INPUT: true; the input reads as it did. -/
def fnExactDecodeStreamSpec : ChangeSpec := { name := "fnExactDecodeStream", fn := fun _ => fun
  | [d] => { results := [.lit (.bool true)], args := [d] }
  | _ => none }
def fnExactDecodeStreamRow : OpenClaim := { program := "ytphppdcdlhmmiaa", sum := "c8fa612b7036c4e65e399e95debd1e4d24a01c127532054d609cd123baec5dc1", func := "loop.example/g00897/laws.FnExactDecodeStream", spec := "fnExactDecodeStream", unfollowed := true, recurses := true, apart := false }
def FnExactDecodeStreamSaid : Prop := fnExactDecodeStreamRow.holds Try.pinned (OpenSpec.ofChange fnExactDecodeStreamSpec)

/-- ITS FALSE NEIGHBOUR: 'it returns false'. Refute it at one input. -/
def fnExactDecodeStreamWrong : ChangeSpec := { name := "fnExactDecodeStream", fn := fun _ => fun
  | [d] => { results := [.lit (.bool false)], args := [d] }
  | _ => none }
def FnExactDecodeStreamWrongFalsely : Prop := fnExactDecodeStreamRow.holds Try.pinned (OpenSpec.ofChange fnExactDecodeStreamWrong)

/-- 'laws.FnStreams': WHATEVER THE INPUT: true; the input reads as it did. -/
def fnStreamsSpec : ChangeSpec := { name := "fnStreams", fn := fun _ => fun
  | [d] => { results := [.lit (.bool true)], args := [d] }
  | _ => none }
def fnStreamsRow : OpenClaim := { program := "ytphppdcdlhmmiaa", sum := "c8fa612b7036c4e65e399e95debd1e4d24a01c127532054d609cd123baec5dc1", func := "loop.example/g00897/laws.FnStreams", spec := "fnStreams", unfollowed := true, recurses := true, apart := false }
def FnStreamsSaid : Prop := fnStreamsRow.holds Try.pinned (OpenSpec.ofChange fnStreamsSpec)

/-- ITS FALSE NEIGHBOUR: 'it returns false'. Refute it at one input. -/
def fnStreamsWrong : ChangeSpec := { name := "fnStreams", fn := fun _ => fun
  | [d] => { results := [.lit (.bool false)], args := [d] }
  | _ => none }
def FnStreamsWrongFalsely : Prop := fnStreamsRow.holds Try.pinned (OpenSpec.ofChange fnStreamsWrong)

/-- 'laws.FnCodes': WHATEVER THE INPUT: true; the input reads as it did. -/
def fnCodesSpec : ChangeSpec := { name := "fnCodes", fn := fun _ => fun
  | [d] => { results := [.lit (.bool true)], args := [d] }
  | _ => none }
def fnCodesRow : OpenClaim := { program := "ytphppdcdlhmmiaa", sum := "c8fa612b7036c4e65e399e95debd1e4d24a01c127532054d609cd123baec5dc1", func := "loop.example/g00897/laws.FnCodes", spec := "fnCodes", unfollowed := true, recurses := true, apart := false }
def FnCodesSaid : Prop := fnCodesRow.holds Try.pinned (OpenSpec.ofChange fnCodesSpec)

/-- ITS FALSE NEIGHBOUR: 'it returns false'. Refute it at one input. -/
def fnCodesWrong : ChangeSpec := { name := "fnCodes", fn := fun _ => fun
  | [d] => { results := [.lit (.bool false)], args := [d] }
  | _ => none }
def FnCodesWrongFalsely : Prop := fnCodesRow.holds Try.pinned (OpenSpec.ofChange fnCodesWrong)

/- THE SECOND FORM. 'bulk': how many values and letters a reading holds, each counted each time it is reached (what is shared counts as often as it is met; a slice's spare places count too). A statement '..UptoSaid' is the law's where the arguments, and the package variables that the reading takes, are together of bulk at most 1048576: NARROWER than '..Said'. Prove '..Said' where nothing that the law and all that it calls make is longer than what came in: it says more and counts as full. Else prove '..UptoSaid'. A law counts once. -/
mutual
def uptoBulk {H : Type} : DataW H → Nat
  | .lit (.string bytes) => bytes.length + 1
  | .lit _ => 1
  | .nil => 1
  | .ptr d => uptoBulk d + 1
  | .slice elems spare => uptoBulkAll elems + uptoBulkAll spare + 1
  | .agg parts => uptoBulkAll parts + 1
  | .iface _ d => uptoBulk d + 1
  | .map entries => uptoBulkEntries entries + 1
  | .held _ => 1
def uptoBulkAll {H : Type} : List (DataW H) → Nat
  | [] => 0
  | d :: r => uptoBulk d + uptoBulkAll r
def uptoBulkEntries {H : Type} : List (Lit × DataW H) → Nat
  | [] => 0
  | x :: r => uptoBulkEntry x + uptoBulkEntries r
def uptoBulkEntry {H : Type} : Lit × DataW H → Nat
  | (.string bytes, d) => bytes.length + uptoBulk d + 1
  | (_, d) => uptoBulk d + 1
 end
def uptoSmall : (H : Type) → List (DataW H) → Bool := fun _ ds => decide (uptoBulkAll ds ≤ 1048576)
def OpenSpec.upto (s : _root_.Go.ChangeSpec) : _root_.Go.OpenSpec := { _root_.Go.OpenSpec.ofChange s with cond := some uptoSmall }

/-- 'laws.FnExactMultiplySymbols', WHERE WHAT IT READS IS OF BULK AT MOST 1048576: true; the input reads as it did. -/
def fnExactMultiplySymbolsUptoRow : OpenClaim := { program := "ytphppdcdlhmmiaa", sum := "c8fa612b7036c4e65e399e95debd1e4d24a01c127532054d609cd123baec5dc1", func := "loop.example/g00897/laws.FnExactMultiplySymbols", spec := "fnExactMultiplySymbols", apart := false, narrowed := true }
def FnExactMultiplySymbolsUptoSaid : Prop := fnExactMultiplySymbolsUptoRow.holds Try.pinned (OpenSpec.upto fnExactMultiplySymbolsSpec)

/-- 'laws.FnExactInverseSymbol', WHERE WHAT IT READS IS OF BULK AT MOST 1048576: true; the input reads as it did. -/
def fnExactInverseSymbolUptoRow : OpenClaim := { program := "ytphppdcdlhmmiaa", sum := "c8fa612b7036c4e65e399e95debd1e4d24a01c127532054d609cd123baec5dc1", func := "loop.example/g00897/laws.FnExactInverseSymbol", spec := "fnExactInverseSymbol", apart := false, narrowed := true }
def FnExactInverseSymbolUptoSaid : Prop := fnExactInverseSymbolUptoRow.holds Try.pinned (OpenSpec.upto fnExactInverseSymbolSpec)

/-- 'laws.FnExactDeinterleaveSymbols', WHERE WHAT IT READS IS OF BULK AT MOST 1048576: true; the input reads as it did. -/
def fnExactDeinterleaveSymbolsUptoRow : OpenClaim := { program := "ytphppdcdlhmmiaa", sum := "c8fa612b7036c4e65e399e95debd1e4d24a01c127532054d609cd123baec5dc1", func := "loop.example/g00897/laws.FnExactDeinterleaveSymbols", spec := "fnExactDeinterleaveSymbols", unfollowed := true, recurses := true, apart := false, narrowed := true }
def FnExactDeinterleaveSymbolsUptoSaid : Prop := fnExactDeinterleaveSymbolsUptoRow.holds Try.pinned (OpenSpec.upto fnExactDeinterleaveSymbolsSpec)

/-- 'laws.FnExactInterleaveSymbols', WHERE WHAT IT READS IS OF BULK AT MOST 1048576: true; the input reads as it did. -/
def fnExactInterleaveSymbolsUptoRow : OpenClaim := { program := "ytphppdcdlhmmiaa", sum := "c8fa612b7036c4e65e399e95debd1e4d24a01c127532054d609cd123baec5dc1", func := "loop.example/g00897/laws.FnExactInterleaveSymbols", spec := "fnExactInterleaveSymbols", unfollowed := true, recurses := true, apart := false, narrowed := true }
def FnExactInterleaveSymbolsUptoSaid : Prop := fnExactInterleaveSymbolsUptoRow.holds Try.pinned (OpenSpec.upto fnExactInterleaveSymbolsSpec)

/-- 'laws.FnField', WHERE WHAT IT READS IS OF BULK AT MOST 1048576: true; the input reads as it did. -/
def fnFieldUptoRow : OpenClaim := { program := "ytphppdcdlhmmiaa", sum := "c8fa612b7036c4e65e399e95debd1e4d24a01c127532054d609cd123baec5dc1", func := "loop.example/g00897/laws.FnField", spec := "fnField", apart := false, narrowed := true }
def FnFieldUptoSaid : Prop := fnFieldUptoRow.holds Try.pinned (OpenSpec.upto fnFieldSpec)

/-- 'laws.FnExactSyndromesOf', WHERE WHAT IT READS IS OF BULK AT MOST 1048576: true; the input reads as it did. -/
def fnExactSyndromesOfUptoRow : OpenClaim := { program := "ytphppdcdlhmmiaa", sum := "c8fa612b7036c4e65e399e95debd1e4d24a01c127532054d609cd123baec5dc1", func := "loop.example/g00897/laws.FnExactSyndromesOf", spec := "fnExactSyndromesOf", unfollowed := true, recurses := true, apart := false, narrowed := true }
def FnExactSyndromesOfUptoSaid : Prop := fnExactSyndromesOfUptoRow.holds Try.pinned (OpenSpec.upto fnExactSyndromesOfSpec)

/-- 'laws.FnExactEncodeBlock', WHERE WHAT IT READS IS OF BULK AT MOST 1048576: true; the input reads as it did. -/
def fnExactEncodeBlockUptoRow : OpenClaim := { program := "ytphppdcdlhmmiaa", sum := "c8fa612b7036c4e65e399e95debd1e4d24a01c127532054d609cd123baec5dc1", func := "loop.example/g00897/laws.FnExactEncodeBlock", spec := "fnExactEncodeBlock", unfollowed := true, recurses := true, apart := false, narrowed := true }
def FnExactEncodeBlockUptoSaid : Prop := fnExactEncodeBlockUptoRow.holds Try.pinned (OpenSpec.upto fnExactEncodeBlockSpec)

/-- 'laws.FnExactEraseBlock', WHERE WHAT IT READS IS OF BULK AT MOST 1048576: true; the input reads as it did. -/
def fnExactEraseBlockUptoRow : OpenClaim := { program := "ytphppdcdlhmmiaa", sum := "c8fa612b7036c4e65e399e95debd1e4d24a01c127532054d609cd123baec5dc1", func := "loop.example/g00897/laws.FnExactEraseBlock", spec := "fnExactEraseBlock", unfollowed := true, recurses := true, apart := false, narrowed := true }
def FnExactEraseBlockUptoSaid : Prop := fnExactEraseBlockUptoRow.holds Try.pinned (OpenSpec.upto fnExactEraseBlockSpec)

/-- 'laws.FnExactEncodeStream', WHERE WHAT IT READS IS OF BULK AT MOST 1048576: true; the input reads as it did. -/
def fnExactEncodeStreamUptoRow : OpenClaim := { program := "ytphppdcdlhmmiaa", sum := "c8fa612b7036c4e65e399e95debd1e4d24a01c127532054d609cd123baec5dc1", func := "loop.example/g00897/laws.FnExactEncodeStream", spec := "fnExactEncodeStream", unfollowed := true, recurses := true, apart := false, narrowed := true }
def FnExactEncodeStreamUptoSaid : Prop := fnExactEncodeStreamUptoRow.holds Try.pinned (OpenSpec.upto fnExactEncodeStreamSpec)

/-- 'laws.FnExactDecodeBlock', WHERE WHAT IT READS IS OF BULK AT MOST 1048576: true; the input reads as it did. -/
def fnExactDecodeBlockUptoRow : OpenClaim := { program := "ytphppdcdlhmmiaa", sum := "c8fa612b7036c4e65e399e95debd1e4d24a01c127532054d609cd123baec5dc1", func := "loop.example/g00897/laws.FnExactDecodeBlock", spec := "fnExactDecodeBlock", unfollowed := true, recurses := true, apart := false, narrowed := true }
def FnExactDecodeBlockUptoSaid : Prop := fnExactDecodeBlockUptoRow.holds Try.pinned (OpenSpec.upto fnExactDecodeBlockSpec)

/-- 'laws.FnExactDecodeStream', WHERE WHAT IT READS IS OF BULK AT MOST 1048576: true; the input reads as it did. -/
def fnExactDecodeStreamUptoRow : OpenClaim := { program := "ytphppdcdlhmmiaa", sum := "c8fa612b7036c4e65e399e95debd1e4d24a01c127532054d609cd123baec5dc1", func := "loop.example/g00897/laws.FnExactDecodeStream", spec := "fnExactDecodeStream", unfollowed := true, recurses := true, apart := false, narrowed := true }
def FnExactDecodeStreamUptoSaid : Prop := fnExactDecodeStreamUptoRow.holds Try.pinned (OpenSpec.upto fnExactDecodeStreamSpec)

/-- 'laws.FnStreams', WHERE WHAT IT READS IS OF BULK AT MOST 1048576: true; the input reads as it did. -/
def fnStreamsUptoRow : OpenClaim := { program := "ytphppdcdlhmmiaa", sum := "c8fa612b7036c4e65e399e95debd1e4d24a01c127532054d609cd123baec5dc1", func := "loop.example/g00897/laws.FnStreams", spec := "fnStreams", unfollowed := true, recurses := true, apart := false, narrowed := true }
def FnStreamsUptoSaid : Prop := fnStreamsUptoRow.holds Try.pinned (OpenSpec.upto fnStreamsSpec)

/-- 'laws.FnCodes', WHERE WHAT IT READS IS OF BULK AT MOST 1048576: true; the input reads as it did. -/
def fnCodesUptoRow : OpenClaim := { program := "ytphppdcdlhmmiaa", sum := "c8fa612b7036c4e65e399e95debd1e4d24a01c127532054d609cd123baec5dc1", func := "loop.example/g00897/laws.FnCodes", spec := "fnCodes", unfollowed := true, recurses := true, apart := false, narrowed := true }
def FnCodesUptoSaid : Prop := fnCodesUptoRow.holds Try.pinned (OpenSpec.upto fnCodesSpec)

end Rows
end Go.Proofs.Ytphppdcdlhmmiaa
