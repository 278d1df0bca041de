/-
  DERIVED. GIVEN WITH THE SEED: THE CARDS: each row of YtonpcgdnfclidaaGreatDoorRows.lean that lists a variable, with what it lists TIED to the program's text (the seventh form; the later family's looks); each row that meets fmt, with fmt's text TOLD by the authors' own Lean function (tested against real Go, not proved from fmt's source: count such statements apart). THE CARD IS WHAT COUNTS. Prove the row's statement (the work); the ties are given (YtonpcgdnfclidaaGreatDoorTie.lean); close each card by the builder's one call (the guide's Derived/Test/ToyasCard.lean, 'card_holds'). Laid BY PROGRAM, IN A SANDBOX (cutbox-door.mjs). By AI agents, Wed Nov 11 2026. No macro, syntax, notation, axiom, sorry.
-/
import Derived.Test.YtonpcgdnfclidaaGreatDoorRows
import GoSem.ClaimSeven
namespace Go.Proofs.YtonpcgdnfclidaaGreatDoor
namespace Rows

/-- THE TIED CARD OF 'laws.FnExactIsValidConsole'. -/
def fnExactIsValidConsoleCard : Claim7 := { stood := { row := fnExactIsValidConsoleRow, standIns := [], harness := (true, "f62960f3eef48a3b0960c8c36c3472d1cd5b4b82e0fab72b7d1e5613cab1800d"), looks := false }, kinds := [], alts := [], laidByText := true, laidKinds := [.data, .data, .data], laidTests := true, laidLooks := .later }
def FnExactIsValidConsoleCardSaid : Prop := Claim7.holds Tryz.pinned (.plain (OpenSpec.ofChange fnExactIsValidConsoleSpec)) fnExactIsValidConsoleCard

/-- THE TIED CARD OF 'laws.FnExactNewConsole'. -/
def fnExactNewConsoleCard : Claim7 := { stood := { row := fnExactNewConsoleRow, standIns := [], harness := (true, "f62960f3eef48a3b0960c8c36c3472d1cd5b4b82e0fab72b7d1e5613cab1800d"), looks := false }, kinds := [], alts := [], laidByText := true, laidKinds := [.data, .data, .data], laidTests := true, laidLooks := .later }
def FnExactNewConsoleCardSaid : Prop := Claim7.holds Tryz.pinned (.plain (OpenSpec.ofChange fnExactNewConsoleSpec)) fnExactNewConsoleCard

/-- THE TIED CARD OF 'laws.FnExactFormatConsole'. -/
def fnExactFormatConsoleCard : Claim7 := { stood := { row := fnExactFormatConsoleRow, standIns := [], harness := (true, "f62960f3eef48a3b0960c8c36c3472d1cd5b4b82e0fab72b7d1e5613cab1800d"), looks := false }, kinds := [], alts := [], laidByText := true, laidKinds := [.data, .data, .data], laidTests := true, laidLooks := .later }
def FnExactFormatConsoleCardSaid : Prop := Claim7.holds Tryz.pinned (.plain (OpenSpec.ofChange fnExactFormatConsoleSpec)) fnExactFormatConsoleCard

/-- THE SECOND FORM's CARD OF 'laws.FnExactIsValidConsole'. -/
def fnExactIsValidConsoleUptoCard : Claim7 := { stood := { row := fnExactIsValidConsoleUptoRow, standIns := [], harness := (true, "f62960f3eef48a3b0960c8c36c3472d1cd5b4b82e0fab72b7d1e5613cab1800d"), looks := false }, kinds := [], alts := [], laidByText := true, laidKinds := [.data, .data, .data], laidTests := true, laidLooks := .later }
def FnExactIsValidConsoleUptoCardSaid : Prop := Claim7.holds Tryz.pinned (.plain (OpenSpec.upto fnExactIsValidConsoleSpec)) fnExactIsValidConsoleUptoCard

/-- THE SECOND FORM's CARD OF 'laws.FnExactNewConsole'. -/
def fnExactNewConsoleUptoCard : Claim7 := { stood := { row := fnExactNewConsoleUptoRow, standIns := [], harness := (true, "f62960f3eef48a3b0960c8c36c3472d1cd5b4b82e0fab72b7d1e5613cab1800d"), looks := false }, kinds := [], alts := [], laidByText := true, laidKinds := [.data, .data, .data], laidTests := true, laidLooks := .later }
def FnExactNewConsoleUptoCardSaid : Prop := Claim7.holds Tryz.pinned (.plain (OpenSpec.upto fnExactNewConsoleSpec)) fnExactNewConsoleUptoCard

/-- THE SECOND FORM's CARD OF 'laws.FnExactFormatConsole'. -/
def fnExactFormatConsoleUptoCard : Claim7 := { stood := { row := fnExactFormatConsoleUptoRow, standIns := [], harness := (true, "f62960f3eef48a3b0960c8c36c3472d1cd5b4b82e0fab72b7d1e5613cab1800d"), looks := false }, kinds := [], alts := [], laidByText := true, laidKinds := [.data, .data, .data], laidTests := true, laidLooks := .later }
def FnExactFormatConsoleUptoCardSaid : Prop := Claim7.holds Tryz.pinned (.plain (OpenSpec.upto fnExactFormatConsoleSpec)) fnExactFormatConsoleUptoCard
end Rows
end Go.Proofs.YtonpcgdnfclidaaGreatDoor
