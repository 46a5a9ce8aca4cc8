/-
  DERIVED. GIVEN WITH THE SEED: THE CARDS: each row of YtdlmlagcniifjaaGreatDoorRows.lean that lists a variable, with what it lists TIED to the program's text (the seventh form; the later family's looks); each row that meets fmt, with fmt's text TOLD by the authors' own Lean function (tested against real Go, not proved from fmt's source: count such statements apart). THE CARD IS WHAT COUNTS. Prove the row's statement (the work); the ties are given (YtdlmlagcniifjaaGreatDoorTie.lean); close each card by the builder's one call (the guide's Derived/Test/ToyasCard.lean, 'card_holds'). Laid BY PROGRAM, IN A SANDBOX (cutbox-door.mjs). By AI agents, Wed Nov 11 2026. No macro, syntax, notation, axiom, sorry.
-/
import Derived.Test.YtdlmlagcniifjaaGreatDoorRows
import GoSem.ClaimSeven
namespace Go.Proofs.YtdlmlagcniifjaaGreatDoor
namespace Rows

/-- THE TIED CARD OF 'laws.FnExactFilesNew'. -/
def fnExactFilesNewCard : Claim7 := { stood := { row := fnExactFilesNewRow, standIns := [], harness := (true, "ac2564768b3e3994ae7de93e089d2f8e78142bafe8ac2f1ca2e4634925f5c9d1"), looks := true }, kinds := [], alts := [], laidByText := true, laidKinds := [.data, .data, .data, .data, .sentinel, .sentinel, .pinned], laidTests := true, laidLooks := .later }
def FnExactFilesNewCardSaid : Prop := Claim7.holds Tryz.pinned (.plain (OpenSpec.ofChange fnExactFilesNewSpec)) fnExactFilesNewCard

/-- THE TIED CARD OF 'laws.FnExactTablePut'. -/
def fnExactTablePutCard : Claim7 := { stood := { row := fnExactTablePutRow, standIns := [], harness := (true, "ac2564768b3e3994ae7de93e089d2f8e78142bafe8ac2f1ca2e4634925f5c9d1"), looks := true }, kinds := [], alts := [], laidByText := true, laidKinds := [.data, .data, .data, .data, .sentinel, .sentinel, .pinned], laidTests := true, laidLooks := .later }
def FnExactTablePutCardSaid : Prop := Claim7.holds Tryz.pinned (.plain (OpenSpec.ofChange fnExactTablePutSpec)) fnExactTablePutCard

/-- THE SECOND FORM's CARD OF 'laws.FnExactFilesNew'. -/
def fnExactFilesNewUptoCard : Claim7 := { stood := { row := fnExactFilesNewUptoRow, standIns := [], harness := (true, "ac2564768b3e3994ae7de93e089d2f8e78142bafe8ac2f1ca2e4634925f5c9d1"), looks := true }, kinds := [], alts := [], laidByText := true, laidKinds := [.data, .data, .data, .data, .sentinel, .sentinel, .pinned], laidTests := true, laidLooks := .later }
def FnExactFilesNewUptoCardSaid : Prop := Claim7.holds Tryz.pinned (.plain (OpenSpec.upto fnExactFilesNewSpec)) fnExactFilesNewUptoCard

/-- THE SECOND FORM's CARD OF 'laws.FnExactTablePut'. -/
def fnExactTablePutUptoCard : Claim7 := { stood := { row := fnExactTablePutUptoRow, standIns := [], harness := (true, "ac2564768b3e3994ae7de93e089d2f8e78142bafe8ac2f1ca2e4634925f5c9d1"), looks := true }, kinds := [], alts := [], laidByText := true, laidKinds := [.data, .data, .data, .data, .sentinel, .sentinel, .pinned], laidTests := true, laidLooks := .later }
def FnExactTablePutUptoCardSaid : Prop := Claim7.holds Tryz.pinned (.plain (OpenSpec.upto fnExactTablePutSpec)) fnExactTablePutUptoCard
end Rows
end Go.Proofs.YtdlmlagcniifjaaGreatDoor
