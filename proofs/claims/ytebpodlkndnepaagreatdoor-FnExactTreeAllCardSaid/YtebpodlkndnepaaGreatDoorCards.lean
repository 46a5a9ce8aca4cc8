/-
  DERIVED. GIVEN WITH THE SEED: THE CARDS: each row of YtebpodlkndnepaaGreatDoorRows.lean that lists a variable, with what it lists TIED to the program's text (the seventh form; the later family's looks); each row that meets fmt, with fmt's text TOLD by the authors' own Lean function (tested against real Go, not proved from fmt's source: count such statements apart). THE CARD IS WHAT COUNTS. Prove the row's statement (the work); the ties are given (YtebpodlkndnepaaGreatDoorTie.lean); close each card by the builder's one call (the guide's Derived/Test/ToyasCard.lean, 'card_holds'). Laid BY PROGRAM, IN A SANDBOX (cutbox-door.mjs). By AI agents, Wed Nov 11 2026. No macro, syntax, notation, axiom, sorry.
-/
import Derived.Test.YtebpodlkndnepaaGreatDoorRows
import GoSem.ClaimSeven
namespace Go.Proofs.YtebpodlkndnepaaGreatDoor
namespace Rows

/-- THE TIED CARD OF 'laws.FnExactTreeAll'. -/
def fnExactTreeAllCard : Claim7 := { stood := { row := fnExactTreeAllRow, standIns := [], harness := (true, "9bdb22108ed3ecdc9ca809764ef855af3ae891968d0017f85c2dfda7d1701ec0"), looks := true }, kinds := [], alts := [], laidByText := true, laidKinds := [.data, .data, .data, .data, .sentinel, .sentinel, .pinned], laidTests := true, laidLooks := .later }
def FnExactTreeAllCardSaid : Prop := Claim7.holds Tryz.pinned (.plain (OpenSpec.ofChange fnExactTreeAllSpec)) fnExactTreeAllCard

/-- THE TIED CARD OF 'laws.FnExactTreeCut'. -/
def fnExactTreeCutCard : Claim7 := { stood := { row := fnExactTreeCutRow, standIns := [], harness := (true, "9bdb22108ed3ecdc9ca809764ef855af3ae891968d0017f85c2dfda7d1701ec0"), looks := true }, kinds := [], alts := [], laidByText := true, laidKinds := [.data, .data, .data, .data, .sentinel, .sentinel, .pinned], laidTests := true, laidLooks := .later }
def FnExactTreeCutCardSaid : Prop := Claim7.holds Tryz.pinned (.plain (OpenSpec.ofChange fnExactTreeCutSpec)) fnExactTreeCutCard

/-- THE TIED CARD OF 'laws.FnExactTreePut'. -/
def fnExactTreePutCard : Claim7 := { stood := { row := fnExactTreePutRow, standIns := [], harness := (true, "9bdb22108ed3ecdc9ca809764ef855af3ae891968d0017f85c2dfda7d1701ec0"), looks := true }, kinds := [], alts := [], laidByText := true, laidKinds := [.data, .data, .data, .data, .sentinel, .sentinel, .pinned], laidTests := true, laidLooks := .later }
def FnExactTreePutCardSaid : Prop := Claim7.holds Tryz.pinned (.plain (OpenSpec.ofChange fnExactTreePutSpec)) fnExactTreePutCard

/-- THE TIED CARD OF 'laws.FnExactBlobPut'. -/
def fnExactBlobPutCard : Claim7 := { stood := { row := fnExactBlobPutRow, standIns := [], harness := (true, "9bdb22108ed3ecdc9ca809764ef855af3ae891968d0017f85c2dfda7d1701ec0"), looks := true }, kinds := [], alts := [], laidByText := true, laidKinds := [.data, .data, .data, .data, .sentinel, .sentinel, .pinned], laidTests := true, laidLooks := .later }
def FnExactBlobPutCardSaid : Prop := Claim7.holds Tryz.pinned (.plain (OpenSpec.ofChange fnExactBlobPutSpec)) fnExactBlobPutCard

/-- THE SECOND FORM's CARD OF 'laws.FnExactTreeAll'. -/
def fnExactTreeAllUptoCard : Claim7 := { stood := { row := fnExactTreeAllUptoRow, standIns := [], harness := (true, "9bdb22108ed3ecdc9ca809764ef855af3ae891968d0017f85c2dfda7d1701ec0"), looks := true }, kinds := [], alts := [], laidByText := true, laidKinds := [.data, .data, .data, .data, .sentinel, .sentinel, .pinned], laidTests := true, laidLooks := .later }
def FnExactTreeAllUptoCardSaid : Prop := Claim7.holds Tryz.pinned (.plain (OpenSpec.upto fnExactTreeAllSpec)) fnExactTreeAllUptoCard

/-- THE SECOND FORM's CARD OF 'laws.FnExactTreeCut'. -/
def fnExactTreeCutUptoCard : Claim7 := { stood := { row := fnExactTreeCutUptoRow, standIns := [], harness := (true, "9bdb22108ed3ecdc9ca809764ef855af3ae891968d0017f85c2dfda7d1701ec0"), looks := true }, kinds := [], alts := [], laidByText := true, laidKinds := [.data, .data, .data, .data, .sentinel, .sentinel, .pinned], laidTests := true, laidLooks := .later }
def FnExactTreeCutUptoCardSaid : Prop := Claim7.holds Tryz.pinned (.plain (OpenSpec.upto fnExactTreeCutSpec)) fnExactTreeCutUptoCard

/-- THE SECOND FORM's CARD OF 'laws.FnExactTreePut'. -/
def fnExactTreePutUptoCard : Claim7 := { stood := { row := fnExactTreePutUptoRow, standIns := [], harness := (true, "9bdb22108ed3ecdc9ca809764ef855af3ae891968d0017f85c2dfda7d1701ec0"), looks := true }, kinds := [], alts := [], laidByText := true, laidKinds := [.data, .data, .data, .data, .sentinel, .sentinel, .pinned], laidTests := true, laidLooks := .later }
def FnExactTreePutUptoCardSaid : Prop := Claim7.holds Tryz.pinned (.plain (OpenSpec.upto fnExactTreePutSpec)) fnExactTreePutUptoCard

/-- THE SECOND FORM's CARD OF 'laws.FnExactBlobPut'. -/
def fnExactBlobPutUptoCard : Claim7 := { stood := { row := fnExactBlobPutUptoRow, standIns := [], harness := (true, "9bdb22108ed3ecdc9ca809764ef855af3ae891968d0017f85c2dfda7d1701ec0"), looks := true }, kinds := [], alts := [], laidByText := true, laidKinds := [.data, .data, .data, .data, .sentinel, .sentinel, .pinned], laidTests := true, laidLooks := .later }
def FnExactBlobPutUptoCardSaid : Prop := Claim7.holds Tryz.pinned (.plain (OpenSpec.upto fnExactBlobPutSpec)) fnExactBlobPutUptoCard
end Rows
end Go.Proofs.YtebpodlkndnepaaGreatDoor
