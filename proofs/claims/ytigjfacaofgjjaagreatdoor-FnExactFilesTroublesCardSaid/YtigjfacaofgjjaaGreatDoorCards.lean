/-
  DERIVED. GIVEN WITH THE SEED: THE CARDS: each row of YtigjfacaofgjjaaGreatDoorRows.lean that lists a variable, with what it lists TIED to the program's text (the seventh form; the later family's looks); each row that meets fmt, with fmt's text TOLD by the authors' own Lean function (tested against real Go, not proved from fmt's source: count such statements apart). THE CARD IS WHAT COUNTS. Prove the row's statement (the work); the ties are given (YtigjfacaofgjjaaGreatDoorTie.lean); close each card by the builder's one call (the guide's Derived/Test/ToyasCard.lean, 'card_holds'). Laid BY PROGRAM, IN A SANDBOX (cutbox-door.mjs). By AI agents, Wed Nov 11 2026. No macro, syntax, notation, axiom, sorry.
-/
import Derived.Test.YtigjfacaofgjjaaGreatDoorRows
import GoSem.ClaimSeven
namespace Go.Proofs.YtigjfacaofgjjaaGreatDoor
namespace Rows

/-- THE TIED CARD OF 'laws.FnExactFilesWalk'. -/
def fnExactFilesWalkCard : Claim7 := { stood := { row := fnExactFilesWalkRow, standIns := [], harness := (true, "d0b77c6ce8f50b7adfba57ec2d625a2e9372476ce9ca810343aa0b3fc425fe1f"), looks := true }, kinds := [], alts := [], laidByText := true, laidKinds := [.data, .data, .data, .data, .sentinel, .sentinel, .pinned], laidTests := true, laidLooks := .later }
def FnExactFilesWalkCardSaid : Prop := Claim7.holds Tryz.pinned (.plain (OpenSpec.ofChange fnExactFilesWalkSpec)) fnExactFilesWalkCard

/-- THE TIED CARD OF 'laws.FnExactFilesFind'. -/
def fnExactFilesFindCard : Claim7 := { stood := { row := fnExactFilesFindRow, standIns := [], harness := (true, "d0b77c6ce8f50b7adfba57ec2d625a2e9372476ce9ca810343aa0b3fc425fe1f"), looks := true }, kinds := [], alts := [], laidByText := true, laidKinds := [.data, .data, .data, .data, .sentinel, .sentinel, .pinned], laidTests := true, laidLooks := .later }
def FnExactFilesFindCardSaid : Prop := Claim7.holds Tryz.pinned (.plain (OpenSpec.ofChange fnExactFilesFindSpec)) fnExactFilesFindCard

/-- THE TIED CARD OF 'laws.FnExactFilesText'. -/
def fnExactFilesTextCard : Claim7 := { stood := { row := fnExactFilesTextRow, standIns := [], harness := (true, "d0b77c6ce8f50b7adfba57ec2d625a2e9372476ce9ca810343aa0b3fc425fe1f"), looks := true }, kinds := [], alts := [], laidByText := true, laidKinds := [.data, .data, .data, .data, .sentinel, .sentinel, .pinned], laidTests := true, laidLooks := .later }
def FnExactFilesTextCardSaid : Prop := Claim7.holds Tryz.pinned (.plain (OpenSpec.ofChange fnExactFilesTextSpec)) fnExactFilesTextCard

/-- THE TIED CARD OF 'laws.FnExactFilesList'. -/
def fnExactFilesListCard : Claim7 := { stood := { row := fnExactFilesListRow, standIns := [], harness := (true, "d0b77c6ce8f50b7adfba57ec2d625a2e9372476ce9ca810343aa0b3fc425fe1f"), looks := true }, kinds := [], alts := [], laidByText := true, laidKinds := [.data, .data, .data, .data, .sentinel, .sentinel, .pinned], laidTests := true, laidLooks := .later }
def FnExactFilesListCardSaid : Prop := Claim7.holds Tryz.pinned (.plain (OpenSpec.ofChange fnExactFilesListSpec)) fnExactFilesListCard

/-- THE TIED CARD OF 'laws.FnExactFilesNew'. -/
def fnExactFilesNewCard : Claim7 := { stood := { row := fnExactFilesNewRow, standIns := [], harness := (true, "d0b77c6ce8f50b7adfba57ec2d625a2e9372476ce9ca810343aa0b3fc425fe1f"), looks := true }, kinds := [], alts := [], laidByText := true, laidKinds := [.data, .data, .data, .data, .sentinel, .sentinel, .pinned], laidTests := true, laidLooks := .later }
def FnExactFilesNewCardSaid : Prop := Claim7.holds Tryz.pinned (.plain (OpenSpec.ofChange fnExactFilesNewSpec)) fnExactFilesNewCard

/-- THE TIED CARD OF 'laws.FnExactTablePut'. -/
def fnExactTablePutCard : Claim7 := { stood := { row := fnExactTablePutRow, standIns := [], harness := (true, "d0b77c6ce8f50b7adfba57ec2d625a2e9372476ce9ca810343aa0b3fc425fe1f"), looks := true }, kinds := [], alts := [], laidByText := true, laidKinds := [.data, .data, .data, .data, .sentinel, .sentinel, .pinned], laidTests := true, laidLooks := .later }
def FnExactTablePutCardSaid : Prop := Claim7.holds Tryz.pinned (.plain (OpenSpec.ofChange fnExactTablePutSpec)) fnExactTablePutCard

/-- THE TIED CARD OF 'laws.FnExactFilesKept'. -/
def fnExactFilesKeptCard : Claim7 := { stood := { row := fnExactFilesKeptRow, standIns := [], harness := (true, "d0b77c6ce8f50b7adfba57ec2d625a2e9372476ce9ca810343aa0b3fc425fe1f"), looks := true }, kinds := [], alts := [], laidByText := true, laidKinds := [.data, .data, .data, .data, .sentinel, .sentinel, .pinned], laidTests := true, laidLooks := .later }
def FnExactFilesKeptCardSaid : Prop := Claim7.holds Tryz.pinned (.plain (OpenSpec.ofChange fnExactFilesKeptSpec)) fnExactFilesKeptCard

/-- THE TIED CARD OF 'laws.FnExactFilesTroubles'. -/
def fnExactFilesTroublesCard : Claim7 := { stood := { row := fnExactFilesTroublesRow, standIns := [], harness := (true, "d0b77c6ce8f50b7adfba57ec2d625a2e9372476ce9ca810343aa0b3fc425fe1f"), looks := true }, kinds := [], alts := [], laidByText := true, laidKinds := [.data, .data, .data, .data, .sentinel, .sentinel, .pinned], laidTests := true, laidLooks := .later }
def FnExactFilesTroublesCardSaid : Prop := Claim7.holds Tryz.pinned (.plain (OpenSpec.ofChange fnExactFilesTroublesSpec)) fnExactFilesTroublesCard

/-- THE SECOND FORM's CARD OF 'laws.FnExactFilesWalk'. -/
def fnExactFilesWalkUptoCard : Claim7 := { stood := { row := fnExactFilesWalkUptoRow, standIns := [], harness := (true, "d0b77c6ce8f50b7adfba57ec2d625a2e9372476ce9ca810343aa0b3fc425fe1f"), looks := true }, kinds := [], alts := [], laidByText := true, laidKinds := [.data, .data, .data, .data, .sentinel, .sentinel, .pinned], laidTests := true, laidLooks := .later }
def FnExactFilesWalkUptoCardSaid : Prop := Claim7.holds Tryz.pinned (.plain (OpenSpec.upto fnExactFilesWalkSpec)) fnExactFilesWalkUptoCard

/-- THE SECOND FORM's CARD OF 'laws.FnExactFilesFind'. -/
def fnExactFilesFindUptoCard : Claim7 := { stood := { row := fnExactFilesFindUptoRow, standIns := [], harness := (true, "d0b77c6ce8f50b7adfba57ec2d625a2e9372476ce9ca810343aa0b3fc425fe1f"), looks := true }, kinds := [], alts := [], laidByText := true, laidKinds := [.data, .data, .data, .data, .sentinel, .sentinel, .pinned], laidTests := true, laidLooks := .later }
def FnExactFilesFindUptoCardSaid : Prop := Claim7.holds Tryz.pinned (.plain (OpenSpec.upto fnExactFilesFindSpec)) fnExactFilesFindUptoCard

/-- THE SECOND FORM's CARD OF 'laws.FnExactFilesText'. -/
def fnExactFilesTextUptoCard : Claim7 := { stood := { row := fnExactFilesTextUptoRow, standIns := [], harness := (true, "d0b77c6ce8f50b7adfba57ec2d625a2e9372476ce9ca810343aa0b3fc425fe1f"), looks := true }, kinds := [], alts := [], laidByText := true, laidKinds := [.data, .data, .data, .data, .sentinel, .sentinel, .pinned], laidTests := true, laidLooks := .later }
def FnExactFilesTextUptoCardSaid : Prop := Claim7.holds Tryz.pinned (.plain (OpenSpec.upto fnExactFilesTextSpec)) fnExactFilesTextUptoCard

/-- THE SECOND FORM's CARD OF 'laws.FnExactFilesList'. -/
def fnExactFilesListUptoCard : Claim7 := { stood := { row := fnExactFilesListUptoRow, standIns := [], harness := (true, "d0b77c6ce8f50b7adfba57ec2d625a2e9372476ce9ca810343aa0b3fc425fe1f"), looks := true }, kinds := [], alts := [], laidByText := true, laidKinds := [.data, .data, .data, .data, .sentinel, .sentinel, .pinned], laidTests := true, laidLooks := .later }
def FnExactFilesListUptoCardSaid : Prop := Claim7.holds Tryz.pinned (.plain (OpenSpec.upto fnExactFilesListSpec)) fnExactFilesListUptoCard

/-- THE SECOND FORM's CARD OF 'laws.FnExactFilesNew'. -/
def fnExactFilesNewUptoCard : Claim7 := { stood := { row := fnExactFilesNewUptoRow, standIns := [], harness := (true, "d0b77c6ce8f50b7adfba57ec2d625a2e9372476ce9ca810343aa0b3fc425fe1f"), looks := true }, kinds := [], alts := [], laidByText := true, laidKinds := [.data, .data, .data, .data, .sentinel, .sentinel, .pinned], laidTests := true, laidLooks := .later }
def FnExactFilesNewUptoCardSaid : Prop := Claim7.holds Tryz.pinned (.plain (OpenSpec.upto fnExactFilesNewSpec)) fnExactFilesNewUptoCard

/-- THE SECOND FORM's CARD OF 'laws.FnExactTablePut'. -/
def fnExactTablePutUptoCard : Claim7 := { stood := { row := fnExactTablePutUptoRow, standIns := [], harness := (true, "d0b77c6ce8f50b7adfba57ec2d625a2e9372476ce9ca810343aa0b3fc425fe1f"), looks := true }, kinds := [], alts := [], laidByText := true, laidKinds := [.data, .data, .data, .data, .sentinel, .sentinel, .pinned], laidTests := true, laidLooks := .later }
def FnExactTablePutUptoCardSaid : Prop := Claim7.holds Tryz.pinned (.plain (OpenSpec.upto fnExactTablePutSpec)) fnExactTablePutUptoCard

/-- THE SECOND FORM's CARD OF 'laws.FnExactFilesKept'. -/
def fnExactFilesKeptUptoCard : Claim7 := { stood := { row := fnExactFilesKeptUptoRow, standIns := [], harness := (true, "d0b77c6ce8f50b7adfba57ec2d625a2e9372476ce9ca810343aa0b3fc425fe1f"), looks := true }, kinds := [], alts := [], laidByText := true, laidKinds := [.data, .data, .data, .data, .sentinel, .sentinel, .pinned], laidTests := true, laidLooks := .later }
def FnExactFilesKeptUptoCardSaid : Prop := Claim7.holds Tryz.pinned (.plain (OpenSpec.upto fnExactFilesKeptSpec)) fnExactFilesKeptUptoCard

/-- THE SECOND FORM's CARD OF 'laws.FnExactFilesTroubles'. -/
def fnExactFilesTroublesUptoCard : Claim7 := { stood := { row := fnExactFilesTroublesUptoRow, standIns := [], harness := (true, "d0b77c6ce8f50b7adfba57ec2d625a2e9372476ce9ca810343aa0b3fc425fe1f"), looks := true }, kinds := [], alts := [], laidByText := true, laidKinds := [.data, .data, .data, .data, .sentinel, .sentinel, .pinned], laidTests := true, laidLooks := .later }
def FnExactFilesTroublesUptoCardSaid : Prop := Claim7.holds Tryz.pinned (.plain (OpenSpec.upto fnExactFilesTroublesSpec)) fnExactFilesTroublesUptoCard
end Rows
end Go.Proofs.YtigjfacaofgjjaaGreatDoor
