/-
  DERIVED. GIVEN WITH THE SEED: THE CARDS: each row of YtgaodbdadncfhaaGreatDoorRows.lean that lists a variable, with what it lists TIED to the program's text (the seventh form; the later family's looks); each row that meets fmt, with fmt's text TOLD by the authors' own Lean function (tested against real Go, not proved from fmt's source: count such statements apart). THE CARD IS WHAT COUNTS. Prove the row's statement (the work); the ties are given (YtgaodbdadncfhaaGreatDoorTie.lean); close each card by the builder's one call (the guide's Derived/Test/ToyasCard.lean, 'card_holds'). Laid BY PROGRAM, IN A SANDBOX (cutbox-door.mjs). By AI agents, Wed Nov 11 2026. No macro, syntax, notation, axiom, sorry.
-/
import Derived.Test.YtgaodbdadncfhaaGreatDoorRows
import GoSem.ClaimSeven
namespace Go.Proofs.YtgaodbdadncfhaaGreatDoor
namespace Rows

/-- THE TIED CARD OF 'laws.FnExactFileText'. -/
def fnExactFileTextCard : Claim7 := { stood := { row := fnExactFileTextRow, standIns := [], harness := (true, "efdd4662b33957822b069876430df393bfca7e0248d190e661a2f0fc5a77dbf5"), looks := true }, kinds := [], alts := [], laidByText := true, laidKinds := [.data, .data, .data, .data, .sentinel, .sentinel, .pinned], laidTests := true, laidLooks := .later }
def FnExactFileTextCardSaid : Prop := Claim7.holds Tryz.pinned (.plain (OpenSpec.ofChange fnExactFileTextSpec)) fnExactFileTextCard

/-- THE TIED CARD OF 'laws.FnExactFileHoles'. -/
def fnExactFileHolesCard : Claim7 := { stood := { row := fnExactFileHolesRow, standIns := [], harness := (true, "efdd4662b33957822b069876430df393bfca7e0248d190e661a2f0fc5a77dbf5"), looks := true }, kinds := [], alts := [], laidByText := true, laidKinds := [.data, .data, .data, .data, .sentinel, .sentinel, .pinned], laidTests := true, laidLooks := .later }
def FnExactFileHolesCardSaid : Prop := Claim7.holds Tryz.pinned (.plain (OpenSpec.ofChange fnExactFileHolesSpec)) fnExactFileHolesCard

/-- THE TIED CARD OF 'laws.FnExactFileRead'. -/
def fnExactFileReadCard : Claim7 := { stood := { row := fnExactFileReadRow, standIns := [], harness := (true, "efdd4662b33957822b069876430df393bfca7e0248d190e661a2f0fc5a77dbf5"), looks := true }, kinds := [], alts := [], laidByText := true, laidKinds := [.data, .data, .data, .data, .sentinel, .sentinel, .pinned], laidTests := true, laidLooks := .later }
def FnExactFileReadCardSaid : Prop := Claim7.holds Tryz.pinned (.plain (OpenSpec.ofChange fnExactFileReadSpec)) fnExactFileReadCard

/-- THE TIED CARD OF 'laws.FnExactTableAll'. -/
def fnExactTableAllCard : Claim7 := { stood := { row := fnExactTableAllRow, standIns := [], harness := (true, "efdd4662b33957822b069876430df393bfca7e0248d190e661a2f0fc5a77dbf5"), looks := true }, kinds := [], alts := [], laidByText := true, laidKinds := [.data, .data, .data, .data, .sentinel, .sentinel, .pinned], laidTests := true, laidLooks := .later }
def FnExactTableAllCardSaid : Prop := Claim7.holds Tryz.pinned (.plain (OpenSpec.ofChange fnExactTableAllSpec)) fnExactTableAllCard

/-- THE TIED CARD OF 'laws.FnExactFilesOk'. -/
def fnExactFilesOkCard : Claim7 := { stood := { row := fnExactFilesOkRow, standIns := [], harness := (true, "efdd4662b33957822b069876430df393bfca7e0248d190e661a2f0fc5a77dbf5"), looks := true }, kinds := [], alts := [], laidByText := true, laidKinds := [.data, .data, .data, .data, .sentinel, .sentinel, .pinned], laidTests := true, laidLooks := .later }
def FnExactFilesOkCardSaid : Prop := Claim7.holds Tryz.pinned (.plain (OpenSpec.ofChange fnExactFilesOkSpec)) fnExactFilesOkCard

/-- THE TIED CARD OF 'laws.FnExactFilesBlocks'. -/
def fnExactFilesBlocksCard : Claim7 := { stood := { row := fnExactFilesBlocksRow, standIns := [], harness := (true, "efdd4662b33957822b069876430df393bfca7e0248d190e661a2f0fc5a77dbf5"), looks := true }, kinds := [], alts := [], laidByText := true, laidKinds := [.data, .data, .data, .data, .sentinel, .sentinel, .pinned], laidTests := true, laidLooks := .later }
def FnExactFilesBlocksCardSaid : Prop := Claim7.holds Tryz.pinned (.plain (OpenSpec.ofChange fnExactFilesBlocksSpec)) fnExactFilesBlocksCard

/-- THE SECOND FORM's CARD OF 'laws.FnExactFileText'. -/
def fnExactFileTextUptoCard : Claim7 := { stood := { row := fnExactFileTextUptoRow, standIns := [], harness := (true, "efdd4662b33957822b069876430df393bfca7e0248d190e661a2f0fc5a77dbf5"), looks := true }, kinds := [], alts := [], laidByText := true, laidKinds := [.data, .data, .data, .data, .sentinel, .sentinel, .pinned], laidTests := true, laidLooks := .later }
def FnExactFileTextUptoCardSaid : Prop := Claim7.holds Tryz.pinned (.plain (OpenSpec.upto fnExactFileTextSpec)) fnExactFileTextUptoCard

/-- THE SECOND FORM's CARD OF 'laws.FnExactFileHoles'. -/
def fnExactFileHolesUptoCard : Claim7 := { stood := { row := fnExactFileHolesUptoRow, standIns := [], harness := (true, "efdd4662b33957822b069876430df393bfca7e0248d190e661a2f0fc5a77dbf5"), looks := true }, kinds := [], alts := [], laidByText := true, laidKinds := [.data, .data, .data, .data, .sentinel, .sentinel, .pinned], laidTests := true, laidLooks := .later }
def FnExactFileHolesUptoCardSaid : Prop := Claim7.holds Tryz.pinned (.plain (OpenSpec.upto fnExactFileHolesSpec)) fnExactFileHolesUptoCard

/-- THE SECOND FORM's CARD OF 'laws.FnExactFileRead'. -/
def fnExactFileReadUptoCard : Claim7 := { stood := { row := fnExactFileReadUptoRow, standIns := [], harness := (true, "efdd4662b33957822b069876430df393bfca7e0248d190e661a2f0fc5a77dbf5"), looks := true }, kinds := [], alts := [], laidByText := true, laidKinds := [.data, .data, .data, .data, .sentinel, .sentinel, .pinned], laidTests := true, laidLooks := .later }
def FnExactFileReadUptoCardSaid : Prop := Claim7.holds Tryz.pinned (.plain (OpenSpec.upto fnExactFileReadSpec)) fnExactFileReadUptoCard

/-- THE SECOND FORM's CARD OF 'laws.FnExactTableAll'. -/
def fnExactTableAllUptoCard : Claim7 := { stood := { row := fnExactTableAllUptoRow, standIns := [], harness := (true, "efdd4662b33957822b069876430df393bfca7e0248d190e661a2f0fc5a77dbf5"), looks := true }, kinds := [], alts := [], laidByText := true, laidKinds := [.data, .data, .data, .data, .sentinel, .sentinel, .pinned], laidTests := true, laidLooks := .later }
def FnExactTableAllUptoCardSaid : Prop := Claim7.holds Tryz.pinned (.plain (OpenSpec.upto fnExactTableAllSpec)) fnExactTableAllUptoCard

/-- THE SECOND FORM's CARD OF 'laws.FnExactFilesOk'. -/
def fnExactFilesOkUptoCard : Claim7 := { stood := { row := fnExactFilesOkUptoRow, standIns := [], harness := (true, "efdd4662b33957822b069876430df393bfca7e0248d190e661a2f0fc5a77dbf5"), looks := true }, kinds := [], alts := [], laidByText := true, laidKinds := [.data, .data, .data, .data, .sentinel, .sentinel, .pinned], laidTests := true, laidLooks := .later }
def FnExactFilesOkUptoCardSaid : Prop := Claim7.holds Tryz.pinned (.plain (OpenSpec.upto fnExactFilesOkSpec)) fnExactFilesOkUptoCard

/-- THE SECOND FORM's CARD OF 'laws.FnExactFilesBlocks'. -/
def fnExactFilesBlocksUptoCard : Claim7 := { stood := { row := fnExactFilesBlocksUptoRow, standIns := [], harness := (true, "efdd4662b33957822b069876430df393bfca7e0248d190e661a2f0fc5a77dbf5"), looks := true }, kinds := [], alts := [], laidByText := true, laidKinds := [.data, .data, .data, .data, .sentinel, .sentinel, .pinned], laidTests := true, laidLooks := .later }
def FnExactFilesBlocksUptoCardSaid : Prop := Claim7.holds Tryz.pinned (.plain (OpenSpec.upto fnExactFilesBlocksSpec)) fnExactFilesBlocksUptoCard
end Rows
end Go.Proofs.YtgaodbdadncfhaaGreatDoor
