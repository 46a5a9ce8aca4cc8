/-
  DERIVED. GIVEN WITH THE SEED: THE CARDS: each row of YthnbgnjpbmnelaaGreatDoorRows.lean that lists a variable, with what it lists TIED to the program's text (the seventh form; the later family's looks); each row that meets fmt, with fmt's text TOLD by the authors' own Lean function (tested against real Go, not proved from fmt's source: count such statements apart). THE CARD IS WHAT COUNTS. Prove the row's statement (the work); the ties are given (YthnbgnjpbmnelaaGreatDoorTie.lean); close each card by the builder's one call (the guide's Derived/Test/ToyasCard.lean, 'card_holds'). Laid BY PROGRAM, IN A SANDBOX (cutbox-door.mjs). By AI agents, Wed Nov 11 2026. No macro, syntax, notation, axiom, sorry.
-/
import Derived.Test.YthnbgnjpbmnelaaGreatDoorRows
import GoSem.ClaimSeven
namespace Go.Proofs.YthnbgnjpbmnelaaGreatDoor
namespace Rows

/-- THE TIED CARD OF 'laws.FnExactTablePut'. -/
def fnExactTablePutCard : Claim7 := { stood := { row := fnExactTablePutRow, standIns := [], harness := (true, "ee12ae6b061a5b056fea9d2964ca38e82be6124ee1ffec20c105980048b48613"), looks := true }, kinds := [], alts := [], laidByText := true, laidKinds := [.data, .data, .data, .data, .sentinel, .sentinel, .pinned], laidTests := true, laidLooks := .later }
def FnExactTablePutCardSaid : Prop := Claim7.holds Tryz.pinned (.plain (OpenSpec.ofChange fnExactTablePutSpec)) fnExactTablePutCard

/-- THE TIED CARD OF 'laws.FnRootTurn'. -/
def fnRootTurnCard : Claim7 := { stood := { row := fnRootTurnRow, standIns := [], harness := (true, "ee12ae6b061a5b056fea9d2964ca38e82be6124ee1ffec20c105980048b48613"), looks := true }, kinds := [], alts := [], laidByText := true, laidKinds := [.data, .data, .data, .data, .sentinel, .sentinel, .pinned], laidTests := true, laidLooks := .later }
def FnRootTurnCardSaid : Prop := Claim7.holds Tryz.pinned (.plain (OpenSpec.ofChange fnRootTurnSpec)) fnRootTurnCard

/-- THE TIED CARD OF 'laws.FnTreeText'. -/
def fnTreeTextCard : Claim7 := { stood := { row := fnTreeTextRow, standIns := [], harness := (true, "ee12ae6b061a5b056fea9d2964ca38e82be6124ee1ffec20c105980048b48613"), looks := true }, kinds := [], alts := [], laidByText := true, laidKinds := [.data, .data, .data, .sentinel, .sentinel], laidTests := true, laidLooks := .later }
def FnTreeTextCardSaid : Prop := Claim7.holds Tryz.pinned (.plain (OpenSpec.ofChange fnTreeTextSpec)) fnTreeTextCard

/-- THE SECOND FORM's CARD OF 'laws.FnExactTablePut'. -/
def fnExactTablePutUptoCard : Claim7 := { stood := { row := fnExactTablePutUptoRow, standIns := [], harness := (true, "ee12ae6b061a5b056fea9d2964ca38e82be6124ee1ffec20c105980048b48613"), looks := true }, kinds := [], alts := [], laidByText := true, laidKinds := [.data, .data, .data, .data, .sentinel, .sentinel, .pinned], laidTests := true, laidLooks := .later }
def FnExactTablePutUptoCardSaid : Prop := Claim7.holds Tryz.pinned (.plain (OpenSpec.upto fnExactTablePutSpec)) fnExactTablePutUptoCard

/-- THE SECOND FORM's CARD OF 'laws.FnRootTurn'. -/
def fnRootTurnUptoCard : Claim7 := { stood := { row := fnRootTurnUptoRow, standIns := [], harness := (true, "ee12ae6b061a5b056fea9d2964ca38e82be6124ee1ffec20c105980048b48613"), looks := true }, kinds := [], alts := [], laidByText := true, laidKinds := [.data, .data, .data, .data, .sentinel, .sentinel, .pinned], laidTests := true, laidLooks := .later }
def FnRootTurnUptoCardSaid : Prop := Claim7.holds Tryz.pinned (.plain (OpenSpec.upto fnRootTurnSpec)) fnRootTurnUptoCard

/-- THE SECOND FORM's CARD OF 'laws.FnTreeText'. -/
def fnTreeTextUptoCard : Claim7 := { stood := { row := fnTreeTextUptoRow, standIns := [], harness := (true, "ee12ae6b061a5b056fea9d2964ca38e82be6124ee1ffec20c105980048b48613"), looks := true }, kinds := [], alts := [], laidByText := true, laidKinds := [.data, .data, .data, .sentinel, .sentinel], laidTests := true, laidLooks := .later }
def FnTreeTextUptoCardSaid : Prop := Claim7.holds Tryz.pinned (.plain (OpenSpec.upto fnTreeTextSpec)) fnTreeTextUptoCard
end Rows
end Go.Proofs.YthnbgnjpbmnelaaGreatDoor
