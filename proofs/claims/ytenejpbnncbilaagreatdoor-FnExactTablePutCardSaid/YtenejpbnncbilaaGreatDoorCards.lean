/-
  DERIVED. GIVEN WITH THE SEED: THE CARDS: each row of YtenejpbnncbilaaGreatDoorRows.lean that lists a variable, with what it lists TIED to the program's text (the seventh form; the later family's looks); each row that meets fmt, with fmt's text TOLD by the authors' own Lean function (tested against real Go, not proved from fmt's source: count such statements apart). THE CARD IS WHAT COUNTS. Prove the row's statement (the work); the ties are given (YtenejpbnncbilaaGreatDoorTie.lean); close each card by the builder's one call (the guide's Derived/Test/ToyasCard.lean, 'card_holds'). Laid BY PROGRAM, IN A SANDBOX (cutbox-door.mjs). By AI agents, Wed Nov 11 2026. No macro, syntax, notation, axiom, sorry.
-/
import Derived.Test.YtenejpbnncbilaaGreatDoorRows
import GoSem.ClaimSeven
namespace Go.Proofs.YtenejpbnncbilaaGreatDoor
namespace Rows

/-- THE TIED CARD OF 'laws.FnExactTablePut'. -/
def fnExactTablePutCard : Claim7 := { stood := { row := fnExactTablePutRow, standIns := [], harness := (true, "c0b60041e6bc75f5a843561956131e8a57a652b30231ed72523c68ffcd3ab724"), looks := true }, kinds := [], alts := [], laidByText := true, laidKinds := [.data, .data, .data, .data, .sentinel, .sentinel, .pinned], laidTests := true, laidLooks := .later }
def FnExactTablePutCardSaid : Prop := Claim7.holds Tryz.pinned (.plain (OpenSpec.ofChange fnExactTablePutSpec)) fnExactTablePutCard

/-- THE SECOND FORM's CARD OF 'laws.FnExactTablePut'. -/
def fnExactTablePutUptoCard : Claim7 := { stood := { row := fnExactTablePutUptoRow, standIns := [], harness := (true, "c0b60041e6bc75f5a843561956131e8a57a652b30231ed72523c68ffcd3ab724"), looks := true }, kinds := [], alts := [], laidByText := true, laidKinds := [.data, .data, .data, .data, .sentinel, .sentinel, .pinned], laidTests := true, laidLooks := .later }
def FnExactTablePutUptoCardSaid : Prop := Claim7.holds Tryz.pinned (.plain (OpenSpec.upto fnExactTablePutSpec)) fnExactTablePutUptoCard
end Rows
end Go.Proofs.YtenejpbnncbilaaGreatDoor
