/-
  DERIVED. GIVEN WITH THE SEED: THE CARDS: each row of YtnikdicehddehaaGreatDoorRows.lean that lists a variable, with what it lists TIED to the program's text (the seventh form; the later family's looks); each row that meets fmt, with fmt's text TOLD by the authors' own Lean function (tested against real Go, not proved from fmt's source: count such statements apart). THE CARD IS WHAT COUNTS. Prove the row's statement (the work); the ties are given (YtnikdicehddehaaGreatDoorTie.lean); close each card by the builder's one call (the guide's Derived/Test/ToyasCard.lean, 'card_holds'). Laid BY PROGRAM, IN A SANDBOX (cutbox-door.mjs). By AI agents, Wed Nov 11 2026. No macro, syntax, notation, axiom, sorry.
-/
import Derived.Test.YtnikdicehddehaaGreatDoorRows
import GoSem.ClaimSeven
namespace Go.Proofs.YtnikdicehddehaaGreatDoor
namespace Rows

/-- THE TIED CARD OF 'laws.FnShellSay'. -/
def fnShellSayCard : Claim7 := { stood := { row := fnShellSayRow, standIns := [], harness := (true, "0df539b7e3d7adf9ca3ac152c7ebb797018a1bfb538208817b2df71b297cb0a6"), looks := true }, kinds := [], alts := [], laidByText := true, laidKinds := [.data, .data, .data, .data, .sentinel, .sentinel, .mapped, .pinned], laidTests := true, laidLooks := .later }
def FnShellSayCardSaid : Prop := Claim7.holds Tryz.pinned (.plain (OpenSpec.ofChange fnShellSaySpec)) fnShellSayCard

/-- THE TIED CARD OF 'laws.FnShellOp'. -/
def fnShellOpCard : Claim7 := { stood := { row := fnShellOpRow, standIns := [], harness := (true, "0df539b7e3d7adf9ca3ac152c7ebb797018a1bfb538208817b2df71b297cb0a6"), looks := true }, kinds := [], alts := [], laidByText := true, laidKinds := [.data, .data, .data, .data, .sentinel, .sentinel, .mapped, .pinned], laidTests := true, laidLooks := .later }
def FnShellOpCardSaid : Prop := Claim7.holds Tryz.pinned (.plain (OpenSpec.ofChange fnShellOpSpec)) fnShellOpCard

/-- THE SECOND FORM's CARD OF 'laws.FnShellSay'. -/
def fnShellSayUptoCard : Claim7 := { stood := { row := fnShellSayUptoRow, standIns := [], harness := (true, "0df539b7e3d7adf9ca3ac152c7ebb797018a1bfb538208817b2df71b297cb0a6"), looks := true }, kinds := [], alts := [], laidByText := true, laidKinds := [.data, .data, .data, .data, .sentinel, .sentinel, .mapped, .pinned], laidTests := true, laidLooks := .later }
def FnShellSayUptoCardSaid : Prop := Claim7.holds Tryz.pinned (.plain (OpenSpec.upto fnShellSaySpec)) fnShellSayUptoCard

/-- THE SECOND FORM's CARD OF 'laws.FnShellOp'. -/
def fnShellOpUptoCard : Claim7 := { stood := { row := fnShellOpUptoRow, standIns := [], harness := (true, "0df539b7e3d7adf9ca3ac152c7ebb797018a1bfb538208817b2df71b297cb0a6"), looks := true }, kinds := [], alts := [], laidByText := true, laidKinds := [.data, .data, .data, .data, .sentinel, .sentinel, .mapped, .pinned], laidTests := true, laidLooks := .later }
def FnShellOpUptoCardSaid : Prop := Claim7.holds Tryz.pinned (.plain (OpenSpec.upto fnShellOpSpec)) fnShellOpUptoCard
end Rows
end Go.Proofs.YtnikdicehddehaaGreatDoor
