/-
  DERIVED. GIVEN WITH THE SEED: THE CARDS: each row of YtfhdmfcfcgbgeaaGreatDoorRows.lean that lists a variable, with what it lists TIED to the program's text (the seventh form; the later family's looks); each row that meets fmt, with fmt's text TOLD by the authors' own Lean function (tested against real Go, not proved from fmt's source: count such statements apart). THE CARD IS WHAT COUNTS. Prove the row's statement (the work); the ties are given (YtfhdmfcfcgbgeaaGreatDoorTie.lean); close each card by the builder's one call (the guide's Derived/Test/ToyasCard.lean, 'card_holds'). Laid BY PROGRAM, IN A SANDBOX (cutbox-door.mjs). By AI agents, Wed Nov 11 2026. No macro, syntax, notation, axiom, sorry.
-/
import Derived.Test.YtfhdmfcfcgbgeaaGreatDoorRows
import GoSem.ClaimSeven
namespace Go.Proofs.YtfhdmfcfcgbgeaaGreatDoor
namespace Rows

/-- THE TIED CARD OF 'laws.FnNodeOk'. -/
def fnNodeOkCard : Claim7 := { stood := { row := fnNodeOkRow, standIns := [], harness := (true, "dea2aefe9977d0133b5a09b88c34de7a2e241312bdfff83ddfaecea5236bc8d5"), looks := true }, kinds := [], alts := [], laidByText := true, laidKinds := [.data, .data, .data], laidTests := true, laidLooks := .later }
def FnNodeOkCardSaid : Prop := Claim7.holds Tryz.pinned (.plain (OpenSpec.ofChange fnNodeOkSpec)) fnNodeOkCard

/-- THE TIED CARD OF 'laws.FnNodePut'. -/
def fnNodePutCard : Claim7 := { stood := { row := fnNodePutRow, standIns := [], harness := (true, "dea2aefe9977d0133b5a09b88c34de7a2e241312bdfff83ddfaecea5236bc8d5"), looks := true }, kinds := [], alts := [], laidByText := true, laidKinds := [.data, .data, .data, .data, .sentinel, .sentinel, .pinned], laidTests := true, laidLooks := .later }
def FnNodePutCardSaid : Prop := Claim7.holds Tryz.pinned (.plain (OpenSpec.ofChange fnNodePutSpec)) fnNodePutCard

/-- THE TIED CARD OF 'laws.FnNodeGet'. -/
def fnNodeGetCard : Claim7 := { stood := { row := fnNodeGetRow, standIns := [], harness := (true, "dea2aefe9977d0133b5a09b88c34de7a2e241312bdfff83ddfaecea5236bc8d5"), looks := true }, kinds := [], alts := [], laidByText := true, laidKinds := [.data, .data, .data, .data, .sentinel, .sentinel, .pinned], laidTests := true, laidLooks := .later }
def FnNodeGetCardSaid : Prop := Claim7.holds Tryz.pinned (.plain (OpenSpec.ofChange fnNodeGetSpec)) fnNodeGetCard

/-- THE SECOND FORM's CARD OF 'laws.FnNodeOk'. -/
def fnNodeOkUptoCard : Claim7 := { stood := { row := fnNodeOkUptoRow, standIns := [], harness := (true, "dea2aefe9977d0133b5a09b88c34de7a2e241312bdfff83ddfaecea5236bc8d5"), looks := true }, kinds := [], alts := [], laidByText := true, laidKinds := [.data, .data, .data], laidTests := true, laidLooks := .later }
def FnNodeOkUptoCardSaid : Prop := Claim7.holds Tryz.pinned (.plain (OpenSpec.upto fnNodeOkSpec)) fnNodeOkUptoCard

/-- THE SECOND FORM's CARD OF 'laws.FnNodePut'. -/
def fnNodePutUptoCard : Claim7 := { stood := { row := fnNodePutUptoRow, standIns := [], harness := (true, "dea2aefe9977d0133b5a09b88c34de7a2e241312bdfff83ddfaecea5236bc8d5"), looks := true }, kinds := [], alts := [], laidByText := true, laidKinds := [.data, .data, .data, .data, .sentinel, .sentinel, .pinned], laidTests := true, laidLooks := .later }
def FnNodePutUptoCardSaid : Prop := Claim7.holds Tryz.pinned (.plain (OpenSpec.upto fnNodePutSpec)) fnNodePutUptoCard

/-- THE SECOND FORM's CARD OF 'laws.FnNodeGet'. -/
def fnNodeGetUptoCard : Claim7 := { stood := { row := fnNodeGetUptoRow, standIns := [], harness := (true, "dea2aefe9977d0133b5a09b88c34de7a2e241312bdfff83ddfaecea5236bc8d5"), looks := true }, kinds := [], alts := [], laidByText := true, laidKinds := [.data, .data, .data, .data, .sentinel, .sentinel, .pinned], laidTests := true, laidLooks := .later }
def FnNodeGetUptoCardSaid : Prop := Claim7.holds Tryz.pinned (.plain (OpenSpec.upto fnNodeGetSpec)) fnNodeGetUptoCard
end Rows
end Go.Proofs.YtfhdmfcfcgbgeaaGreatDoor
