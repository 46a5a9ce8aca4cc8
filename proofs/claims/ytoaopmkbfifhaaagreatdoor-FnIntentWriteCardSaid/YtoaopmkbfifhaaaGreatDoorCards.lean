/-
  DERIVED. GIVEN WITH THE SEED: THE CARDS: each row of YtoaopmkbfifhaaaGreatDoorRows.lean that lists a variable, with what it lists TIED to the program's text (the seventh form; the later family's looks); each row that meets fmt, with fmt's text TOLD by the authors' own Lean function (tested against real Go, not proved from fmt's source: count such statements apart). THE CARD IS WHAT COUNTS. Prove the row's statement (the work); the ties are given (YtoaopmkbfifhaaaGreatDoorTie.lean); close each card by the builder's one call (the guide's Derived/Test/ToyasCard.lean, 'card_holds'). Laid BY PROGRAM, IN A SANDBOX (cutbox-door.mjs). By AI agents, Wed Nov 11 2026. No macro, syntax, notation, axiom, sorry.
-/
import Derived.Test.YtoaopmkbfifhaaaGreatDoorRows
import GoSem.ClaimSeven
namespace Go.Proofs.YtoaopmkbfifhaaaGreatDoor
namespace Rows

/-- THE TIED CARD OF 'laws.FnExactRootWrite'. -/
def fnExactRootWriteCard : Claim7 := { stood := { row := fnExactRootWriteRow, standIns := [], harness := (true, "c93f95d62d9f9ffe3de93dc207e882bef0d05c4264a13f7dc5f32d7cbef6692c"), looks := true }, kinds := [], alts := [], laidByText := true, laidKinds := [.data, .data, .data], laidTests := true, laidLooks := .later }
def FnExactRootWriteCardSaid : Prop := Claim7.holds Tryz.pinned (.plain (OpenSpec.ofChange fnExactRootWriteSpec)) fnExactRootWriteCard

/-- THE TIED CARD OF 'laws.FnExactIntentWrite'. -/
def fnExactIntentWriteCard : Claim7 := { stood := { row := fnExactIntentWriteRow, standIns := [], harness := (true, "c93f95d62d9f9ffe3de93dc207e882bef0d05c4264a13f7dc5f32d7cbef6692c"), looks := true }, kinds := [], alts := [], laidByText := true, laidKinds := [.data, .data, .data, .data, .pinned], laidTests := true, laidLooks := .later }
def FnExactIntentWriteCardSaid : Prop := Claim7.holds Tryz.pinned (.plain (OpenSpec.ofChange fnExactIntentWriteSpec)) fnExactIntentWriteCard

/-- THE TIED CARD OF 'laws.FnRootWrite'. -/
def fnRootWriteCard : Claim7 := { stood := { row := fnRootWriteRow, standIns := [], harness := (true, "c93f95d62d9f9ffe3de93dc207e882bef0d05c4264a13f7dc5f32d7cbef6692c"), looks := true }, kinds := [], alts := [], laidByText := true, laidKinds := [.data, .data, .data, .data, .sentinel, .sentinel, .pinned], laidTests := true, laidLooks := .later }
def FnRootWriteCardSaid : Prop := Claim7.holds Tryz.pinned (.plain (OpenSpec.ofChange fnRootWriteSpec)) fnRootWriteCard

/-- THE TIED CARD OF 'laws.FnIntentWrite'. -/
def fnIntentWriteCard : Claim7 := { stood := { row := fnIntentWriteRow, standIns := [], harness := (true, "c93f95d62d9f9ffe3de93dc207e882bef0d05c4264a13f7dc5f32d7cbef6692c"), looks := true }, kinds := [], alts := [], laidByText := true, laidKinds := [.data, .data, .data, .data, .sentinel, .sentinel, .pinned], laidTests := true, laidLooks := .later }
def FnIntentWriteCardSaid : Prop := Claim7.holds Tryz.pinned (.plain (OpenSpec.ofChange fnIntentWriteSpec)) fnIntentWriteCard

/-- THE SECOND FORM's CARD OF 'laws.FnExactRootWrite'. -/
def fnExactRootWriteUptoCard : Claim7 := { stood := { row := fnExactRootWriteUptoRow, standIns := [], harness := (true, "c93f95d62d9f9ffe3de93dc207e882bef0d05c4264a13f7dc5f32d7cbef6692c"), looks := true }, kinds := [], alts := [], laidByText := true, laidKinds := [.data, .data, .data], laidTests := true, laidLooks := .later }
def FnExactRootWriteUptoCardSaid : Prop := Claim7.holds Tryz.pinned (.plain (OpenSpec.upto fnExactRootWriteSpec)) fnExactRootWriteUptoCard

/-- THE SECOND FORM's CARD OF 'laws.FnExactIntentWrite'. -/
def fnExactIntentWriteUptoCard : Claim7 := { stood := { row := fnExactIntentWriteUptoRow, standIns := [], harness := (true, "c93f95d62d9f9ffe3de93dc207e882bef0d05c4264a13f7dc5f32d7cbef6692c"), looks := true }, kinds := [], alts := [], laidByText := true, laidKinds := [.data, .data, .data, .data, .pinned], laidTests := true, laidLooks := .later }
def FnExactIntentWriteUptoCardSaid : Prop := Claim7.holds Tryz.pinned (.plain (OpenSpec.upto fnExactIntentWriteSpec)) fnExactIntentWriteUptoCard

/-- THE SECOND FORM's CARD OF 'laws.FnRootWrite'. -/
def fnRootWriteUptoCard : Claim7 := { stood := { row := fnRootWriteUptoRow, standIns := [], harness := (true, "c93f95d62d9f9ffe3de93dc207e882bef0d05c4264a13f7dc5f32d7cbef6692c"), looks := true }, kinds := [], alts := [], laidByText := true, laidKinds := [.data, .data, .data, .data, .sentinel, .sentinel, .pinned], laidTests := true, laidLooks := .later }
def FnRootWriteUptoCardSaid : Prop := Claim7.holds Tryz.pinned (.plain (OpenSpec.upto fnRootWriteSpec)) fnRootWriteUptoCard

/-- THE SECOND FORM's CARD OF 'laws.FnIntentWrite'. -/
def fnIntentWriteUptoCard : Claim7 := { stood := { row := fnIntentWriteUptoRow, standIns := [], harness := (true, "c93f95d62d9f9ffe3de93dc207e882bef0d05c4264a13f7dc5f32d7cbef6692c"), looks := true }, kinds := [], alts := [], laidByText := true, laidKinds := [.data, .data, .data, .data, .sentinel, .sentinel, .pinned], laidTests := true, laidLooks := .later }
def FnIntentWriteUptoCardSaid : Prop := Claim7.holds Tryz.pinned (.plain (OpenSpec.upto fnIntentWriteSpec)) fnIntentWriteUptoCard
end Rows
end Go.Proofs.YtoaopmkbfifhaaaGreatDoor
