/-
  DERIVED. GIVEN WITH THE SEED: THE CARDS: each row of YtnikdicehddehaaDoorRows.lean that lists a variable, with what it lists TIED to the program's text (the seventh form; the later family's looks); each row that meets fmt, with fmt's text TOLD by the authors' own Lean function (tested against real Go, not proved from fmt's source: count such statements apart). THE CARD IS WHAT COUNTS. Prove the row's statement (the work); the ties are given (YtnikdicehddehaaDoorTie.lean); close each card by the builder's one call (the guide's Derived/Test/ToyasCard.lean, 'card_holds'). Laid BY PROGRAM, IN A SANDBOX (cutbox-door.mjs). By AI agents, Wed Nov 11 2026. No macro, syntax, notation, axiom, sorry.
-/
import Derived.Test.YtnikdicehddehaaDoorRows
import GoSem.ClaimSeven
namespace Go.Proofs.YtnikdicehddehaaDoor
namespace Rows

/-- THE TIED CARD OF 'laws.FnExactShellSay'. -/
def fnExactShellSayCard : Claim7 := { stood := { row := fnExactShellSayRow, standIns := [], harness := (true, "d65d2e01e404bc12424987e0c697d1de9c7cea865820d97bdaadad04fb342c7d"), looks := true }, kinds := [], alts := [], laidByText := true, laidKinds := [.data, .data, .data, .data, .mapped, .pinned], laidTests := true, laidLooks := .later }
def FnExactShellSayCardSaid : Prop := Claim7.holds Tryd.pinned (.plain (OpenSpec.ofChange fnExactShellSaySpec)) fnExactShellSayCard

/-- THE TIED CARD OF 'laws.FnExactShellOp'. -/
def fnExactShellOpCard : Claim7 := { stood := { row := fnExactShellOpRow, standIns := [], harness := (true, "d65d2e01e404bc12424987e0c697d1de9c7cea865820d97bdaadad04fb342c7d"), looks := true }, kinds := [], alts := [], laidByText := true, laidKinds := [.data, .data, .data, .data, .sentinel, .sentinel, .mapped, .pinned], laidTests := true, laidLooks := .later }
def FnExactShellOpCardSaid : Prop := Claim7.holds Tryd.pinned (.plain (OpenSpec.ofChange fnExactShellOpSpec)) fnExactShellOpCard

/-- THE SECOND FORM's CARD OF 'laws.FnExactShellSay'. -/
def fnExactShellSayUptoCard : Claim7 := { stood := { row := fnExactShellSayUptoRow, standIns := [], harness := (true, "d65d2e01e404bc12424987e0c697d1de9c7cea865820d97bdaadad04fb342c7d"), looks := true }, kinds := [], alts := [], laidByText := true, laidKinds := [.data, .data, .data, .data, .mapped, .pinned], laidTests := true, laidLooks := .later }
def FnExactShellSayUptoCardSaid : Prop := Claim7.holds Tryd.pinned (.plain (OpenSpec.upto fnExactShellSaySpec)) fnExactShellSayUptoCard

/-- THE SECOND FORM's CARD OF 'laws.FnExactShellOp'. -/
def fnExactShellOpUptoCard : Claim7 := { stood := { row := fnExactShellOpUptoRow, standIns := [], harness := (true, "d65d2e01e404bc12424987e0c697d1de9c7cea865820d97bdaadad04fb342c7d"), looks := true }, kinds := [], alts := [], laidByText := true, laidKinds := [.data, .data, .data, .data, .sentinel, .sentinel, .mapped, .pinned], laidTests := true, laidLooks := .later }
def FnExactShellOpUptoCardSaid : Prop := Claim7.holds Tryd.pinned (.plain (OpenSpec.upto fnExactShellOpSpec)) fnExactShellOpUptoCard
end Rows
end Go.Proofs.YtnikdicehddehaaDoor
