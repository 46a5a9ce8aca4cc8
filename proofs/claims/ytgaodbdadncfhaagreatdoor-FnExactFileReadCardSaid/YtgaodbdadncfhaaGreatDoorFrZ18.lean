/- A part of the proof in YtgaodbdadncfhaaGreatDoorFrZ29. -/
import Derived.LoopIn
import Derived.LoopNIn
import Derived.OwnWalkIn
import Derived.RangeFuncLeaves
import Derived.RangeFuncNested
import Derived.Shelf.Abstract
import Derived.TacticsInMore
import Derived.Test.YtgaodbdadncfhaaGreatDoorFrZ17
/- Disks in rows; the first place at which a function says yes. -/
namespace Go.Proofs.YtgaodbdadncfhaaGreatDoor
set_option linter.unusedVariables false
set_option linter.unusedSimpArgs false
set_option maxHeartbeats 1000000
set_option maxRecDepth 100000
open Go.RowKit

/-- A disk's header beside its datum. -/
structure HD where
  a0 : Option Addr
  c0 : Nat
  a1 : Option Addr
  c1 : Nat
  d : DiskD
def HD.cells (p : HD) : List Value := [.slice p.a0 p.d.fCells.length p.c0, .slice p.a1 p.d.fWaits.length p.c1, .bool p.d.fGone]
theorem HD.cells_len (p : HD) : p.cells.length = 3 := rfl
instance : Inhabited DiskD := ⟨⟨[], [], false⟩⟩
instance : Inhabited HD := ⟨⟨none, 0, none, 0, default⟩⟩
structure HD.reads (w : World) (p : HD) : Prop where
  rc : Rd encS 1 w p.a0 p.d.fCells.length p.d.fCells
  rw : Rd WaitD.cells 2 w p.a1 p.d.fWaits.length p.d.fWaits
theorem HD.reads.below {w w' : World} {p : HD} (h : p.reads w) (hb : Below w.heap.size w w') : p.reads w' := ⟨h.rc.below hb, h.rw.below hb⟩
end Go.Proofs.YtgaodbdadncfhaaGreatDoor

/- Disks that are valid, by the program; sets of disks. -/
namespace Go.Proofs.YtgaodbdadncfhaaGreatDoor
set_option linter.unusedVariables false
set_option linter.unusedSimpArgs false
set_option maxHeartbeats 1000000
set_option maxRecDepth 100000
open Go.RowKit

structure DiskD.fits (d : DiskD) : Prop where
  c : d.fCells.length ≤ 1048576
  w : d.fWaits.length ≤ 1048576
  cz : ∀ k, (d.fCells.getD k ByteArray.empty).size ≤ 9223372036854775807
  wz : ∀ k, (d.fWaits.getD k default).fText.size ≤ 9223372036854775807
def dsOf (ps : List HD) : List DiskD := ps.map HD.d
theorem dsOf_len (ps : List HD) : (dsOf ps).length = ps.length := List.length_map ..
end Go.Proofs.YtgaodbdadncfhaaGreatDoor

/- Disks in rows, put in and taken out; copies. -/
namespace Go.Proofs.YtgaodbdadncfhaaGreatDoor
set_option linter.unusedVariables false
set_option linter.unusedSimpArgs false
set_option maxHeartbeats 1000000
set_option maxRecDepth 100000
open Go.RowKit

theorem getD_get {α : Type} [Inhabited α] {xs : List α} {k : Nat} (h : k < xs.length) : xs.getD k default = xs[k] := by simp [List.getD, h]
end Go.Proofs.YtgaodbdadncfhaaGreatDoor
