/-
  No cell of these rows narrows 'for every input' (looked for: loops, veiled, ifaces, maps, wideKeys, modest, calm, conditions, laid).
  DERIVED. THE GIVEN ROWS OF THIS SEAT. 9 by the template 'for every input the law returns true; each argument reads behind the call as it read before'; 0 by the template 'total and deterministic' (their statements: YtfhdmfcfcgbgeaaGreatTotals.lean).
  GIVEN WITH THE SEED: the statements are not yours to turn. If you find one false, say at which input.
  Laid BY PROGRAM, IN A SANDBOX (cutbox-rows.mjs): the forced cells as the released guide's own fill.sh prints them over the translation 7dd94d0cd27a7f7a… (all of the seat's roots in one cut). By AI agents, Wed Nov 11 2026. No macro, syntax, notation, axiom, sorry.
-/
import Derived.Test.YtfhdmfcfcgbgeaaGreatChecked
import GoSem.Claim
import GoSem.ClaimJoined
import GoSem.ClaimMapViews
import Derived.JoinedTies
import Derived.KernelRfl
namespace Go.Proofs.YtfhdmfcfcgbgeaaGreat
/- THE CELL 'sum', in the pinned program and in every row, IS THE sha256 OF THE DUMP (.gsa) THAT YtfhdmfcfcgbgeaaGreatProg.lean LOADS. Nothing in Lean hashes anything: it is a label: what it is worth is what the hold of that sum in a sandbox is worth. -/
noncomputable def Tryz.pinned : Pinned := { name := "ytfhdmfcfcgbgeaagreat", sum := "7dd94d0cd27a7f7ab170912e96af6f9ad07c973ba77fba84b065b63eefe65e42", checked := Tryz.checked }
namespace Rows
def none {H : Type} : Left H := { results := [], args := [] }

/-- 'laws.FnStoreRead': WHATEVER THE INPUT: true; the input reads as it did. -/
def fnStoreReadSpec : ChangeSpec := { name := "fnStoreRead", fn := fun _ => fun
  | [d] => { results := [.lit (.bool true)], args := [d] }
  | _ => none }
def fnStoreReadRow : OpenClaim := { program := "ytfhdmfcfcgbgeaagreat", sum := "7dd94d0cd27a7f7ab170912e96af6f9ad07c973ba77fba84b065b63eefe65e42", func := "loop.example/poolfiles/laws.FnStoreRead", spec := "fnStoreRead", unfollowed := true, recurses := true, apart := false }
def FnStoreReadSaid : Prop := fnStoreReadRow.holds Tryz.pinned (OpenSpec.ofChange fnStoreReadSpec)

/-- ITS FALSE NEIGHBOUR: 'it returns false'. Refute it at one input. -/
def fnStoreReadWrong : ChangeSpec := { name := "fnStoreRead", fn := fun _ => fun
  | [d] => { results := [.lit (.bool false)], args := [d] }
  | _ => none }
def FnStoreReadWrongFalsely : Prop := fnStoreReadRow.holds Tryz.pinned (OpenSpec.ofChange fnStoreReadWrong)

/-- 'laws.FnStoreOk': WHATEVER THE INPUT: true; the input reads as it did. -/
def fnStoreOkSpec : ChangeSpec := { name := "fnStoreOk", fn := fun _ => fun
  | [d] => { results := [.lit (.bool true)], args := [d] }
  | _ => none }
def fnStoreOkRow : OpenClaim := { program := "ytfhdmfcfcgbgeaagreat", sum := "7dd94d0cd27a7f7ab170912e96af6f9ad07c973ba77fba84b065b63eefe65e42", func := "loop.example/poolfiles/laws.FnStoreOk", spec := "fnStoreOk", unfollowed := true, recurses := true, apart := false }
def FnStoreOkSaid : Prop := fnStoreOkRow.holds Tryz.pinned (OpenSpec.ofChange fnStoreOkSpec)

/-- ITS FALSE NEIGHBOUR: 'it returns false'. Refute it at one input. -/
def fnStoreOkWrong : ChangeSpec := { name := "fnStoreOk", fn := fun _ => fun
  | [d] => { results := [.lit (.bool false)], args := [d] }
  | _ => none }
def FnStoreOkWrongFalsely : Prop := fnStoreOkRow.holds Tryz.pinned (OpenSpec.ofChange fnStoreOkWrong)

/-- 'laws.FnStoreRoom': WHATEVER THE INPUT: true; the input reads as it did. -/
def fnStoreRoomSpec : ChangeSpec := { name := "fnStoreRoom", fn := fun _ => fun
  | [d] => { results := [.lit (.bool true)], args := [d] }
  | _ => none }
def fnStoreRoomRow : OpenClaim := { program := "ytfhdmfcfcgbgeaagreat", sum := "7dd94d0cd27a7f7ab170912e96af6f9ad07c973ba77fba84b065b63eefe65e42", func := "loop.example/poolfiles/laws.FnStoreRoom", spec := "fnStoreRoom", unfollowed := true, recurses := true, apart := false }
def FnStoreRoomSaid : Prop := fnStoreRoomRow.holds Tryz.pinned (OpenSpec.ofChange fnStoreRoomSpec)

/-- ITS FALSE NEIGHBOUR: 'it returns false'. Refute it at one input. -/
def fnStoreRoomWrong : ChangeSpec := { name := "fnStoreRoom", fn := fun _ => fun
  | [d] => { results := [.lit (.bool false)], args := [d] }
  | _ => none }
def FnStoreRoomWrongFalsely : Prop := fnStoreRoomRow.holds Tryz.pinned (OpenSpec.ofChange fnStoreRoomWrong)

/-- 'laws.FnStoreNext': WHATEVER THE INPUT: true; the input reads as it did. -/
def fnStoreNextSpec : ChangeSpec := { name := "fnStoreNext", fn := fun _ => fun
  | [d] => { results := [.lit (.bool true)], args := [d] }
  | _ => none }
def fnStoreNextRow : OpenClaim := { program := "ytfhdmfcfcgbgeaagreat", sum := "7dd94d0cd27a7f7ab170912e96af6f9ad07c973ba77fba84b065b63eefe65e42", func := "loop.example/poolfiles/laws.FnStoreNext", spec := "fnStoreNext", unfollowed := true, recurses := true, apart := false }
def FnStoreNextSaid : Prop := fnStoreNextRow.holds Tryz.pinned (OpenSpec.ofChange fnStoreNextSpec)

/-- ITS FALSE NEIGHBOUR: 'it returns false'. Refute it at one input. -/
def fnStoreNextWrong : ChangeSpec := { name := "fnStoreNext", fn := fun _ => fun
  | [d] => { results := [.lit (.bool false)], args := [d] }
  | _ => none }
def FnStoreNextWrongFalsely : Prop := fnStoreNextRow.holds Tryz.pinned (OpenSpec.ofChange fnStoreNextWrong)

/-- 'laws.FnStoreFree': WHATEVER THE INPUT: true; the input reads as it did. -/
def fnStoreFreeSpec : ChangeSpec := { name := "fnStoreFree", fn := fun _ => fun
  | [d] => { results := [.lit (.bool true)], args := [d] }
  | _ => none }
def fnStoreFreeRow : OpenClaim := { program := "ytfhdmfcfcgbgeaagreat", sum := "7dd94d0cd27a7f7ab170912e96af6f9ad07c973ba77fba84b065b63eefe65e42", func := "loop.example/poolfiles/laws.FnStoreFree", spec := "fnStoreFree", unfollowed := true, recurses := true, apart := false }
def FnStoreFreeSaid : Prop := fnStoreFreeRow.holds Tryz.pinned (OpenSpec.ofChange fnStoreFreeSpec)

/-- ITS FALSE NEIGHBOUR: 'it returns false'. Refute it at one input. -/
def fnStoreFreeWrong : ChangeSpec := { name := "fnStoreFree", fn := fun _ => fun
  | [d] => { results := [.lit (.bool false)], args := [d] }
  | _ => none }
def FnStoreFreeWrongFalsely : Prop := fnStoreFreeRow.holds Tryz.pinned (OpenSpec.ofChange fnStoreFreeWrong)

/-- 'laws.FnStoreRound': WHATEVER THE INPUT: true; the input reads as it did. -/
def fnStoreRoundSpec : ChangeSpec := { name := "fnStoreRound", fn := fun _ => fun
  | [d] => { results := [.lit (.bool true)], args := [d] }
  | _ => none }
def fnStoreRoundRow : OpenClaim := { program := "ytfhdmfcfcgbgeaagreat", sum := "7dd94d0cd27a7f7ab170912e96af6f9ad07c973ba77fba84b065b63eefe65e42", func := "loop.example/poolfiles/laws.FnStoreRound", spec := "fnStoreRound", unfollowed := true, recurses := true, apart := false }
def FnStoreRoundSaid : Prop := fnStoreRoundRow.holds Tryz.pinned (OpenSpec.ofChange fnStoreRoundSpec)

/-- ITS FALSE NEIGHBOUR: 'it returns false'. Refute it at one input. -/
def fnStoreRoundWrong : ChangeSpec := { name := "fnStoreRound", fn := fun _ => fun
  | [d] => { results := [.lit (.bool false)], args := [d] }
  | _ => none }
def FnStoreRoundWrongFalsely : Prop := fnStoreRoundRow.holds Tryz.pinned (OpenSpec.ofChange fnStoreRoundWrong)

/-- 'laws.FnStoreSame': WHATEVER THE INPUT: true; the input reads as it did. -/
def fnStoreSameSpec : ChangeSpec := { name := "fnStoreSame", fn := fun _ => fun
  | [d] => { results := [.lit (.bool true)], args := [d] }
  | _ => none }
def fnStoreSameRow : OpenClaim := { program := "ytfhdmfcfcgbgeaagreat", sum := "7dd94d0cd27a7f7ab170912e96af6f9ad07c973ba77fba84b065b63eefe65e42", func := "loop.example/poolfiles/laws.FnStoreSame", spec := "fnStoreSame", unfollowed := true, recurses := true, apart := false }
def FnStoreSameSaid : Prop := fnStoreSameRow.holds Tryz.pinned (OpenSpec.ofChange fnStoreSameSpec)

/-- ITS FALSE NEIGHBOUR: 'it returns false'. Refute it at one input. -/
def fnStoreSameWrong : ChangeSpec := { name := "fnStoreSame", fn := fun _ => fun
  | [d] => { results := [.lit (.bool false)], args := [d] }
  | _ => none }
def FnStoreSameWrongFalsely : Prop := fnStoreSameRow.holds Tryz.pinned (OpenSpec.ofChange fnStoreSameWrong)

/-- 'laws.FnStoreLater': WHATEVER THE INPUT: true; the input reads as it did. -/
def fnStoreLaterSpec : ChangeSpec := { name := "fnStoreLater", fn := fun _ => fun
  | [d] => { results := [.lit (.bool true)], args := [d] }
  | _ => none }
def fnStoreLaterRow : OpenClaim := { program := "ytfhdmfcfcgbgeaagreat", sum := "7dd94d0cd27a7f7ab170912e96af6f9ad07c973ba77fba84b065b63eefe65e42", func := "loop.example/poolfiles/laws.FnStoreLater", spec := "fnStoreLater", unfollowed := true, recurses := true, apart := false }
def FnStoreLaterSaid : Prop := fnStoreLaterRow.holds Tryz.pinned (OpenSpec.ofChange fnStoreLaterSpec)

/-- ITS FALSE NEIGHBOUR: 'it returns false'. Refute it at one input. -/
def fnStoreLaterWrong : ChangeSpec := { name := "fnStoreLater", fn := fun _ => fun
  | [d] => { results := [.lit (.bool false)], args := [d] }
  | _ => none }
def FnStoreLaterWrongFalsely : Prop := fnStoreLaterRow.holds Tryz.pinned (OpenSpec.ofChange fnStoreLaterWrong)

/-- 'laws.FnStoreWrite': WHATEVER THE INPUT: true; the input reads as it did. -/
def fnStoreWriteSpec : ChangeSpec := { name := "fnStoreWrite", fn := fun _ => fun
  | [d] => { results := [.lit (.bool true)], args := [d] }
  | _ => none }
def fnStoreWriteRow : OpenClaim := { program := "ytfhdmfcfcgbgeaagreat", sum := "7dd94d0cd27a7f7ab170912e96af6f9ad07c973ba77fba84b065b63eefe65e42", func := "loop.example/poolfiles/laws.FnStoreWrite", spec := "fnStoreWrite", unfollowed := true, recurses := true, apart := false }
def FnStoreWriteSaid : Prop := fnStoreWriteRow.holds Tryz.pinned (OpenSpec.ofChange fnStoreWriteSpec)

/-- ITS FALSE NEIGHBOUR: 'it returns false'. Refute it at one input. -/
def fnStoreWriteWrong : ChangeSpec := { name := "fnStoreWrite", fn := fun _ => fun
  | [d] => { results := [.lit (.bool false)], args := [d] }
  | _ => none }
def FnStoreWriteWrongFalsely : Prop := fnStoreWriteRow.holds Tryz.pinned (OpenSpec.ofChange fnStoreWriteWrong)

/- THE SECOND FORM. 'bulk': how many values and letters a reading holds, each counted each time it is reached (what is shared counts as often as it is met; a slice's spare places count too). A statement '..UptoSaid' is the law's where the arguments, and the package variables that the reading takes, are together of bulk at most 1048576: NARROWER than '..Said'. Prove '..Said' where nothing that the law and all that it calls make is longer than what came in: it says more and counts as full. Else prove '..UptoSaid'. A law counts once. -/
mutual
def uptoBulk {H : Type} : DataW H → Nat
  | .lit (.string bytes) => bytes.length + 1
  | .lit _ => 1
  | .nil => 1
  | .ptr d => uptoBulk d + 1
  | .slice elems spare => uptoBulkAll elems + uptoBulkAll spare + 1
  | .agg parts => uptoBulkAll parts + 1
  | .iface _ d => uptoBulk d + 1
  | .map entries => uptoBulkEntries entries + 1
  | .held _ => 1
def uptoBulkAll {H : Type} : List (DataW H) → Nat
  | [] => 0
  | d :: r => uptoBulk d + uptoBulkAll r
def uptoBulkEntries {H : Type} : List (Lit × DataW H) → Nat
  | [] => 0
  | x :: r => uptoBulkEntry x + uptoBulkEntries r
def uptoBulkEntry {H : Type} : Lit × DataW H → Nat
  | (.string bytes, d) => bytes.length + uptoBulk d + 1
  | (_, d) => uptoBulk d + 1
 end
def uptoSmall : (H : Type) → List (DataW H) → Bool := fun _ ds => decide (uptoBulkAll ds ≤ 1048576)
def OpenSpec.upto (s : _root_.Go.ChangeSpec) : _root_.Go.OpenSpec := { _root_.Go.OpenSpec.ofChange s with cond := some uptoSmall }

/-- 'laws.FnStoreRead', WHERE WHAT IT READS IS OF BULK AT MOST 1048576: true; the input reads as it did. -/
def fnStoreReadUptoRow : OpenClaim := { program := "ytfhdmfcfcgbgeaagreat", sum := "7dd94d0cd27a7f7ab170912e96af6f9ad07c973ba77fba84b065b63eefe65e42", func := "loop.example/poolfiles/laws.FnStoreRead", spec := "fnStoreRead", unfollowed := true, recurses := true, apart := false, narrowed := true }
def FnStoreReadUptoSaid : Prop := fnStoreReadUptoRow.holds Tryz.pinned (OpenSpec.upto fnStoreReadSpec)

/-- 'laws.FnStoreOk', WHERE WHAT IT READS IS OF BULK AT MOST 1048576: true; the input reads as it did. -/
def fnStoreOkUptoRow : OpenClaim := { program := "ytfhdmfcfcgbgeaagreat", sum := "7dd94d0cd27a7f7ab170912e96af6f9ad07c973ba77fba84b065b63eefe65e42", func := "loop.example/poolfiles/laws.FnStoreOk", spec := "fnStoreOk", unfollowed := true, recurses := true, apart := false, narrowed := true }
def FnStoreOkUptoSaid : Prop := fnStoreOkUptoRow.holds Tryz.pinned (OpenSpec.upto fnStoreOkSpec)

/-- 'laws.FnStoreRoom', WHERE WHAT IT READS IS OF BULK AT MOST 1048576: true; the input reads as it did. -/
def fnStoreRoomUptoRow : OpenClaim := { program := "ytfhdmfcfcgbgeaagreat", sum := "7dd94d0cd27a7f7ab170912e96af6f9ad07c973ba77fba84b065b63eefe65e42", func := "loop.example/poolfiles/laws.FnStoreRoom", spec := "fnStoreRoom", unfollowed := true, recurses := true, apart := false, narrowed := true }
def FnStoreRoomUptoSaid : Prop := fnStoreRoomUptoRow.holds Tryz.pinned (OpenSpec.upto fnStoreRoomSpec)

/-- 'laws.FnStoreNext', WHERE WHAT IT READS IS OF BULK AT MOST 1048576: true; the input reads as it did. -/
def fnStoreNextUptoRow : OpenClaim := { program := "ytfhdmfcfcgbgeaagreat", sum := "7dd94d0cd27a7f7ab170912e96af6f9ad07c973ba77fba84b065b63eefe65e42", func := "loop.example/poolfiles/laws.FnStoreNext", spec := "fnStoreNext", unfollowed := true, recurses := true, apart := false, narrowed := true }
def FnStoreNextUptoSaid : Prop := fnStoreNextUptoRow.holds Tryz.pinned (OpenSpec.upto fnStoreNextSpec)

/-- 'laws.FnStoreFree', WHERE WHAT IT READS IS OF BULK AT MOST 1048576: true; the input reads as it did. -/
def fnStoreFreeUptoRow : OpenClaim := { program := "ytfhdmfcfcgbgeaagreat", sum := "7dd94d0cd27a7f7ab170912e96af6f9ad07c973ba77fba84b065b63eefe65e42", func := "loop.example/poolfiles/laws.FnStoreFree", spec := "fnStoreFree", unfollowed := true, recurses := true, apart := false, narrowed := true }
def FnStoreFreeUptoSaid : Prop := fnStoreFreeUptoRow.holds Tryz.pinned (OpenSpec.upto fnStoreFreeSpec)

/-- 'laws.FnStoreRound', WHERE WHAT IT READS IS OF BULK AT MOST 1048576: true; the input reads as it did. -/
def fnStoreRoundUptoRow : OpenClaim := { program := "ytfhdmfcfcgbgeaagreat", sum := "7dd94d0cd27a7f7ab170912e96af6f9ad07c973ba77fba84b065b63eefe65e42", func := "loop.example/poolfiles/laws.FnStoreRound", spec := "fnStoreRound", unfollowed := true, recurses := true, apart := false, narrowed := true }
def FnStoreRoundUptoSaid : Prop := fnStoreRoundUptoRow.holds Tryz.pinned (OpenSpec.upto fnStoreRoundSpec)

/-- 'laws.FnStoreSame', WHERE WHAT IT READS IS OF BULK AT MOST 1048576: true; the input reads as it did. -/
def fnStoreSameUptoRow : OpenClaim := { program := "ytfhdmfcfcgbgeaagreat", sum := "7dd94d0cd27a7f7ab170912e96af6f9ad07c973ba77fba84b065b63eefe65e42", func := "loop.example/poolfiles/laws.FnStoreSame", spec := "fnStoreSame", unfollowed := true, recurses := true, apart := false, narrowed := true }
def FnStoreSameUptoSaid : Prop := fnStoreSameUptoRow.holds Tryz.pinned (OpenSpec.upto fnStoreSameSpec)

/-- 'laws.FnStoreLater', WHERE WHAT IT READS IS OF BULK AT MOST 1048576: true; the input reads as it did. -/
def fnStoreLaterUptoRow : OpenClaim := { program := "ytfhdmfcfcgbgeaagreat", sum := "7dd94d0cd27a7f7ab170912e96af6f9ad07c973ba77fba84b065b63eefe65e42", func := "loop.example/poolfiles/laws.FnStoreLater", spec := "fnStoreLater", unfollowed := true, recurses := true, apart := false, narrowed := true }
def FnStoreLaterUptoSaid : Prop := fnStoreLaterUptoRow.holds Tryz.pinned (OpenSpec.upto fnStoreLaterSpec)

/-- 'laws.FnStoreWrite', WHERE WHAT IT READS IS OF BULK AT MOST 1048576: true; the input reads as it did. -/
def fnStoreWriteUptoRow : OpenClaim := { program := "ytfhdmfcfcgbgeaagreat", sum := "7dd94d0cd27a7f7ab170912e96af6f9ad07c973ba77fba84b065b63eefe65e42", func := "loop.example/poolfiles/laws.FnStoreWrite", spec := "fnStoreWrite", unfollowed := true, recurses := true, apart := false, narrowed := true }
def FnStoreWriteUptoSaid : Prop := fnStoreWriteUptoRow.holds Tryz.pinned (OpenSpec.upto fnStoreWriteSpec)

end Rows
end Go.Proofs.YtfhdmfcfcgbgeaaGreat
