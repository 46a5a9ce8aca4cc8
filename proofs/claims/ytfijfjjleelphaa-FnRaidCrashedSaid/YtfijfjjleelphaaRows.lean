/-
  No cell of these rows narrows 'for every input' (looked for: loops, veiled, ifaces, maps, wideKeys, modest, calm, conditions, laid).
  DERIVED. THE GIVEN ROWS OF THIS SEAT. 6 by the template 'for every input the law returns true; each argument reads behind the call as it read before'; 0 by the template 'total and deterministic' (their statements: YtfijfjjleelphaaTotals.lean).
  GIVEN WITH THE SEED: the statements are not yours to turn. If you find one false, say at which input.
  Laid BY PROGRAM, IN A SANDBOX (cutbox-rows.mjs): the forced cells as the released guide's own fill.sh prints them over the translation 6b4df00c7965af6c… (all of the seat's roots in one cut). By AI agents, Wed Nov 11 2026. No macro, syntax, notation, axiom, sorry.
-/
import Derived.Test.YtfijfjjleelphaaChecked
import GoSem.Claim
import GoSem.ClaimJoined
import GoSem.ClaimMapViews
import Derived.JoinedTies
import Derived.KernelRfl
namespace Go.Proofs.Ytfijfjjleelphaa
/- THE CELL 'sum', in the pinned program and in every row, IS THE sha256 OF THE DUMP (.gsa) THAT YtfijfjjleelphaaProg.lean LOADS. Nothing in Lean hashes anything: it is a label: what it is worth is what the hold of that sum in a sandbox is worth. -/
noncomputable def Try.pinned : Pinned := { name := "ytfijfjjleelphaa", sum := "6b4df00c7965af6c04122c7f4a2beee0a4a5fcb5b4f5e03a88d7dae57dac4239", checked := Try.checked }
namespace Rows
def none {H : Type} : Left H := { results := [], args := [] }

/-- 'laws.FnRaidWrite': WHATEVER THE INPUT: true; the input reads as it did. -/
def fnRaidWriteSpec : ChangeSpec := { name := "fnRaidWrite", fn := fun _ => fun
  | [d] => { results := [.lit (.bool true)], args := [d] }
  | _ => none }
def fnRaidWriteRow : OpenClaim := { program := "ytfijfjjleelphaa", sum := "6b4df00c7965af6c04122c7f4a2beee0a4a5fcb5b4f5e03a88d7dae57dac4239", func := "loop.example/poolfiles/laws.FnRaidWrite", spec := "fnRaidWrite", unfollowed := true, recurses := true, apart := false }
def FnRaidWriteSaid : Prop := fnRaidWriteRow.holds Try.pinned (OpenSpec.ofChange fnRaidWriteSpec)

/-- ITS FALSE NEIGHBOUR: 'it returns false'. Refute it at one input. -/
def fnRaidWriteWrong : ChangeSpec := { name := "fnRaidWrite", fn := fun _ => fun
  | [d] => { results := [.lit (.bool false)], args := [d] }
  | _ => none }
def FnRaidWriteWrongFalsely : Prop := fnRaidWriteRow.holds Try.pinned (OpenSpec.ofChange fnRaidWriteWrong)

/-- 'laws.FnRaidOne': WHATEVER THE INPUT: true; the input reads as it did. -/
def fnRaidOneSpec : ChangeSpec := { name := "fnRaidOne", fn := fun _ => fun
  | [d1, d2] => { results := [.lit (.bool true)], args := [d1, d2] }
  | _ => none }
def fnRaidOneRow : OpenClaim := { program := "ytfijfjjleelphaa", sum := "6b4df00c7965af6c04122c7f4a2beee0a4a5fcb5b4f5e03a88d7dae57dac4239", func := "loop.example/poolfiles/laws.FnRaidOne", spec := "fnRaidOne", unfollowed := true, recurses := true, apart := false }
def FnRaidOneSaid : Prop := fnRaidOneRow.holds Try.pinned (OpenSpec.ofChange fnRaidOneSpec)

/-- ITS FALSE NEIGHBOUR: 'it returns false'. Refute it at one input. -/
def fnRaidOneWrong : ChangeSpec := { name := "fnRaidOne", fn := fun _ => fun
  | [d1, d2] => { results := [.lit (.bool false)], args := [d1, d2] }
  | _ => none }
def FnRaidOneWrongFalsely : Prop := fnRaidOneRow.holds Try.pinned (OpenSpec.ofChange fnRaidOneWrong)

/-- 'laws.FnRaidCrashed': WHATEVER THE INPUT: true; the input reads as it did. -/
def fnRaidCrashedSpec : ChangeSpec := { name := "fnRaidCrashed", fn := fun _ => fun
  | [d1, d2] => { results := [.lit (.bool true)], args := [d1, d2] }
  | _ => none }
def fnRaidCrashedRow : OpenClaim := { program := "ytfijfjjleelphaa", sum := "6b4df00c7965af6c04122c7f4a2beee0a4a5fcb5b4f5e03a88d7dae57dac4239", func := "loop.example/poolfiles/laws.FnRaidCrashed", spec := "fnRaidCrashed", unfollowed := true, recurses := true, apart := false }
def FnRaidCrashedSaid : Prop := fnRaidCrashedRow.holds Try.pinned (OpenSpec.ofChange fnRaidCrashedSpec)

/-- ITS FALSE NEIGHBOUR: 'it returns false'. Refute it at one input. -/
def fnRaidCrashedWrong : ChangeSpec := { name := "fnRaidCrashed", fn := fun _ => fun
  | [d1, d2] => { results := [.lit (.bool false)], args := [d1, d2] }
  | _ => none }
def FnRaidCrashedWrongFalsely : Prop := fnRaidCrashedRow.holds Try.pinned (OpenSpec.ofChange fnRaidCrashedWrong)

/-- 'laws.FnExactStoreWrite': WHATEVER THE INPUT: true; the input reads as it did. -/
def fnExactStoreWriteSpec : ChangeSpec := { name := "fnExactStoreWrite", fn := fun _ => fun
  | [d1, d2, d3] => { results := [.lit (.bool true)], args := [d1, d2, d3] }
  | _ => none }
def fnExactStoreWriteRow : OpenClaim := { program := "ytfijfjjleelphaa", sum := "6b4df00c7965af6c04122c7f4a2beee0a4a5fcb5b4f5e03a88d7dae57dac4239", func := "loop.example/poolfiles/laws.FnExactStoreWrite", spec := "fnExactStoreWrite", unfollowed := true, recurses := true, apart := false }
def FnExactStoreWriteSaid : Prop := fnExactStoreWriteRow.holds Try.pinned (OpenSpec.ofChange fnExactStoreWriteSpec)

/-- ITS FALSE NEIGHBOUR: 'it returns false'. Refute it at one input. -/
def fnExactStoreWriteWrong : ChangeSpec := { name := "fnExactStoreWrite", fn := fun _ => fun
  | [d1, d2, d3] => { results := [.lit (.bool false)], args := [d1, d2, d3] }
  | _ => none }
def FnExactStoreWriteWrongFalsely : Prop := fnExactStoreWriteRow.holds Try.pinned (OpenSpec.ofChange fnExactStoreWriteWrong)

/-- 'laws.FnRaidHeal': WHATEVER THE INPUT: true; the input reads as it did. -/
def fnRaidHealSpec : ChangeSpec := { name := "fnRaidHeal", fn := fun _ => fun
  | [d] => { results := [.lit (.bool true)], args := [d] }
  | _ => none }
def fnRaidHealRow : OpenClaim := { program := "ytfijfjjleelphaa", sum := "6b4df00c7965af6c04122c7f4a2beee0a4a5fcb5b4f5e03a88d7dae57dac4239", func := "loop.example/poolfiles/laws.FnRaidHeal", spec := "fnRaidHeal", unfollowed := true, recurses := true, apart := false }
def FnRaidHealSaid : Prop := fnRaidHealRow.holds Try.pinned (OpenSpec.ofChange fnRaidHealSpec)

/-- ITS FALSE NEIGHBOUR: 'it returns false'. Refute it at one input. -/
def fnRaidHealWrong : ChangeSpec := { name := "fnRaidHeal", fn := fun _ => fun
  | [d] => { results := [.lit (.bool false)], args := [d] }
  | _ => none }
def FnRaidHealWrongFalsely : Prop := fnRaidHealRow.holds Try.pinned (OpenSpec.ofChange fnRaidHealWrong)

/-- 'laws.FnExactRaidHeal': WHATEVER THE INPUT: true; the input reads as it did. -/
def fnExactRaidHealSpec : ChangeSpec := { name := "fnExactRaidHeal", fn := fun _ => fun
  | [d1, d2] => { results := [.lit (.bool true)], args := [d1, d2] }
  | _ => none }
def fnExactRaidHealRow : OpenClaim := { program := "ytfijfjjleelphaa", sum := "6b4df00c7965af6c04122c7f4a2beee0a4a5fcb5b4f5e03a88d7dae57dac4239", func := "loop.example/poolfiles/laws.FnExactRaidHeal", spec := "fnExactRaidHeal", unfollowed := true, recurses := true, apart := false }
def FnExactRaidHealSaid : Prop := fnExactRaidHealRow.holds Try.pinned (OpenSpec.ofChange fnExactRaidHealSpec)

/-- ITS FALSE NEIGHBOUR: 'it returns false'. Refute it at one input. -/
def fnExactRaidHealWrong : ChangeSpec := { name := "fnExactRaidHeal", fn := fun _ => fun
  | [d1, d2] => { results := [.lit (.bool false)], args := [d1, d2] }
  | _ => none }
def FnExactRaidHealWrongFalsely : Prop := fnExactRaidHealRow.holds Try.pinned (OpenSpec.ofChange fnExactRaidHealWrong)

/- THE SECOND FORM. 'bulk': how many values and letters a reading holds, each counted each time it is reached (what is shared counts as often as it is met; a slice's spare places count too). A statement '..UptoSaid' is the law's where the arguments, and the package variables that the reading takes, are together of bulk at most 1048576: NARROWER than '..Said'. Prove '..Said' where nothing that the law and all that it calls make is longer than what came in: it says more and counts as full. Else prove '..UptoSaid'. A law counts once. -/
mutual
def uptoBulk {H : Type} : DataW H → Nat
  | .lit (.string bytes) => bytes.length + 1
  | .lit _ => 1
  | .nil => 1
  | .ptr d => uptoBulk d + 1
  | .slice elems spare => uptoBulkAll elems + uptoBulkAll spare + 1
  | .agg parts => uptoBulkAll parts + 1
  | .iface _ d => uptoBulk d + 1
  | .map entries => uptoBulkEntries entries + 1
  | .held _ => 1
def uptoBulkAll {H : Type} : List (DataW H) → Nat
  | [] => 0
  | d :: r => uptoBulk d + uptoBulkAll r
def uptoBulkEntries {H : Type} : List (Lit × DataW H) → Nat
  | [] => 0
  | x :: r => uptoBulkEntry x + uptoBulkEntries r
def uptoBulkEntry {H : Type} : Lit × DataW H → Nat
  | (.string bytes, d) => bytes.length + uptoBulk d + 1
  | (_, d) => uptoBulk d + 1
 end
def uptoSmall : (H : Type) → List (DataW H) → Bool := fun _ ds => decide (uptoBulkAll ds ≤ 1048576)
def OpenSpec.upto (s : _root_.Go.ChangeSpec) : _root_.Go.OpenSpec := { _root_.Go.OpenSpec.ofChange s with cond := some uptoSmall }

/-- 'laws.FnRaidWrite', WHERE WHAT IT READS IS OF BULK AT MOST 1048576: true; the input reads as it did. -/
def fnRaidWriteUptoRow : OpenClaim := { program := "ytfijfjjleelphaa", sum := "6b4df00c7965af6c04122c7f4a2beee0a4a5fcb5b4f5e03a88d7dae57dac4239", func := "loop.example/poolfiles/laws.FnRaidWrite", spec := "fnRaidWrite", unfollowed := true, recurses := true, apart := false, narrowed := true }
def FnRaidWriteUptoSaid : Prop := fnRaidWriteUptoRow.holds Try.pinned (OpenSpec.upto fnRaidWriteSpec)

/-- 'laws.FnRaidOne', WHERE WHAT IT READS IS OF BULK AT MOST 1048576: true; the input reads as it did. -/
def fnRaidOneUptoRow : OpenClaim := { program := "ytfijfjjleelphaa", sum := "6b4df00c7965af6c04122c7f4a2beee0a4a5fcb5b4f5e03a88d7dae57dac4239", func := "loop.example/poolfiles/laws.FnRaidOne", spec := "fnRaidOne", unfollowed := true, recurses := true, apart := false, narrowed := true }
def FnRaidOneUptoSaid : Prop := fnRaidOneUptoRow.holds Try.pinned (OpenSpec.upto fnRaidOneSpec)

/-- 'laws.FnRaidCrashed', WHERE WHAT IT READS IS OF BULK AT MOST 1048576: true; the input reads as it did. -/
def fnRaidCrashedUptoRow : OpenClaim := { program := "ytfijfjjleelphaa", sum := "6b4df00c7965af6c04122c7f4a2beee0a4a5fcb5b4f5e03a88d7dae57dac4239", func := "loop.example/poolfiles/laws.FnRaidCrashed", spec := "fnRaidCrashed", unfollowed := true, recurses := true, apart := false, narrowed := true }
def FnRaidCrashedUptoSaid : Prop := fnRaidCrashedUptoRow.holds Try.pinned (OpenSpec.upto fnRaidCrashedSpec)

/-- 'laws.FnExactStoreWrite', WHERE WHAT IT READS IS OF BULK AT MOST 1048576: true; the input reads as it did. -/
def fnExactStoreWriteUptoRow : OpenClaim := { program := "ytfijfjjleelphaa", sum := "6b4df00c7965af6c04122c7f4a2beee0a4a5fcb5b4f5e03a88d7dae57dac4239", func := "loop.example/poolfiles/laws.FnExactStoreWrite", spec := "fnExactStoreWrite", unfollowed := true, recurses := true, apart := false, narrowed := true }
def FnExactStoreWriteUptoSaid : Prop := fnExactStoreWriteUptoRow.holds Try.pinned (OpenSpec.upto fnExactStoreWriteSpec)

/-- 'laws.FnRaidHeal', WHERE WHAT IT READS IS OF BULK AT MOST 1048576: true; the input reads as it did. -/
def fnRaidHealUptoRow : OpenClaim := { program := "ytfijfjjleelphaa", sum := "6b4df00c7965af6c04122c7f4a2beee0a4a5fcb5b4f5e03a88d7dae57dac4239", func := "loop.example/poolfiles/laws.FnRaidHeal", spec := "fnRaidHeal", unfollowed := true, recurses := true, apart := false, narrowed := true }
def FnRaidHealUptoSaid : Prop := fnRaidHealUptoRow.holds Try.pinned (OpenSpec.upto fnRaidHealSpec)

/-- 'laws.FnExactRaidHeal', WHERE WHAT IT READS IS OF BULK AT MOST 1048576: true; the input reads as it did. -/
def fnExactRaidHealUptoRow : OpenClaim := { program := "ytfijfjjleelphaa", sum := "6b4df00c7965af6c04122c7f4a2beee0a4a5fcb5b4f5e03a88d7dae57dac4239", func := "loop.example/poolfiles/laws.FnExactRaidHeal", spec := "fnExactRaidHeal", unfollowed := true, recurses := true, apart := false, narrowed := true }
def FnExactRaidHealUptoSaid : Prop := fnExactRaidHealUptoRow.holds Try.pinned (OpenSpec.upto fnExactRaidHealSpec)

end Rows
end Go.Proofs.Ytfijfjjleelphaa
