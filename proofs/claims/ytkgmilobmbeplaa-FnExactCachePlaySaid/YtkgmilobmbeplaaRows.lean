/-
  No cell of these rows narrows 'for every input' (looked for: loops, veiled, ifaces, maps, wideKeys, modest, calm, conditions, laid).
  DERIVED. THE GIVEN ROWS OF THIS SEAT. 6 by the template 'for every input the law returns true; each argument reads behind the call as it read before'; 0 by the template 'total and deterministic' (their statements: YtkgmilobmbeplaaTotals.lean).
  GIVEN WITH THE SEED: the statements are not yours to turn. If you find one false, say at which input.
  Laid BY PROGRAM, IN A SANDBOX (cutbox-rows.mjs): the forced cells as the released guide's own fill.sh prints them over the translation 2feb9b038e0c6852… (all of the seat's roots in one cut). By AI agents, Wed Nov 11 2026. No macro, syntax, notation, axiom, sorry.
-/
import Derived.Test.YtkgmilobmbeplaaChecked
import GoSem.Claim
import GoSem.ClaimJoined
import GoSem.ClaimMapViews
import Derived.JoinedTies
import Derived.KernelRfl
namespace Go.Proofs.Ytkgmilobmbeplaa
/- THE CELL 'sum', in the pinned program and in every row, IS THE sha256 OF THE DUMP (.gsa) THAT YtkgmilobmbeplaaProg.lean LOADS. Nothing in Lean hashes anything: it is a label: what it is worth is what the hold of that sum in a sandbox is worth. -/
noncomputable def Try.pinned : Pinned := { name := "ytkgmilobmbeplaa", sum := "2feb9b038e0c68529f67287ecc88510692aa6d4c4c12bb5a389d3f9a515ef9d3", checked := Try.checked }
namespace Rows
def none {H : Type} : Left H := { results := [], args := [] }

/-- 'laws.FnExactSendBytes': WHATEVER THE INPUT: true; the input reads as it did. -/
def fnExactSendBytesSpec : ChangeSpec := { name := "fnExactSendBytes", fn := fun _ => fun
  | [d] => { results := [.lit (.bool true)], args := [d] }
  | _ => none }
def fnExactSendBytesRow : OpenClaim := { program := "ytkgmilobmbeplaa", sum := "2feb9b038e0c68529f67287ecc88510692aa6d4c4c12bb5a389d3f9a515ef9d3", func := "loop.example/poolfiles/laws.FnExactSendBytes", spec := "fnExactSendBytes", apart := false }
def FnExactSendBytesSaid : Prop := fnExactSendBytesRow.holds Try.pinned (OpenSpec.ofChange fnExactSendBytesSpec)

/-- ITS FALSE NEIGHBOUR: 'it returns false'. Refute it at one input. -/
def fnExactSendBytesWrong : ChangeSpec := { name := "fnExactSendBytes", fn := fun _ => fun
  | [d] => { results := [.lit (.bool false)], args := [d] }
  | _ => none }
def FnExactSendBytesWrongFalsely : Prop := fnExactSendBytesRow.holds Try.pinned (OpenSpec.ofChange fnExactSendBytesWrong)

/-- 'laws.FnExactSendOk': WHATEVER THE INPUT: true; the input reads as it did. -/
def fnExactSendOkSpec : ChangeSpec := { name := "fnExactSendOk", fn := fun _ => fun
  | [d] => { results := [.lit (.bool true)], args := [d] }
  | _ => none }
def fnExactSendOkRow : OpenClaim := { program := "ytkgmilobmbeplaa", sum := "2feb9b038e0c68529f67287ecc88510692aa6d4c4c12bb5a389d3f9a515ef9d3", func := "loop.example/poolfiles/laws.FnExactSendOk", spec := "fnExactSendOk", apart := false }
def FnExactSendOkSaid : Prop := fnExactSendOkRow.holds Try.pinned (OpenSpec.ofChange fnExactSendOkSpec)

/-- ITS FALSE NEIGHBOUR: 'it returns false'. Refute it at one input. -/
def fnExactSendOkWrong : ChangeSpec := { name := "fnExactSendOk", fn := fun _ => fun
  | [d] => { results := [.lit (.bool false)], args := [d] }
  | _ => none }
def FnExactSendOkWrongFalsely : Prop := fnExactSendOkRow.holds Try.pinned (OpenSpec.ofChange fnExactSendOkWrong)

/-- 'laws.FnExactTaleSame': WHATEVER THE INPUT: true; the input reads as it did. -/
def fnExactTaleSameSpec : ChangeSpec := { name := "fnExactTaleSame", fn := fun _ => fun
  | [d1, d2] => { results := [.lit (.bool true)], args := [d1, d2] }
  | _ => none }
def fnExactTaleSameRow : OpenClaim := { program := "ytkgmilobmbeplaa", sum := "2feb9b038e0c68529f67287ecc88510692aa6d4c4c12bb5a389d3f9a515ef9d3", func := "loop.example/poolfiles/laws.FnExactTaleSame", spec := "fnExactTaleSame", unfollowed := true, recurses := true, apart := false }
def FnExactTaleSameSaid : Prop := fnExactTaleSameRow.holds Try.pinned (OpenSpec.ofChange fnExactTaleSameSpec)

/-- ITS FALSE NEIGHBOUR: 'it returns false'. Refute it at one input. -/
def fnExactTaleSameWrong : ChangeSpec := { name := "fnExactTaleSame", fn := fun _ => fun
  | [d1, d2] => { results := [.lit (.bool false)], args := [d1, d2] }
  | _ => none }
def FnExactTaleSameWrongFalsely : Prop := fnExactTaleSameRow.holds Try.pinned (OpenSpec.ofChange fnExactTaleSameWrong)

/-- 'laws.FnExactCachePlay': WHATEVER THE INPUT: true; the input reads as it did. -/
def fnExactCachePlaySpec : ChangeSpec := { name := "fnExactCachePlay", fn := fun _ => fun
  | [d1, d2] => { results := [.lit (.bool true)], args := [d1, d2] }
  | _ => none }
def fnExactCachePlayRow : OpenClaim := { program := "ytkgmilobmbeplaa", sum := "2feb9b038e0c68529f67287ecc88510692aa6d4c4c12bb5a389d3f9a515ef9d3", func := "loop.example/poolfiles/laws.FnExactCachePlay", spec := "fnExactCachePlay", inPlace := ["slices.overlaps[int]"], apart := false }
def FnExactCachePlaySaid : Prop := fnExactCachePlayRow.holds Try.pinned (OpenSpec.ofChange fnExactCachePlaySpec)

/-- ITS FALSE NEIGHBOUR: 'it returns false'. Refute it at one input. -/
def fnExactCachePlayWrong : ChangeSpec := { name := "fnExactCachePlay", fn := fun _ => fun
  | [d1, d2] => { results := [.lit (.bool false)], args := [d1, d2] }
  | _ => none }
def FnExactCachePlayWrongFalsely : Prop := fnExactCachePlayRow.holds Try.pinned (OpenSpec.ofChange fnExactCachePlayWrong)

/-- 'laws.FnExactStoreNext': WHATEVER THE INPUT: true; the input reads as it did. -/
def fnExactStoreNextSpec : ChangeSpec := { name := "fnExactStoreNext", fn := fun _ => fun
  | [d] => { results := [.lit (.bool true)], args := [d] }
  | _ => none }
def fnExactStoreNextRow : OpenClaim := { program := "ytkgmilobmbeplaa", sum := "2feb9b038e0c68529f67287ecc88510692aa6d4c4c12bb5a389d3f9a515ef9d3", func := "loop.example/poolfiles/laws.FnExactStoreNext", spec := "fnExactStoreNext", unfollowed := true, recurses := true, apart := false }
def FnExactStoreNextSaid : Prop := fnExactStoreNextRow.holds Try.pinned (OpenSpec.ofChange fnExactStoreNextSpec)

/-- ITS FALSE NEIGHBOUR: 'it returns false'. Refute it at one input. -/
def fnExactStoreNextWrong : ChangeSpec := { name := "fnExactStoreNext", fn := fun _ => fun
  | [d] => { results := [.lit (.bool false)], args := [d] }
  | _ => none }
def FnExactStoreNextWrongFalsely : Prop := fnExactStoreNextRow.holds Try.pinned (OpenSpec.ofChange fnExactStoreNextWrong)

/-- 'laws.FnExactStoreFree': WHATEVER THE INPUT: true; the input reads as it did. -/
def fnExactStoreFreeSpec : ChangeSpec := { name := "fnExactStoreFree", fn := fun _ => fun
  | [d1, d2] => { results := [.lit (.bool true)], args := [d1, d2] }
  | _ => none }
def fnExactStoreFreeRow : OpenClaim := { program := "ytkgmilobmbeplaa", sum := "2feb9b038e0c68529f67287ecc88510692aa6d4c4c12bb5a389d3f9a515ef9d3", func := "loop.example/poolfiles/laws.FnExactStoreFree", spec := "fnExactStoreFree", unfollowed := true, recurses := true, apart := false }
def FnExactStoreFreeSaid : Prop := fnExactStoreFreeRow.holds Try.pinned (OpenSpec.ofChange fnExactStoreFreeSpec)

/-- ITS FALSE NEIGHBOUR: 'it returns false'. Refute it at one input. -/
def fnExactStoreFreeWrong : ChangeSpec := { name := "fnExactStoreFree", fn := fun _ => fun
  | [d1, d2] => { results := [.lit (.bool false)], args := [d1, d2] }
  | _ => none }
def FnExactStoreFreeWrongFalsely : Prop := fnExactStoreFreeRow.holds Try.pinned (OpenSpec.ofChange fnExactStoreFreeWrong)

/- THE SECOND FORM. 'bulk': how many values and letters a reading holds, each counted each time it is reached (what is shared counts as often as it is met; a slice's spare places count too). A statement '..UptoSaid' is the law's where the arguments, and the package variables that the reading takes, are together of bulk at most 1048576: NARROWER than '..Said'. Prove '..Said' where nothing that the law and all that it calls make is longer than what came in: it says more and counts as full. Else prove '..UptoSaid'. A law counts once. -/
mutual
def uptoBulk {H : Type} : DataW H → Nat
  | .lit (.string bytes) => bytes.length + 1
  | .lit _ => 1
  | .nil => 1
  | .ptr d => uptoBulk d + 1
  | .slice elems spare => uptoBulkAll elems + uptoBulkAll spare + 1
  | .agg parts => uptoBulkAll parts + 1
  | .iface _ d => uptoBulk d + 1
  | .map entries => uptoBulkEntries entries + 1
  | .held _ => 1
def uptoBulkAll {H : Type} : List (DataW H) → Nat
  | [] => 0
  | d :: r => uptoBulk d + uptoBulkAll r
def uptoBulkEntries {H : Type} : List (Lit × DataW H) → Nat
  | [] => 0
  | x :: r => uptoBulkEntry x + uptoBulkEntries r
def uptoBulkEntry {H : Type} : Lit × DataW H → Nat
  | (.string bytes, d) => bytes.length + uptoBulk d + 1
  | (_, d) => uptoBulk d + 1
 end
def uptoSmall : (H : Type) → List (DataW H) → Bool := fun _ ds => decide (uptoBulkAll ds ≤ 1048576)
def OpenSpec.upto (s : _root_.Go.ChangeSpec) : _root_.Go.OpenSpec := { _root_.Go.OpenSpec.ofChange s with cond := some uptoSmall }

/-- 'laws.FnExactSendBytes', WHERE WHAT IT READS IS OF BULK AT MOST 1048576: true; the input reads as it did. -/
def fnExactSendBytesUptoRow : OpenClaim := { program := "ytkgmilobmbeplaa", sum := "2feb9b038e0c68529f67287ecc88510692aa6d4c4c12bb5a389d3f9a515ef9d3", func := "loop.example/poolfiles/laws.FnExactSendBytes", spec := "fnExactSendBytes", apart := false, narrowed := true }
def FnExactSendBytesUptoSaid : Prop := fnExactSendBytesUptoRow.holds Try.pinned (OpenSpec.upto fnExactSendBytesSpec)

/-- 'laws.FnExactSendOk', WHERE WHAT IT READS IS OF BULK AT MOST 1048576: true; the input reads as it did. -/
def fnExactSendOkUptoRow : OpenClaim := { program := "ytkgmilobmbeplaa", sum := "2feb9b038e0c68529f67287ecc88510692aa6d4c4c12bb5a389d3f9a515ef9d3", func := "loop.example/poolfiles/laws.FnExactSendOk", spec := "fnExactSendOk", apart := false, narrowed := true }
def FnExactSendOkUptoSaid : Prop := fnExactSendOkUptoRow.holds Try.pinned (OpenSpec.upto fnExactSendOkSpec)

/-- 'laws.FnExactTaleSame', WHERE WHAT IT READS IS OF BULK AT MOST 1048576: true; the input reads as it did. -/
def fnExactTaleSameUptoRow : OpenClaim := { program := "ytkgmilobmbeplaa", sum := "2feb9b038e0c68529f67287ecc88510692aa6d4c4c12bb5a389d3f9a515ef9d3", func := "loop.example/poolfiles/laws.FnExactTaleSame", spec := "fnExactTaleSame", unfollowed := true, recurses := true, apart := false, narrowed := true }
def FnExactTaleSameUptoSaid : Prop := fnExactTaleSameUptoRow.holds Try.pinned (OpenSpec.upto fnExactTaleSameSpec)

/-- 'laws.FnExactCachePlay', WHERE WHAT IT READS IS OF BULK AT MOST 1048576: true; the input reads as it did. -/
def fnExactCachePlayUptoRow : OpenClaim := { program := "ytkgmilobmbeplaa", sum := "2feb9b038e0c68529f67287ecc88510692aa6d4c4c12bb5a389d3f9a515ef9d3", func := "loop.example/poolfiles/laws.FnExactCachePlay", spec := "fnExactCachePlay", inPlace := ["slices.overlaps[int]"], apart := false, narrowed := true }
def FnExactCachePlayUptoSaid : Prop := fnExactCachePlayUptoRow.holds Try.pinned (OpenSpec.upto fnExactCachePlaySpec)

/-- 'laws.FnExactStoreNext', WHERE WHAT IT READS IS OF BULK AT MOST 1048576: true; the input reads as it did. -/
def fnExactStoreNextUptoRow : OpenClaim := { program := "ytkgmilobmbeplaa", sum := "2feb9b038e0c68529f67287ecc88510692aa6d4c4c12bb5a389d3f9a515ef9d3", func := "loop.example/poolfiles/laws.FnExactStoreNext", spec := "fnExactStoreNext", unfollowed := true, recurses := true, apart := false, narrowed := true }
def FnExactStoreNextUptoSaid : Prop := fnExactStoreNextUptoRow.holds Try.pinned (OpenSpec.upto fnExactStoreNextSpec)

/-- 'laws.FnExactStoreFree', WHERE WHAT IT READS IS OF BULK AT MOST 1048576: true; the input reads as it did. -/
def fnExactStoreFreeUptoRow : OpenClaim := { program := "ytkgmilobmbeplaa", sum := "2feb9b038e0c68529f67287ecc88510692aa6d4c4c12bb5a389d3f9a515ef9d3", func := "loop.example/poolfiles/laws.FnExactStoreFree", spec := "fnExactStoreFree", unfollowed := true, recurses := true, apart := false, narrowed := true }
def FnExactStoreFreeUptoSaid : Prop := fnExactStoreFreeUptoRow.holds Try.pinned (OpenSpec.upto fnExactStoreFreeSpec)

end Rows
end Go.Proofs.Ytkgmilobmbeplaa
