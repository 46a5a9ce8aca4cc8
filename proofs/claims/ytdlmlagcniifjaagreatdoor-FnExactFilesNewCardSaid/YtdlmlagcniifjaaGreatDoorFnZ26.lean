/- A part of the proof in YtdlmlagcniifjaaGreatDoorFnZ32. -/
import Derived.Shelf.Slices.Cells
import Derived.Shelf.Slices.Delete
import Derived.Shelf.Slices.Empties
import Derived.Shelf.Slices.Turned
import Derived.Shelf.Spec.SlicesGrow
import Derived.Shelf.Spec.SlicesInsert
import Derived.Shelf.Spec.SlicesInsertGrow
import Derived.Test.YtdlmlagcniifjaaGreatDoorFnZ25
namespace Go.Proofs.YtdlmlagcniifjaaGreatDoor
set_option linter.unusedVariables false
set_option linter.unusedSimpArgs false
set_option maxHeartbeats 1000000
set_option maxRecDepth 100000
open Go.RowKit
def NodeD.zero : NodeD := ⟨0, 0, 0, ⟨PtrD.zero, 0, 0⟩⟩
def DirAt (w : World) (f : Int → Option Value) (k : Nat) (es : List EntryD) : Prop := ∃ ao cp, (f (k : Int)).getD (.slice none 0 0) = .slice ao es.length cp ∧ Rd EntryD.cells 2 w ao es.length es
theorem DirAt.below {w w' : World} {f : Int → Option Value} {k : Nat} {es : List EntryD} (h : DirAt w f k es) (hb : Below w.heap.size w w') : DirAt w' f k es := by
  obtain ⟨ao, cp, h1, h2⟩ := h
  exact ⟨ao, cp, h1, h2.below hb⟩
theorem DirAt.none (w : World) (f : Int → Option Value) (k : Nat) (h : f (k : Int) = .none) : DirAt w f k [] := ⟨.none, 0, by rw [h]; rfl, rd_of_nil _ _ _ _⟩
open Go.RowKit
def intsL (l : List Nat) : List Int := l.map fun (k : Nat) => (k : Int)
theorem intsL_len (l : List Nat) : (intsL l).length = l.length := List.length_map ..
def NmAt (fn : Int → Option Value) (X : List Nat) : Prop := ∀ k : Int, 0 ≤ k → (fn k).getD (.int .i64 0) = .int .i64 ((X.count k.toNat : Nat) : Int)
theorem NmAt.none : NmAt (fun _ => none) [] := fun k _ => rfl
section
variable (st : StoreD) (ns : List (Option NodeD))
structure LO (Q : List Nat) (p : Nat) (fn : Int → Option Value) (tl : List Int) : Prop where
  qi : LinkP.QI (kdN st ns) (isFN ns) (validN ns) Q p
  run : runN st ns = LinkP.bfsRun (kdN st ns) (isFN ns) (validN ns) (17 - p) Q p
  tl : tl = intsL (Q.drop p)
  nm : NmAt fn ((Q.take p).flatMap (kdN st ns))
  q16 : Q.length ≤ 16
structure LJ (Q : List Nat) (p j : Nat) (fn : Int → Option Value) (tl : List Int) : Prop where
  qi : LinkP.QI (kdN st ns) (isFN ns) (validN ns) Q p
  run : runN st ns = LinkP.bfsRun (kdN st ns) (isFN ns) (validN ns) (17 - p) Q p
  lt : p < Q.length
  q16 : Q.length ≤ 16
  tl : tl = intsL ((Q ++ ((kdN st ns (Q.getD p 0)).take j).filter (isFN ns)).drop p)
  ok : ∀ x ∈ (kdN st ns (Q.getD p 0)).take j, validN ns x = true
  nd : (Q ++ ((kdN st ns (Q.getD p 0)).take j).filter (isFN ns)).Nodup
  nm : NmAt fn ((Q.take p).flatMap (kdN st ns) ++ (kdN st ns (Q.getD p 0)).take j)
end
section
variable {st : StoreD} {ns : List (Option NodeD)}
theorem LO.start (H : NodesOk ns) (h0 : isFN ns 0 = true) : LO st ns [0] 0 (fun _ => none) [0] := ⟨LinkP.QI.start, rfl, rfl, NmAt.none, by decide⟩
theorem LJ.len {Q : List Nat} {p j : Nat} {fn : Int → Option Value} {tl : List Int} (h : LJ st ns Q p j fn tl) : tl.length ≤ 16 + 12 := by
  have h12 := (entsOk_is (entK_ok (st := st) (ns := ns) (Q.getD p 0))).2
  have h1 : (((kdN st ns (Q.getD p 0)).take j).filter (isFN ns)).length ≤ 12 := by
    refine Nat.le_trans (List.length_filter_le _ _) ?_
    rw [List.length_take]; unfold kdN; rw [List.length_map]; omega
  have := h.q16
  rw [h.tl, intsL_len, List.length_drop, List.length_append]; omega
end
open Go.RowKit
def NodeD.cs (n : NodeD) : List Value := [.int .i64 n.fKind, .int .i64 n.fLinks, .int .i64 n.fSize, .int .i64 n.fTree.fRoot.fAt, .int .i64 n.fTree.fRoot.fBirth, .int .i64 n.fTree.fRoot.fSize, .int .i64 n.fTree.fRoot.fSum, .int .i64 n.fTree.fRoot.fLevel, .int .i64 n.fTree.fDepth, .int .i64 n.fTree.fMany]
open Go.RowKit
def CntTo (ms : List Int) (o : List FoundD) (k : Nat) (n : Nat) : Prop := ms.length = n ∧ ∀ j, j < n → ms.getD j 0 = ((((o.take k).map fun x => x.fId.toNat).count j : Nat) : Int)
theorem CntTo.start (o : List FoundD) (n : Nat) : CntTo (List.replicate n 0) o 0 n := ⟨List.length_replicate .., fun j hj => by
  rw [List.getD_eq_getElem?_getD, List.getElem?_replicate, if_pos hj, List.take_zero]; rfl⟩
end Go.Proofs.YtdlmlagcniifjaaGreatDoor
