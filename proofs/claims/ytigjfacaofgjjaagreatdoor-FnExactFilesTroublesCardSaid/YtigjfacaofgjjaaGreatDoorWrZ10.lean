/- A part of the proof in YtigjfacaofgjjaaGreatDoorWrZ33. -/
import Derived.Deep.RegionHeld3
import Derived.Test.YtigjfacaofgjjaaGreatDoorWrZ9
namespace Go.Proofs.YtigjfacaofgjjaaGreatDoor
set_option linter.unusedVariables false
set_option linter.unusedSimpArgs false
set_option maxHeartbeats 1000000
set_option maxRecDepth 100000
open Go.RowKit
theorem ZjI (xs : List Int) (a : Nat) (r : Int) : (xs.flatMap Zz).set a (.int .i64 r) = (xs.set a r).flatMap Zz := by
  have h : ∀ l : List Int, l.flatMap Zz = l.map (fun n => Value.int .i64 n) := fun l => by
    induction l with
    | nil => rfl
    | cons x r ih => rw [List.flatMap_cons, ih]; rfl
  rw [h, h, List.map_set]
theorem RowO.putI {e : TypeId} {w : World} {B B1 g cap : Nat} {xs : List Int} (ho : w.ownsRow B e 1 (.slice (some ⟨g, 0, Option.none⟩) xs.length cap) xs.length (xs.flatMap Zz)) (hg : g < B1) (a : Nat) (r : Int) :
    RowO Zz 1 e (w.setCell ⟨g, a, Option.none⟩ (.int .i64 r)) B B1 (.slice (some ⟨g, 0, Option.none⟩) xs.length cap) (xs.set a r) :=
  ⟨_, cap, by rw [List.length_set], .inr (by rw [List.length_set, ← ZjI]; exact (ho.stored a _).1), fun g' h => by
    have := Xo h;simp only [Value.ownBlock, Option.some.injEq] at this
    omega⟩
theorem ZI.put {vs : List Value} {w w' : World} (h : ZI vs w w') {u : Value} {g : Nat} (hu : u ∈ vs) (hg : Value.rowBlock u = some g) (a : Nat) (x : Value) : ZI vs w (w'.setCell ⟨g, a, none⟩ x) :=
  ⟨h.os, h.tape, h.output, by rw [Ql]; exact h.size, fun k hk hne => ((Below.heap_setCell w' ⟨g, a, none⟩ x k (fun e => hne u hu (by rw [hg, e]))).trans (h.block k hk hne))⟩
def Zb.zero : Zb := { fRows := [], fSpace := { fRefs := [], fLast := [] }, fTxg := 0, fGone := [], fKeep := 0, fDead := [], fSame := false }
open Go.RowKit
def U2 (s : ByteArray) : Nat → Int × Int
  | 0 => (1, 0)
  | k + 1 => (((U2 s k).1 + ((s.get! k).toNat : Int) + 1) % 9973, ((U2 s k).2 + ((U2 s k).1 + ((s.get! k).toNat : Int) + 1) % 9973) % 9973)
def Zi3 (s : ByteArray) : Int := (U2 s s.size).1 * 9973 + (U2 s s.size).2
theorem Zi4 (s : ByteArray) (k : Nat) : 0 ≤ (U2 s k).1 ∧ (U2 s k).1 < 9973 ∧ 0 ≤ (U2 s k).2 ∧ (U2 s k).2 < 9973 := by
  cases k with
  | zero => simp [U2]
  | succ k => unfold U2; dsimp only; omega
theorem Zc2 (s : ByteArray) (k : Nat) : (0 : Int) ≤ ((s.get! k).toNat : Int) ∧ ((s.get! k).toNat : Int) ≤ 255 := by
  have := (s.get! k).toNat_lt
  omega
def PtrD.zero : PtrD := { fAt := 0, fBirth := 0, fSize := 0, fSum := 0, fLevel := 0 }
def Zb.putAt (st : Zb) (i : Nat) (rows : List ByteArray) : Zb := { st with fRows := rows, fSpace := { fRefs := st.fSpace.fRefs.set i (st.fSpace.fRefs.getD i 0 + 1), fLast := st.fSpace.fLast.set i st.fTxg } }
end Go.Proofs.YtigjfacaofgjjaaGreatDoor
