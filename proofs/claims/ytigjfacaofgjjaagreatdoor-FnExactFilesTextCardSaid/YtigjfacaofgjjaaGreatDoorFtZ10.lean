/- A part of the proof in YtigjfacaofgjjaaGreatDoorFtZ32. -/
import Derived.Deep.RegionHeld3
import Derived.Test.YtigjfacaofgjjaaGreatDoorFtZ9
namespace Go.Proofs.YtigjfacaofgjjaaGreatDoor
set_option linter.unusedVariables false
set_option linter.unusedSimpArgs false
set_option maxHeartbeats 1000000
set_option maxRecDepth 100000
open Go.RowKit
theorem ZW.put {vs : List Value} {w w' : World} (h : ZW vs w w') {u : Value} {g : Nat} (hu : u ∈ vs) (hg : Value.rowBlock u = some g) (a : Nat) (x : Value) : ZW vs w (w'.setCell ⟨g, a, none⟩ x) :=
  ⟨h.os, h.tape, h.output, by rw [XT]; exact h.size, fun k hk hne => ((Below.heap_setCell w' ⟨g, a, none⟩ x k (fun e => hne u hu (by rw [hg, e]))).trans (h.block k hk hne))⟩
def Za.zero : Za := { fRows := [], fSpace := { fRefs := [], fLast := [] }, fTxg := 0, fGone := [], fKeep := 0, fDead := [], fSame := false }
open Go.RowKit
def Uz (s : ByteArray) : Nat → Int × Int
  | 0 => (1, 0)
  | k + 1 => (((Uz s k).1 + ((s.get! k).toNat : Int) + 1) % 9973, ((Uz s k).2 + ((Uz s k).1 + ((s.get! k).toNat : Int) + 1) % 9973) % 9973)
def Zjg (s : ByteArray) : Int := (Uz s s.size).1 * 9973 + (Uz s s.size).2
theorem Zjh (s : ByteArray) (k : Nat) : 0 ≤ (Uz s k).1 ∧ (Uz s k).1 < 9973 ∧ 0 ≤ (Uz s k).2 ∧ (Uz s k).2 < 9973 := by
  cases k with
  | zero => simp [Uz]
  | succ k => unfold Uz; dsimp only; omega
theorem ZcW (s : ByteArray) (k : Nat) : (0 : Int) ≤ ((s.get! k).toNat : Int) ∧ ((s.get! k).toNat : Int) ≤ 255 := by
  have := (s.get! k).toNat_lt
  omega
def PtrD.zero : PtrD := { fAt := 0, fBirth := 0, fSize := 0, fSum := 0, fLevel := 0 }
def Za.putAt (st : Za) (i : Nat) (rows : List ByteArray) : Za := { st with fRows := rows, fSpace := { fRefs := st.fSpace.fRefs.set i (st.fSpace.fRefs.getD i 0 + 1), fLast := st.fSpace.fLast.set i st.fTxg } }
end Go.Proofs.YtigjfacaofgjjaaGreatDoor
