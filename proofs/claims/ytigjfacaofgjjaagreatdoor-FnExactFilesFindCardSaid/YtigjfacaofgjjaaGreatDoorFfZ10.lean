/- A part of the proof in YtigjfacaofgjjaaGreatDoorFfZ32. -/
import Derived.Deep.RegionHeld3
import Derived.Test.YtigjfacaofgjjaaGreatDoorFfZ9
namespace Go.Proofs.YtigjfacaofgjjaaGreatDoor
set_option linter.unusedVariables false
set_option linter.unusedSimpArgs false
set_option maxHeartbeats 1000000
set_option maxRecDepth 100000
open Go.RowKit
theorem GrownAll.put {vs : List Value} {w w' : World} (h : GrownAll vs w w') {u : Value} {g : Nat} (hu : u ∈ vs) (hg : Value.rowBlock u = some g) (a : Nat) (x : Value) : GrownAll vs w (w'.setCell ⟨g, a, none⟩ x) :=
  ⟨h.os, h.tape, h.output, by rw [sz_set]; exact h.size, fun k hk hne => ((Below.heap_setCell w' ⟨g, a, none⟩ x k (fun e => hne u hu (by rw [hg, e]))).trans (h.block k hk hne))⟩
def StoreD.zero : StoreD := { fRows := [], fSpace := { fRefs := [], fLast := [] }, fTxg := 0, fGone := [], fKeep := 0, fDead := [], fSame := false }
open Go.RowKit
def sumF (s : ByteArray) : Nat → Int × Int
  | 0 => (1, 0)
  | k + 1 => (((sumF s k).1 + ((s.get! k).toNat : Int) + 1) % 9973, ((sumF s k).2 + ((sumF s k).1 + ((s.get! k).toNat : Int) + 1) % 9973) % 9973)
def sumOf (s : ByteArray) : Int := (sumF s s.size).1 * 9973 + (sumF s s.size).2
theorem sumF_le (s : ByteArray) (k : Nat) : 0 ≤ (sumF s k).1 ∧ (sumF s k).1 < 9973 ∧ 0 ≤ (sumF s k).2 ∧ (sumF s k).2 < 9973 := by
  cases k with
  | zero => simp [sumF]
  | succ k => unfold sumF; dsimp only; omega
theorem byte_le (s : ByteArray) (k : Nat) : (0 : Int) ≤ ((s.get! k).toNat : Int) ∧ ((s.get! k).toNat : Int) ≤ 255 := by
  have := (s.get! k).toNat_lt
  omega
def PtrD.zero : PtrD := { fAt := 0, fBirth := 0, fSize := 0, fSum := 0, fLevel := 0 }
def StoreD.putAt (st : StoreD) (i : Nat) (rows : List ByteArray) : StoreD := { st with fRows := rows, fSpace := { fRefs := st.fSpace.fRefs.set i (st.fSpace.fRefs.getD i 0 + 1), fLast := st.fSpace.fLast.set i st.fTxg } }
end Go.Proofs.YtigjfacaofgjjaaGreatDoor
