/- A part of the proof in YtigjfacaofgjjaaGreatDoorFlZ32. -/
import Derived.Deep.RegionHeld3
import Derived.Test.YtigjfacaofgjjaaGreatDoorFlZ9
namespace Go.Proofs.YtigjfacaofgjjaaGreatDoor
set_option linter.unusedVariables false
set_option linter.unusedSimpArgs false
set_option maxHeartbeats 1000000
set_option maxRecDepth 100000
open Go.RowKit
theorem Zkn (xs : List Int) (a : Nat) (r : Int) : (xs.flatMap ZL).set a (.int .i64 r) = (xs.set a r).flatMap ZL := by
  have h : ∀ l : List Int, l.flatMap ZL = l.map (fun n => Value.int .i64 n) := fun l => by
    induction l with
    | nil => rfl
    | cons x r ih => rw [List.flatMap_cons, ih]; rfl
  rw [h, h, List.map_set]
theorem Zko (xs : List ByteArray) (a : Nat) (r : ByteArray) : (xs.flatMap Zk).set a (.string r) = (xs.set a r).flatMap Zk := by
  have h : ∀ l : List ByteArray, l.flatMap Zk = l.map (fun n => Value.string n) := fun l => by
    induction l with
    | nil => rfl
    | cons x r ih => rw [List.flatMap_cons, ih]; rfl
  rw [h, h, List.map_set]
theorem RowO.putI {e : TypeId} {w : World} {B B1 g cap : Nat} {xs : List Int} (ho : w.ownsRow B e 1 (.slice (some ⟨g, 0, Option.none⟩) xs.length cap) xs.length (xs.flatMap ZL)) (hg : g < B1) (a : Nat) (r : Int) :
    RowO ZL 1 e (w.setCell ⟨g, a, Option.none⟩ (.int .i64 r)) B B1 (.slice (some ⟨g, 0, Option.none⟩) xs.length cap) (xs.set a r) :=
  ⟨_, cap, by rw [List.length_set], .inr (by rw [List.length_set, ← Zkn]; exact (ho.stored a _).1), fun g' h => by
    have := YW h;simp only [Value.ownBlock, Option.some.injEq] at this
    omega⟩
theorem RowO.putS {e : TypeId} {w : World} {B B1 g cap : Nat} {xs : List ByteArray} (ho : w.ownsRow B e 1 (.slice (some ⟨g, 0, Option.none⟩) xs.length cap) xs.length (xs.flatMap Zk)) (hg : g < B1) (a : Nat) (r : ByteArray) :
    RowO Zk 1 e (w.setCell ⟨g, a, Option.none⟩ (.string r)) B B1 (.slice (some ⟨g, 0, Option.none⟩) xs.length cap) (xs.set a r) :=
  ⟨_, cap, by rw [List.length_set], .inr (by rw [List.length_set, ← Zko]; exact (ho.stored a _).1), fun g' h => by
    have := YW h;simp only [Value.ownBlock, Option.some.injEq] at this
    omega⟩
theorem ZD.put {vs : List Value} {w w' : World} (h : ZD vs w w') {u : Value} {g : Nat} (hu : u ∈ vs) (hg : Value.rowBlock u = some g) (a : Nat) (x : Value) : ZD vs w (w'.setCell ⟨g, a, none⟩ x) :=
  ⟨h.os, h.tape, h.output, by rw [XY]; exact h.size, fun k hk hne => ((Below.heap_setCell w' ⟨g, a, none⟩ x k (fun e => hne u hu (by rw [hg, e]))).trans (h.block k hk hne))⟩
def Za.zero : Za := { fRows := [], fSpace := { fRefs := [], fLast := [] }, fTxg := 0, fGone := [], fKeep := 0, fDead := [], fSame := false }
open Go.RowKit
def UK (s : ByteArray) : Nat → Int × Int
  | 0 => (1, 0)
  | k + 1 => (((UK s k).1 + ((s.get! k).toNat : Int) + 1) % 9973, ((UK s k).2 + ((UK s k).1 + ((s.get! k).toNat : Int) + 1) % 9973) % 9973)
def ZjP (s : ByteArray) : Int := (UK s s.size).1 * 9973 + (UK s s.size).2
theorem ZjQ (s : ByteArray) (k : Nat) : 0 ≤ (UK s k).1 ∧ (UK s k).1 < 9973 ∧ 0 ≤ (UK s k).2 ∧ (UK s k).2 < 9973 := by
  cases k with
  | zero => simp [UK]
  | succ k => unfold UK; dsimp only; omega
theorem Zc4 (s : ByteArray) (k : Nat) : (0 : Int) ≤ ((s.get! k).toNat : Int) ∧ ((s.get! k).toNat : Int) ≤ 255 := by
  have := (s.get! k).toNat_lt
  omega
def PtrD.zero : PtrD := { fAt := 0, fBirth := 0, fSize := 0, fSum := 0, fLevel := 0 }
def Za.putAt (st : Za) (i : Nat) (rows : List ByteArray) : Za := { st with fRows := rows, fSpace := { fRefs := st.fSpace.fRefs.set i (st.fSpace.fRefs.getD i 0 + 1), fLast := st.fSpace.fLast.set i st.fTxg } }
end Go.Proofs.YtigjfacaofgjjaaGreatDoor
