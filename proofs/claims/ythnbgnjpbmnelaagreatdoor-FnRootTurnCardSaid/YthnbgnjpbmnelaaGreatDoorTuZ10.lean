/- A part of the proof in YthnbgnjpbmnelaaGreatDoorTuZ31. -/
import Derived.Deep.RegionHeld3
import Derived.Test.YthnbgnjpbmnelaaGreatDoorTuZ9
/- What writing to a store computes: plain. -/
namespace Go.Proofs.YthnbgnjpbmnelaaGreatDoor
set_option linter.unusedVariables false
set_option linter.unusedSimpArgs false
set_option maxHeartbeats 1000000
set_option maxRecDepth 100000
open Go.RowKit

/-! ### The checksum -/
def QL (s : ByteArray) : Nat → Int × Int
  | 0 => (1, 0)
  | k + 1 => (((QL s k).1 + ((s.get! k).toNat : Int) + 1) % 9973, ((QL s k).2 + ((QL s k).1 + ((s.get! k).toNat : Int) + 1) % 9973) % 9973)
def Z2 (s : ByteArray) : Int := (QL s s.size).1 * 9973 + (QL s s.size).2
theorem V6 (s : ByteArray) (k : Nat) : 0 ≤ (QL s k).1 ∧ (QL s k).1 < 9973 ∧ 0 ≤ (QL s k).2 ∧ (QL s k).2 < 9973 := by
  cases k with
  | zero => simp [QL]
  | succ k => unfold QL; dsimp only; omega
theorem X0 (s : ByteArray) : 0 ≤ Z2 s ∧ Z2 s ≤ 99460728 := by
  have := V6 s s.size;unfold Z2; omega
theorem UK (s : ByteArray) (k : Nat) : (0 : Int) ≤ ((s.get! k).toNat : Int) ∧ ((s.get! k).toNat : Int) ≤ 255 := by
  have := (s.get! k).toNat_lt
  omega

/-! ### The pointer to a block -/
def VJ (at_ birth level : Int) (text : ByteArray) : Ys := { fAt := at_, fBirth := birth, fSize := text.size, fSum := Z2 text, fLevel := level }
def Ys.zero : Ys := { fAt := 0, fBirth := 0, fSize := 0, fSum := 0, fLevel := 0 }
def QQ (at_ birth level : Int) (text : ByteArray) : Bool := inB text.size 1 128 && (VJ at_ birth level text).ok
def Ji (at_ birth level : Int) (text : ByteArray) : Ys := if QQ at_ birth level text then VJ at_ birth level text else Ys.zero
theorem ZaB {a b l : Int} {s : ByteArray} (h : QQ a b l s = false) : Ji a b l s = Ys.zero := by unfold Ji; rw [h]; rfl
theorem Zck {a b l : Int} {s : ByteArray} (h : QQ a b l s = true) : Ji a b l s = VJ a b l s := by unfold Ji; rw [h]; rfl

end Go.Proofs.YthnbgnjpbmnelaaGreatDoor
