/- A part of the proof in YtnikdicehddehaaGreatDoorSoLZ30. -/
import Derived.ArgAppend
import Derived.BigQuiet
import Derived.BigRegion
import Derived.Deep.MidRow
import Derived.Deep.QuietTactic
import Derived.Deep.RegionHeld3
import Derived.Deep.RegionWith
import Derived.Lib.Hide
import Derived.Lib.ItoaNum
import Derived.Lib.LazyBuf
import Derived.StillTailTactics
import Derived.Test.YtnikdicehddehaaGreatDoorRows
import Derived.WalkKit
import Derived.WalkLawsBesides
import Derived.WalkSpells
import Derived.Test.YtnikdicehddehaaGreatDoorSoLZ8
/- Records: numbers and fields as texts: plain. -/
namespace Go.Proofs.YtnikdicehddehaaGreatDoor
set_option linter.unusedVariables false
set_option linter.unusedSimpArgs false
set_option maxHeartbeats 1000000
set_option maxRecDepth 100000
open Go.RowKit

/-- A number in decimals. -/
def decB (n : Nat) : ByteArray := ⟨(Go.Lib.decDigits n).toArray⟩
theorem decB_list (n : Nat) : (decB n).data.toList = Go.Lib.decDigits n := rfl
theorem decB_small {n : Nat} (h : n < 10) : decB n = ⟨#[UInt8.ofNat (48 + n)]⟩ := by
  apply ba_ext; rw [decB_list, Go.Lib.decDigits_one h]
theorem decB_big {n : Nat} (h : ¬ n < 10) : decB n = decB (n / 10) ++ ⟨#[UInt8.ofNat (48 + n % 10)]⟩ := by
  apply ba_ext; rw [list_append, decB_list, decB_list, Go.Lib.decDigits, dif_neg h]
theorem nDigits_le {n k : Nat} (h : n < 10 ^ (k + 1)) : Go.Lib.nDigits n ≤ k + 1 := by
  induction k generalizing n with
  | zero => rw [Go.Lib.nDigits_small (by simpa using h)]; exact Nat.le_refl _
  | succ k ih =>
    by_cases hs : n < 10
    · rw [Go.Lib.nDigits_small hs]; omega
    · have := ih (n := n / 10) (by rw [Nat.pow_succ] at h; omega)
      rw [Go.Lib.nDigits_big hs]; omega
theorem decB_size {n : Nat} : (decB n).size = Go.Lib.nDigits n := by rw [size_list, decB_list, Go.Lib.decDigits_length]
theorem decB_le {n k : Nat} (h : n < 10 ^ (k + 1)) : (decB n).size ≤ k + 1 := by rw [decB_size]; exact nDigits_le h
theorem decB_pos (n : Nat) : 1 ≤ (decB n).size := by rw [decB_size]; exact Go.Lib.nDigits_pos n
theorem decB_20 {n : Nat} (h : n ≤ 9223372036854775807) : (decB n).size ≤ 19 := decB_le (k := 18) (by omega)
/-- A number text; the empty text out of the range. -/
def numB (n : Int) : ByteArray := if 0 ≤ n ∧ n ≤ 999999999 then decB n.toNat else ByteArray.empty
theorem numB_in {n : Int} (h0 : 0 ≤ n) (h1 : n ≤ 999999999) : numB n = decB n.toNat := if_pos ⟨h0, h1⟩
theorem numB_out {n : Int} (h : ¬ (0 ≤ n ∧ n ≤ 999999999)) : numB n = ByteArray.empty := if_neg h
theorem numB_le (n : Int) : (numB n).size ≤ 9 := by
  unfold numB; split
  · exact decB_le (k := 8) (by omega)
  · exact Nat.zero_le _
theorem app_size (a b : ByteArray) : (a ++ b).size = a.size + b.size := by rw [size_list, list_append, List.length_append, ← size_list, ← size_list]
/-- Fields of a size that a machine holds. -/
def szs (xs : List ByteArray) : Prop := ∀ k, (xs.getD k ByteArray.empty).size ≤ 1099511627776
end Go.Proofs.YtnikdicehddehaaGreatDoor
