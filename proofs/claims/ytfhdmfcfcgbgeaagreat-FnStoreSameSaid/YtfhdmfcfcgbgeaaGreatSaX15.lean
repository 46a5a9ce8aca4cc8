/- A part of the proof in YtfhdmfcfcgbgeaaGreatSaX30. -/
import Derived.LoopN
import Derived.Test.YtfhdmfcfcgbgeaaGreatSaX14
namespace Go.Proofs.YtfhdmfcfcgbgeaaGreat
open Go.Proofs.Tryz
set_option linter.unusedVariables false
set_option linter.unusedSimpArgs false
set_option maxHeartbeats 1000000
set_option maxRecDepth 100000
open Go.RowKit
def Ze8 (p : Nat → Bool) : Nat → Bool
 | 0 => true
 | k + 1 => Ze8 p k && p k
theorem ZiD {p : Nat → Bool} {k n : Nat} (h : p k = false) (hk : k < n) : Ze8 p n = false := by
 induction n with
 | zero => omega
 | succ n ih =>
  unfold Ze8
  by_cases h1 : k < n
  ·rw [ih h1]; rfl
  ·obtain rfl : k = n := by omega
   rw [h]; exact Bool.and_false _
theorem Zjw {p : Nat → Bool} {n : Nat} (h : Ze8 p n = true) {k : Nat} (hk : k < n) : p k = true := by
 cases hp : p k with
 | true => rfl
 | false => rw [ZiD hp hk] at h; cases h
theorem Zjx {p : Nat → Bool} {n : Nat} (h : ∀ k, k < n → p k = true) : Ze8 p n = true := by
 induction n with
 | zero => rfl
 | succ n ih =>
  unfold Ze8;rw [ih (fun k hk => h k (by omega)), h n (by omega)]; rfl
theorem Zbz : Vu prog 23 9 1 16 := by
 obtain ⟨i0, hi, hz0, hz1, hz2⟩ := info_parts Tryz.infoStringS;exact ⟨Tryz.underlying23, ⟨i0, _, hi, hz0, hz1, hz2, rfl⟩, by decide⟩
end Go.Proofs.YtfhdmfcfcgbgeaaGreat
