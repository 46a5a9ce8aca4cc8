/- A part of the proof in YtfhdmfcfcgbgeaaGreatLtX30. -/
import Derived.LoopN
import Derived.Test.YtfhdmfcfcgbgeaaGreatLtX14
namespace Go.Proofs.YtfhdmfcfcgbgeaaGreat
open Go.Proofs.Tryz
set_option linter.unusedVariables false
set_option linter.unusedSimpArgs false
set_option maxHeartbeats 1000000
set_option maxRecDepth 100000
open Go.RowKit
def Zfa (p : Nat → Bool) : Nat → Bool
 | 0 => true
 | k + 1 => Zfa p k && p k
theorem Zix {p : Nat → Bool} {k n : Nat} (h : p k = false) (hk : k < n) : Zfa p n = false := by
 induction n with
 | zero => omega
 | succ n ih =>
  unfold Zfa
  by_cases h1 : k < n
  ·rw [ih h1]; rfl
  ·obtain rfl : k = n := by omega
   rw [h]; exact Bool.and_false _
theorem Zjt {p : Nat → Bool} {n : Nat} (h : Zfa p n = true) {k : Nat} (hk : k < n) : p k = true := by
 cases hp : p k with
 | true => rfl
 | false => rw [Zix hp hk] at h; cases h
theorem Zju {p : Nat → Bool} {n : Nat} (h : ∀ k, k < n → p k = true) : Zfa p n = true := by
 induction n with
 | zero => rfl
 | succ n ih =>
  unfold Zfa;rw [ih (fun k hk => h k (by omega)), h n (by omega)]; rfl
theorem ZbG : VD prog 23 9 1 16 := by
 obtain ⟨i0, hi, hz0, hz1, hz2⟩ := info_parts Tryz.infoStringS;exact ⟨Tryz.underlying23, ⟨i0, _, hi, hz0, hz1, hz2, rfl⟩, by decide⟩
end Go.Proofs.YtfhdmfcfcgbgeaaGreat
