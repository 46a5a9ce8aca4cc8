/- A part of the proof in YtfhdmfcfcgbgeaaGreatDoorNpX34. -/
import Derived.LoopN
import Derived.Test.YtfhdmfcfcgbgeaaGreatDoorNpX17
namespace Go.Proofs.YtfhdmfcfcgbgeaaGreatDoor
open Go.Proofs.Tryz
set_option linter.unusedVariables false
set_option linter.unusedSimpArgs false
set_option maxHeartbeats 1000000
set_option maxRecDepth 100000
open Go.RowKit
section
variable {P : Program} {ops : Array Oper} {Q : Exit → Act → World → Prop} {rest : List Oper} {o : Oper} {a : Act} {w W : World} {N : Nat} {l : List (Nat × Value)} {s : List Asr} {t e : TypeId} {x y : Operand}
theorem Zck {c : Code} (n : Nat) (h : c.wp P (Exit.then (Code.rounds P c Q n) Q) a w) : (Code.loop c).wp P Q a w := wp_loop_rounds (n + 1) h
theorem Xo {c : Code} (n : Nat) (h : c.wp P (Exit.then (Code.rounds P c Q n) Q) a w) : Code.rounds P c Q (n + 1) a w := h
end
def ZeJ (p : Nat → Bool) : Nat → Bool
 | 0 => true
 | k + 1 => ZeJ p k && p k
theorem Zin {p : Nat → Bool} {k n : Nat} (h : p k = false) (hk : k < n) : ZeJ p n = false := by
 induction n with
 | zero => omega
 | succ n ih =>
  unfold ZeJ
  by_cases h1 : k < n
  ·rw [ih h1]; rfl
  ·obtain rfl : k = n := by omega
   rw [h]; exact Bool.and_false _
theorem Zjq {p : Nat → Bool} {n : Nat} (h : ZeJ p n = true) {k : Nat} (hk : k < n) : p k = true := by
 cases hp : p k with
 | true => rfl
 | false => rw [Zin hp hk] at h; cases h
theorem Zjr {p : Nat → Bool} {n : Nat} (h : ∀ k, k < n → p k = true) : ZeJ p n = true := by
 induction n with
 | zero => rfl
 | succ n ih =>
  unfold ZeJ;rw [ih (fun k hk => h k (by omega)), h n (by omega)]; rfl
theorem Y1 : UD prog 38 9 1 16 := by
 obtain ⟨i0, hi, hz0, hz1, hz2⟩ := info_parts Tryz.infoStringS;exact ⟨Tryz.underlying38, ⟨i0, _, hi, hz0, hz1, hz2, rfl⟩, by decide⟩
end Go.Proofs.YtfhdmfcfcgbgeaaGreatDoor
