/- A part of the proof in YthnbgnjpbmnelaaGreatDoorTqX34. -/
import Derived.LoopN
import Derived.Test.YthnbgnjpbmnelaaGreatDoorTqX17
namespace Go.Proofs.YthnbgnjpbmnelaaGreatDoor
open Go.Proofs.Tryz
set_option linter.unusedVariables false
set_option linter.unusedSimpArgs false
set_option maxHeartbeats 1000000
set_option maxRecDepth 100000
open Go.RowKit
section
variable {P : Program} {ops : Array Oper} {Q : Exit → Act → World → Prop} {rest : List Oper} {o : Oper} {a : Act} {w W : World} {N : Nat} {l : List (Nat × Value)} {s : List Asr} {t e : TypeId} {x y : Operand}
theorem ZjZ {c : Code} (n : Nat) (h : c.wp P (Exit.then (Code.rounds P c Q n) Q) a w) : (Code.loop c).wp P Q a w := wp_loop_rounds (n + 1) h
theorem Vv {c : Code} (n : Nat) (h : c.wp P (Exit.then (Code.rounds P c Q n) Q) a w) : Code.rounds P c Q (n + 1) a w := h
end
def Zdx (p : Nat → Bool) (n k : Nat) : Int := if _h : k < n then (if p k then (k : Int) else Zdx p n (k + 1)) else -1
termination_by n - k
theorem ZfU {p : Nat → Bool} {n k : Nat} (h : k < n) : Zdx p n k = if p k then (k : Int) else Zdx p n (k + 1) := by
 rw [Zdx, dif_pos h]
theorem ZgX {p : Nat → Bool} {n k : Nat} (h : n ≤ k) : Zdx p n k = -1 := by
 rw [Zdx, dif_neg (by omega)]
def Zbs (p : Nat → Bool) : Nat → Bool
 | 0 => true
 | k + 1 => Zbs p k && p k
theorem Zdy {p : Nat → Bool} {k n : Nat} (h : p k = false) (hk : k < n) : Zbs p n = false := by
 induction n with
 | zero => omega
 | succ n ih =>
  unfold Zbs
  by_cases h1 : k < n
  ·rw [ih h1]; rfl
  ·obtain rfl : k = n := by omega
   rw [h]; exact Bool.and_false _
theorem Zjj {p : Nat → Bool} {n : Nat} (h : Zbs p n = true) {k : Nat} (hk : k < n) : p k = true := by
 cases hp : p k with
 | true => rfl
 | false => rw [Zdy hp hk] at h; cases h
theorem ZfV {p : Nat → Bool} {n : Nat} (h : ∀ k, k < n → p k = true) : Zbs p n = true := by
 induction n with
 | zero => rfl
 | succ n ih =>
  unfold Zbs;rw [ih (fun k hk => h k (by omega)), h n (by omega)]; rfl
theorem ZlH (p : Nat → Bool) (n : Nat) : decide (0 ≤ Zdx p n 0) = !Zbs (fun k => !p k) n := by
 have key : ∀ m k, n - k = m → (∀ j, j < k → p j = false) → decide (0 ≤ Zdx p n k) = !Zbs (fun k => !p k) n := by
  intro m
  induction m with
  | zero =>
   intro k hk hf;rw [ZgX (by omega), ZfV (fun j hj => by rw [hf j (by omega)]; rfl)]; rfl
  | succ m ih =>
   intro k hk hf;rw [ZfU (by omega)]
   cases hp : p k with
   | true =>
    rw [Zdy (k := k) (by rw [hp]; rfl) (by omega)]
    simp
   | false =>
    rw [if_neg (by simp)];exact ih (k + 1) (by omega) (fun j hj => by
     by_cases h : j < k
     ·exact hf j h
     ·obtain rfl : j = k := by omega
      exact hp)
 exact key n 0 (by omega) (fun j hj => by omega)
theorem X1 : Ur prog 22 9 1 16 := by
 obtain ⟨i0, hi, hz0, hz1, hz2⟩ := info_parts Tryz.infoStringS;exact ⟨Tryz.underlying22, ⟨i0, _, hi, hz0, hz1, hz2, rfl⟩, by decide⟩
end Go.Proofs.YthnbgnjpbmnelaaGreatDoor
