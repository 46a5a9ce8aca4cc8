/- A part of the proof in YtdlmlagcniifjaaGreatDoorFnZ32. -/
import Derived.Lib.SlBytesConst
import Derived.Test.YtdlmlagcniifjaaGreatDoorFnZ16
namespace Go.Proofs.YtdlmlagcniifjaaGreatDoor
set_option linter.unusedVariables false
set_option linter.unusedSimpArgs false
set_option maxHeartbeats 1000000
set_option maxRecDepth 100000
open Go.RowKit
section
variable {P : Program} {ops : Array Oper} {Q : Exit → Act → World → Prop} {rest : List Oper} {o : Oper} {a : Act} {w W : World} {N : Nat} {l : List (Nat × Value)} {s : List Asr} {t t' e : TypeId} {x y z : Operand} {α : Type} {enc : α → List Value} {size : Nat}
theorem yl_toU8 (ho : o.op = .convert t t' x) {n : Int} {b : UInt8} (hx : a.eval x = .int .i64 n) (hn : 0 ≤ n ∧ n ≤ 255) (hb : b = UInt8.ofNat n.toNat) (hu : P.underlying t = some (.int .i64)) (hu' : P.underlying t' = some (.int .u8)) : Yl P w o a (.int .u8 (b.toNat : Int)) := by
  have hv : (b.toNat : Int) = n := by
    subst hb
    rw [UInt8.toNat_ofNat']
    omega
  unfold Yl execOp
  simp only [ho, hx]
  rw [hv]
  simp [convert, go_sem, run_underlying hu w, run_underlying hu' w, Conv.intToInt]
  simp [IntKind.wrap, IntKind.bits, IntKind.signed]
  omega
end
end Go.Proofs.YtdlmlagcniifjaaGreatDoor
