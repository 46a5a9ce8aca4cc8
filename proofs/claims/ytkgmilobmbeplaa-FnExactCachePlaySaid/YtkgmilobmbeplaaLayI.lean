/- The library at slices of numbers: laid at this dump. -/
import Derived.Shelf.Spec.SlicesInsert
import Derived.Shelf.Spec.SlicesInsertGrow
import Derived.Shelf.Spec.SlicesGrow
import Derived.Shelf.Slices.Turned
import Derived.Shelf.Slices.Delete
import Derived.Shelf.Slices.Cells
import Derived.Shelf.Slices.Empties
import Derived.Test.YtkgmilobmbeplaaRows
namespace Go.Proofs.Ytkgmilobmbeplaa
open Go.Shelf

def layInsertI_ren : Go.Shelf.Ren := ⟨fun | 21 => 133 | 27 => 142 | 28 => 143 | 35 => 150 | 39 => 151 | n => n, fun | 0 => 0 | 3 => 3 | 4 => 4 | 22 => 44 | n => n, fun | n => n⟩
theorem layInsertI : Go.Proofs.Lays2.n21 Try.prog layInsertI_ren := {
  mixed := by kernel_rfl
  f21 := Try.func133.trans (congrArg some (by kernel_rfl))
  f27 := Try.func142.trans (congrArg some (by kernel_rfl))
  f28 := Try.func143.trans (congrArg some (by kernel_rfl))
  f35 := Try.func150.trans (congrArg some (by kernel_rfl))
  f39 := Try.func151.trans (congrArg some (by kernel_rfl))
  t0 := Try.underlying0
  a0 := Try.isAgg0
  z0 := Try.sizeOf0
  v0 := Try.zeroValue0
  t3 := Try.underlying3
  a3 := Try.isAgg3
  z3 := Try.sizeOf3
  v3 := Try.zeroValue3
  t4 := Try.underlying4
  a4 := Try.isAgg4
  z4 := Try.sizeOf4
  v4 := Try.zeroValue4
  t22 := Try.underlying44
  a22 := Try.isAgg44
  z22 := Try.sizeOf44
  v22 := Try.zeroValue44
  i3 := by kernel_rfl }
def layDeleteI_ren : Go.Shelf.Ren := ⟨fun | 23 => 132 | n => n, fun | 0 => 0 | 3 => 3 | 4 => 4 | 22 => 44 | n => n, fun | n => n⟩
theorem layDeleteI : Go.Proofs.Lays2.n23 Try.prog layDeleteI_ren := {
  mixed := by kernel_rfl
  f23 := Try.func132.trans (congrArg some (by kernel_rfl))
  t0 := Try.underlying0
  a0 := Try.isAgg0
  z0 := Try.sizeOf0
  v0 := Try.zeroValue0
  t3 := Try.underlying3
  a3 := Try.isAgg3
  z3 := Try.sizeOf3
  v3 := Try.zeroValue3
  t4 := Try.underlying4
  a4 := Try.isAgg4
  z4 := Try.sizeOf4
  v4 := Try.zeroValue4
  t22 := Try.underlying44
  a22 := Try.isAgg44
  z22 := Try.sizeOf44
  v22 := Try.zeroValue44
  i3 := by kernel_rfl }
def layContainsI_ren : Go.Shelf.Ren := ⟨fun | 107 => 108 | 108 => 131 | n => n, fun | 0 => 0 | 3 => 3 | 4 => 4 | 28 => 44 | n => n, fun | n => n⟩
theorem layContainsI : Go.Proofs.Lays.n107 Try.prog layContainsI_ren := {
  mixed := by kernel_rfl
  f107 := Try.func108.trans (congrArg some (by kernel_rfl))
  f108 := Try.func131.trans (congrArg some (by kernel_rfl))
  t0 := Try.underlying0
  a0 := Try.isAgg0
  z0 := Try.sizeOf0
  v0 := Try.zeroValue0
  t3 := Try.underlying3
  a3 := Try.isAgg3
  z3 := Try.sizeOf3
  v3 := Try.zeroValue3
  t4 := Try.underlying4
  a4 := Try.isAgg4
  z4 := Try.sizeOf4
  v4 := Try.zeroValue4
  t28 := Try.underlying44
  a28 := Try.isAgg44
  z28 := Try.sizeOf44
  v28 := Try.zeroValue44 }
def layIndexI_ren : Go.Shelf.Ren := ⟨fun | 108 => 131 | n => n, fun | 0 => 0 | 3 => 3 | 4 => 4 | 28 => 44 | n => n, fun | n => n⟩
theorem layIndexI : Go.Proofs.Lays.n108 Try.prog layIndexI_ren := {
  mixed := by kernel_rfl
  f108 := Try.func131.trans (congrArg some (by kernel_rfl))
  t0 := Try.underlying0
  a0 := Try.isAgg0
  z0 := Try.sizeOf0
  v0 := Try.zeroValue0
  t3 := Try.underlying3
  a3 := Try.isAgg3
  z3 := Try.sizeOf3
  v3 := Try.zeroValue3
  t4 := Try.underlying4
  a4 := Try.isAgg4
  z4 := Try.sizeOf4
  v4 := Try.zeroValue4
  t28 := Try.underlying44
  a28 := Try.isAgg44
  z28 := Try.sizeOf44
  v28 := Try.zeroValue44 }
def layGrowI_ren : Go.Shelf.Ren := ⟨fun | 4 => 130 | n => n, fun | 0 => 0 | 3 => 3 | 4 => 4 | 9 => 9 | 20 => 20 | 22 => 44 | 25 => 3 | n => n, fun | n => n⟩
theorem layGrowI : Go.Proofs.Lays8.n4 Try.prog layGrowI_ren := {
  mixed := by kernel_rfl
  f4 := ⟨Try.f130.name, by decide, Try.func130.trans (congrArg some (by kernel_rfl))⟩
  t0 := Try.underlying0
  a0 := Try.isAgg0
  z0 := Try.sizeOf0
  v0 := Try.zeroValue0
  t3 := Try.underlying3
  a3 := Try.isAgg3
  z3 := Try.sizeOf3
  v3 := Try.zeroValue3
  t4 := Try.underlying4
  a4 := Try.isAgg4
  z4 := Try.sizeOf4
  v4 := Try.zeroValue4
  t9 := Try.underlying9
  a9 := Try.isAgg9
  z9 := Try.sizeOf9
  v9 := Try.zeroValue9
  t20 := Try.underlying20
  a20 := Try.isAgg20
  z20 := Try.sizeOf20
  v20 := Try.zeroValue20
  t22 := Try.underlying44
  a22 := Try.isAgg44
  z22 := Try.sizeOf44
  v22 := Try.zeroValue44 }
end Go.Proofs.Ytkgmilobmbeplaa
