/- A part of the proof in YthnbgnjpbmnelaaGreatDoorTqX34. -/
import Derived.Deep.DeepHandedRow
import Derived.Deep.DeepWitnessRowRef
import Derived.Lay
import Derived.Lib.LaidTab
import Derived.Lib.LaidU8
import Derived.MakeChecks
import Derived.OpenShut
import Derived.Test.YthnbgnjpbmnelaaGreatDoorTqX30
namespace Go.Proofs.YthnbgnjpbmnelaaGreatDoor
open Go.Proofs.Tryz
set_option linter.unusedVariables false
set_option linter.unusedSimpArgs false
set_option maxHeartbeats 1000000
set_option maxRecDepth 100000
open Go.ChangeShapes Go.WideShapes Go.ChangeAt Go.RowKit Go.Deep
theorem Tryz.gPow : Tryz.prog.globalNamed "internal/strconv.uint64pow10" = some 3 := by kernel_rfl
theorem Tryz.gPowType : (Tryz.prog.globals[3]?).map (·.type) = some 330 := by kernel_rfl
theorem Tryz.cellsPowT : Tryz.prog.cellsOf 330 = 20 := by kernel_rfl
theorem Tryz.cellsU64 : Tryz.prog.cellsOf 232 = 1 := by kernel_rfl
theorem ZoK {l : List (String × DataW Unit)} {W : World} (h : laidMet prog l W) (hm : ("internal/strconv.uint64pow10", (Rows.laid_internal_strconv_uint64pow10 : DataW Unit)) ∈ l) : ZaE W := by
 obtain ⟨g, t, cs, fuel, p, h1, h2, h3, h4⟩ := Go.Lib.laidMet.reads h hm;obtain rfl := Option.some.inj (Tryz.gPow.symm.trans h1);obtain rfl := Option.some.inj (Tryz.gPowType.symm.trans h2);have hc := Go.Lib.cells_of_tab (zs := Go.Lib.pow10Tab) (k := .u64) Tryz.underlying330 Tryz.underlying232 Tryz.cellsU64 Tryz.cellsPowT (show DataW.trod _ prog W 0 _ false fuel 330 cs.toList = some (Go.Lib.tabData .u64 Go.Lib.pow10Tab, p) from h4);show W.var? prog _ = _;rw [h3, ← hc]
end Go.Proofs.YthnbgnjpbmnelaaGreatDoor
