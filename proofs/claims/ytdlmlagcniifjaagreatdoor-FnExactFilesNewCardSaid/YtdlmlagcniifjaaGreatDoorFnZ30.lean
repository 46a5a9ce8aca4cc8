/- A part of the proof in YtdlmlagcniifjaaGreatDoorFnZ32. -/
import Derived.ChangeMaps5
import Derived.ChangeVars
import Derived.LaidLaws
import Derived.WideKeyMaps2
import Derived.Test.YtdlmlagcniifjaaGreatDoorFnZ29
namespace Go.Proofs.YtdlmlagcniifjaaGreatDoor
set_option linter.unusedVariables false
set_option linter.unusedSimpArgs false
set_option maxHeartbeats 1000000
set_option maxRecDepth 100000
open Go.ChangeShapes Go.WideShapes Go.ChangeAt Go.RowKit Go.Deep Go.WideMaps
theorem arr_one {α : Type} {a : Array α} {x : α} (h : a.toList = [x]) : a = #[x] := by cases a; simpa using h
theorem Tryz.gErrS : Tryz.prog.globalNamed "strconv.ErrSyntax" = some 2 := by kernel_rfl
theorem Tryz.gErrSType : (Tryz.prog.globals[2]?).map (·.type) = some 125 := by kernel_rfl
theorem err_of {l : List (String × DataW Unit)} {W : World} (h : laidMet Tryz.prog l W) (hm : ("strconv.ErrSyntax", (Rows.laid_strconv_ErrSyntax : DataW Unit)) ∈ l) : ErrP W := by
  obtain ⟨g, t, cs, fuel, p, h1, h2, h3, h4⟩ := Go.Lib.laidMet.reads h hm
  obtain rfl := Option.some.inj (Tryz.gErrS.symm.trans h1)
  obtain rfl := Option.some.inj (Tryz.gErrSType.symm.trans h2)
  obtain ⟨_, u, v, hcs, _, _⟩ := iface_of_trod Tryz.underlying125 (show DataW.trod _ Tryz.prog W 0 _ false fuel 125 cs.toList = some (.iface _ _, p) from h4)
  refine ⟨u, v, ?_⟩
  have := World.var?_cell h1 h3 0
  rw [arr_one hcs] at this
  simpa using this
end Go.Proofs.YtdlmlagcniifjaaGreatDoor
