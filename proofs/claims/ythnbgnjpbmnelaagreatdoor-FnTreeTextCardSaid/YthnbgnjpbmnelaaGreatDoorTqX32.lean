/- A part of the proof in YthnbgnjpbmnelaaGreatDoorTqX34. -/
import Derived.ChangeMaps5
import Derived.ChangeVars
import Derived.LaidLaws
import Derived.WideKeyMaps2
import Derived.Test.YthnbgnjpbmnelaaGreatDoorTqX31
namespace Go.Proofs.YthnbgnjpbmnelaaGreatDoor
open Go.Proofs.Tryz
set_option linter.unusedVariables false
set_option linter.unusedSimpArgs false
set_option maxHeartbeats 1000000
set_option maxRecDepth 100000
open Go.ChangeShapes Go.WideShapes Go.ChangeAt Go.RowKit Go.Deep Go.WideMaps
theorem ZnS {α : Type} {a : Array α} {x : α} (h : a.toList = [x]) : a = #[x] := by cases a; simpa using h
theorem Tryz.gErrS : Tryz.prog.globalNamed "strconv.ErrSyntax" = some 1 := by kernel_rfl
theorem Tryz.gErrSType : (Tryz.prog.globals[1]?).map (·.type) = some 182 := by kernel_rfl
theorem ZoL {l : List (String × DataW Unit)} {W : World} (h : laidMet prog l W) (hm : ("strconv.ErrSyntax", (Rows.laid_strconv_ErrSyntax : DataW Unit)) ∈ l) : ZfX W := by
 obtain ⟨g, t, cs, fuel, p, h1, h2, h3, h4⟩ := Go.Lib.laidMet.reads h hm;obtain rfl := Option.some.inj (Tryz.gErrS.symm.trans h1);obtain rfl := Option.some.inj (Tryz.gErrSType.symm.trans h2);obtain ⟨_, u, v, hcs, _, _⟩ := iface_of_trod Tryz.underlying182 (show DataW.trod _ prog W 0 _ false fuel 182 cs.toList = some (.iface _ _, p) from h4);refine ⟨u, v, ?_⟩;have := World.var?_cell h1 h3 0;rw [ZnS hcs] at this
 simpa using this
theorem Tryz.cellsByte : Tryz.prog.cellsOf 5 = 1 := by kernel_rfl
section
variable {H : Type} {enc : TypeId × Value → H} {w : World} {spare : Nat → Bool} {held : Bool}
theorem ZkT (n : Nat) (cs : List Value) (y : DataW H × List MemPlace) (h : DataW.trod enc prog w 0 spare held n 5 cs = some y) : ∃ b : UInt8, cs = encB b ∧ True := by
 obtain ⟨a, e, _, hw⟩ := DataW.trod_int Tryz.underlying5 h;simp [Lit.wf, IntKind.min, IntKind.max, IntKind.signed, IntKind.bits] at hw;refine ⟨UInt8.ofNat a.toNat, ?_, trivial⟩;rw [e];show [Value.int .u8 a] = [Value.int .u8 ((UInt8.ofNat a.toNat).toNat : Int)];rw [UInt8.toNat_ofNat', show ((a.toNat % 2 ^ 8 : Nat) : Int) = a by omega]
theorem ZkU {fuel : Nat} {ao : Option Addr} {n cap : Nat} {y : DataW H × List MemPlace} (h : DataW.trod enc prog w 0 spare held fuel 54 [.slice ao n cap] = some y) : ∃ bs, Rd encB 1 w ao n bs ∧ n ≤ cap := by
 obtain ⟨a0, l0, k0, xs, e, _, r0, _⟩ := ZmY (ef := encB) (size := 1) (Q := fun _ => True) Tryz.underlying54 Tryz.cellsByte (by omega) ZkT h;simp only [Value.slice.injEq] at e;obtain ⟨rfl, rfl, rfl⟩ := e;refine ⟨xs, r0, ?_⟩;rcases open_slice Tryz.underlying54 h with ⟨hcs, _⟩ | ⟨a, len, cap, m, n, D, Pl, hcs, _, hlc, hcm, hm, _, hi⟩
 ·simp only [List.cons.injEq, and_true, Value.slice.injEq] at hcs
  omega
 ·simp only [List.cons.injEq, and_true, Value.slice.injEq] at hcs
  omega
end
end Go.Proofs.YthnbgnjpbmnelaaGreatDoor
