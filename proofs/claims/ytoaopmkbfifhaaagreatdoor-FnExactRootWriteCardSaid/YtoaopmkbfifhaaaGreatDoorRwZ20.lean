/- FnExactRootWrite: for every set of disks and every root, valid or not, the law returns true and its arguments read behind the call as before. No condition but that the tables of the library that the row lists hold what the program's text lays. -/
import Derived.ArgAppend
import Derived.BigQuiet
import Derived.BigRegion
import Derived.Deep.AppendLies
import Derived.Deep.DeepHandedRow
import Derived.Deep.DeepWitnessRowRef
import Derived.Deep.MidRow
import Derived.Deep.Quiet
import Derived.Deep.QuietTactic
import Derived.Deep.RegionHeld3
import Derived.Deep.RegionWith
import Derived.Deep.Slices
import Derived.IntWalk
import Derived.Laws.BytesArg
import Derived.Lay
import Derived.Lib.AppendIntMem
import Derived.Lib.Hide
import Derived.Lib.ItoaNum
import Derived.Lib.LaidTab
import Derived.Lib.LaidU8
import Derived.Lib.LazyBuf
import Derived.Lib.SlBytesConst
import Derived.LoopIn
import Derived.LoopN
import Derived.LoopNIn
import Derived.MakeChecks
import Derived.OpenShut
import Derived.Orders
import Derived.OrdersHeld
import Derived.OwnWalkIn
import Derived.ProofKit
import Derived.RangeFuncLeaves
import Derived.RangeFuncNested
import Derived.Shelf.Abstract
import Derived.Shelf.Strconv.Itoa3
import Derived.Shelf.Strings.BuilderF
import Derived.Shelf.Strings.BuilderK
import Derived.Shelf.Strings.OnBuilder
import Derived.Still
import Derived.StillTail
import Derived.StillTailTactics
import Derived.TacticsInMore
import Derived.Test.YtoaopmkbfifhaaaGreatDoorCards
import Derived.Test.YtoaopmkbfifhaaaGreatDoorRows
import Derived.Test.YtoaopmkbfifhaaaGreatDoorTie
import Derived.WalkKit
import Derived.WalkLawsBesides
import Derived.WalkSpells
import Derived.Test.YtoaopmkbfifhaaaGreatDoorRwZ19
/- FnExactRootWrite: for every set of disks and every root, valid or not, the law returns true and its arguments read behind the call as before. No condition but that the tables of the library that the row lists hold what the program's text lays. -/
namespace Go.Proofs.YtoaopmkbfifhaaaGreatDoor
set_option linter.unusedVariables false
set_option linter.unusedSimpArgs false
set_option maxHeartbeats 1000000
set_option maxRecDepth 100000
open Go.ChangeShapes Go.WideShapes Go.ChangeAt Go.RowKit Go.Deep

noncomputable def rtProof_world (os : Os) : World := World.laidAll Tryz.prog os Rows.fnExactRootWriteRow.laid
theorem rtProof_met (os : Os) : laidMetH Tryz.prog Rows.fnExactRootWriteRow.laid ((rtProof_world os).forCall (fun _ _ => 0) ⟨#[], #[.agg #[.slice none 0 0], .agg #[.int .i64 0, .int .i64 0, .int .i64 0, .int .i64 0, .int .i64 0, .int .i64 0, .int .i64 0, .int .i64 0]], []⟩).memory := by
  rw [MakeChecks.laidMetH_plain _ _ _ (by kernel_rfl)]
  exact laidMet_laidAll _ (by kernel_rfl) (by kernel_rfl)
theorem rtProof_reads (os : Os) {H : Type} (enc : TypeId × Value → H) : ∃ x : List (DataW H) × List (DataW H) × List MemPlace, DataW.whole enc Tryz.prog ((rtProof_world os).forCall (fun _ _ => 0) ⟨#[], #[.agg #[.slice none 0 0], .agg #[.int .i64 0, .int .i64 0, .int .i64 0, .int .i64 0, .int .i64 0, .int .i64 0, .int .i64 0, .int .i64 0]], []⟩).memory Tryz.f3.params.toList Rows.fnExactRootWriteSpec.vars false #[.agg #[.slice none 0 0], .agg #[.int .i64 0, .int .i64 0, .int .i64 0, .int .i64 0, .int .i64 0, .int .i64 0, .int .i64 0, .int .i64 0]].toList 8 = some x := by
  generalize hx : DataW.whole enc Tryz.prog ((rtProof_world os).forCall (fun _ _ => 0) ⟨#[], #[.agg #[.slice none 0 0], .agg #[.int .i64 0, .int .i64 0, .int .i64 0, .int .i64 0, .int .i64 0, .int .i64 0, .int .i64 0, .int .i64 0]], []⟩).memory Tryz.f3.params.toList Rows.fnExactRootWriteSpec.vars false #[.agg #[.slice none 0 0], .agg #[.int .i64 0, .int .i64 0, .int .i64 0, .int .i64 0, .int .i64 0, .int .i64 0, .int .i64 0, .int .i64 0]].toList 8 = o
  cases o with
  | none => exact absurd (show (DataW.whole enc Tryz.prog ((rtProof_world os).forCall (fun _ _ => 0) ⟨#[], #[.agg #[.slice none 0 0], .agg #[.int .i64 0, .int .i64 0, .int .i64 0, .int .i64 0, .int .i64 0, .int .i64 0, .int .i64 0, .int .i64 0]], []⟩).memory Tryz.f3.params.toList Rows.fnExactRootWriteSpec.vars false #[.agg #[.slice none 0 0], .agg #[.int .i64 0, .int .i64 0, .int .i64 0, .int .i64 0, .int .i64 0, .int .i64 0, .int .i64 0, .int .i64 0]].toList 8).isSome = true by kernel_rfl) (by rw [hx]; simp)
  | some x => exact ⟨x, rfl⟩
theorem rtProof_lifted (os : Os) (started : os.Started) (H : Type) (enc : TypeId × Value → H) (F : Stop.Interp) :
    ReturnsInHanded {} Tryz.checked os 3 .any ((OpenSpec.ofChange Rows.fnExactRootWriteSpec).preRow enc Tryz.prog Tryz.f3 Rows.fnExactRootWriteRow.domain false Rows.fnExactRootWriteRow.laid) (((OpenSpec.ofChange Rows.fnExactRootWriteSpec).at F).post enc Tryz.prog Tryz.f3 false true false false) := by
  obtain ⟨x, hx⟩ := rtProof_reads os enc
  refine returnsInHanded_of_row (C := Tryz.checked) (s := OpenSpec.ofChange Rows.fnExactRootWriteSpec) Tryz.own started (by kernel_rfl) Tryz.func3
    (witness_row_at (enc := enc) (C := Tryz.checked) false (rtProof_world os) #[.agg #[.slice none 0 0], .agg #[.int .i64 0, .int .i64 0, .int .i64 0, .int .i64 0, .int .i64 0, .int .i64 0, .int .i64 0, .int .i64 0]] (World.laidAll_os _ _ _) (by kernel_rfl) (by kernel_rfl) (by kernel_rfl)
      (OpenSpec.preRow_of_cond 8 hx (by rfl) (fun k hk => by cases hk) (by kernel_rfl) (rtProof_met os))) ?_
  intro W base args ds gs before hval0 hW _ _ _ hL _ _
  have hval : ∀ (j : Nat) t v, Tryz.f3.params[j]? = some t → args[j]? = some v → Value.okWide Tryz.prog W .any base t v := hval0
  rw [MakeChecks.laidMetH_plain _ _ _ (by kernel_rfl)] at hL
  have hT : TabP W := tab_of hL (List.mem_cons_of_mem _ (List.mem_cons_of_mem _ (List.mem_cons_self ..)))
  have hW' := hW
  obtain ⟨p, q, hA0, hV, rfl, hfz, hnd⟩ := hW
  have hA : DataW.TrodAll enc Tryz.prog W 0 (fun _ => true) true Tryz.f3.params.toList args.toList ds p := hA0
  rw [Tryz.params3] at hA hval
  obtain ⟨v0, v1, d0, d1, pa, pb, rfl, rfl, hpp, h0, h1⟩ := trodAll_two hA
  obtain ⟨rfl, rfl⟩ := trodVars_none hV
  obtain ⟨cs, rfl, hcs⟩ := okWide_struct Tryz.underlying24 (hval 0 _ _ rfl rfl)
  obtain ⟨ds1, rfl, hds⟩ := okWide_struct Tryz.underlying30 (hval 1 _ _ rfl rfl)
  obtain ⟨fuel, hf⟩ := h0
  obtain ⟨fuel1, hf1⟩ := h1
  obtain ⟨l1⟩ := ds1
  obtain ⟨l⟩ := cs
  simp only [Value.cells] at hf hf1
  obtain ⟨r, hr, hs⟩ := RaidD.read _ _ _ hf
  obtain ⟨x, rfl⟩ := rootRd _ _ _ hf1
  refine (lawRootWrite_any _ r x W hT hr hs).mono fun e W' ⟨he, hb⟩ => ?_
  subst he
  exact ⟨_, rfl, law_post Tryz.laidOut rfl rfl rfl Tryz.underlying4 rfl (by kernel_rfl) hW' hb⟩

theorem rtProof_said : Rows.FnExactRootWriteSaid :=
  OpenClaim.holds_of_cond 3 Tryz.f3 rfl rfl rfl rfl rfl rfl rfl ⟨rfl, rfl, rfl, rfl, rfl⟩ rfl rfl rfl rfl rfl (by kernel_rfl) Tryz.func3 (by kernel_rfl)
    (of_decide_eq_true (by kernel_rfl)) (by unfold Func.isWrapper; rw [if_neg (of_decide_eq_false (by kernel_rfl))]; exact ⟨rfl, rfl⟩)
    (fun os started H enc _ F => by rw [OpenClaim.pre_eq_preRow]; exact rtProof_lifted os started H enc F)

theorem rtProof_plain (f : FuncId) (fn : Func) (hf : Tryz.pinned.checked.prog.funcNamed "loop.example/poolfiles/laws.FnExactRootWrite" = some f) (hfn : Tryz.pinned.checked.prog.funcs[f]? = some fn) :
    true = Tryz.pinned.checked.prog.looks [] ∧ ∀ (j : Nat) t, fn.params[j]? = some t → Tryz.pinned.checked.prog.wantsStandIn t = false := by
  obtain rfl : f = 3 := Option.some.inj ((show Tryz.prog.funcNamed "loop.example/poolfiles/laws.FnExactRootWrite" = some 3 by kernel_rfl).symm.trans hf) |>.symm
  obtain rfl : fn = Tryz.f3 := (Option.some.inj (Tryz.func3.symm.trans hfn)).symm
  refine ⟨by kernel_rfl, fun j t ht => ?_⟩
  have hall : (Tryz.f3.params.toList.all fun u => !Tryz.prog.wantsStandIn u) = true := by kernel_rfl
  have hm : t ∈ Tryz.f3.params.toList := by simpa using Array.mem_of_getElem? ht
  exact (show Tryz.prog.wantsStandIn t = false by simpa using List.all_eq_true.1 hall t hm)
/-- The card. -/
theorem rtProof_card : Rows.FnExactRootWriteCardSaid :=
  Claim7.holds_tied_plain_at .later [] _ _ _ _ rtProof_said (fun _ h => by cases h) (by kernel_rfl) (fun _ h => by cases h) fnExactRootWrite_row_tie rfl ⟨rfl, rfl⟩ (by kernel_rfl) rfl rtProof_plain (by kernel_rfl)
#print axioms rtProof_card
end Go.Proofs.YtoaopmkbfifhaaaGreatDoor
