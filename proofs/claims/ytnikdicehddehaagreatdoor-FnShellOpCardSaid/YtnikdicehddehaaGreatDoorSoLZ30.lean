/- FnShellOp: for every code the law returns true (what it draws is read and said), and its argument and the map of words that the law lists read behind the call as before. No condition but that the tables of the library that the row lists hold what the program's text lays. -/
import Derived.ArgAppend
import Derived.BigQuiet
import Derived.BigRegion
import Derived.ChangeMaps5
import Derived.ChangeVars
import Derived.Deep.AppendLies
import Derived.Deep.DeepHandedRow
import Derived.Deep.DeepWitnessRowRef
import Derived.Deep.MidRow
import Derived.Deep.Quiet
import Derived.Deep.QuietTactic
import Derived.Deep.RegionHeld3
import Derived.Deep.RegionWith
import Derived.Deep.Slices
import Derived.IntWalk
import Derived.LaidLaws
import Derived.Laws.BytesArg
import Derived.Laws.IdiomRangeMap
import Derived.Laws.RangeAny
import Derived.Lay
import Derived.Lib.AppendIntMem
import Derived.Lib.Atoi
import Derived.Lib.Hide
import Derived.Lib.IndexAny
import Derived.Lib.IndexBytes
import Derived.Lib.IndexLaws
import Derived.Lib.ItoaNum
import Derived.Lib.Join
import Derived.Lib.LaidTab
import Derived.Lib.LaidU8
import Derived.Lib.LazyBuf
import Derived.Lib.SlBytesConst
import Derived.Lib.Split
import Derived.Lib.SplitLaws
import Derived.LoopIn
import Derived.LoopN
import Derived.LoopNIn
import Derived.MakeChecks
import Derived.OpenShut
import Derived.Orders
import Derived.OrdersHeld
import Derived.OwnWalkIn
import Derived.ProofKit
import Derived.RangeFuncLeaves
import Derived.RangeFuncNested
import Derived.Scope
import Derived.Shelf.Abstract
import Derived.Shelf.GgClosure.StringsIndexFunc
import Derived.Shelf.Small.Strs
import Derived.Shelf.Small.Utf8
import Derived.Shelf.Small.Wraps
import Derived.Shelf.Strconv.Atoi
import Derived.Shelf.Strconv.AtoiErr
import Derived.Shelf.Strconv.Itoa3
import Derived.Shelf.Strings.BuilderF
import Derived.Shelf.Strings.BuilderK
import Derived.Shelf.Strings.FuncGrows
import Derived.Shelf.Strings.IndexAnyAll
import Derived.Shelf.Strings.OnBuilder
import Derived.Shelf.Strings.Split
import Derived.Shelf.Strings.SplitShaped
import Derived.Shelf.Vars
import Derived.Still
import Derived.StillTail
import Derived.StillTailTactics
import Derived.StringKeys
import Derived.TacticsInMore
import Derived.Test.YtnikdicehddehaaGreatDoorCards
import Derived.Test.YtnikdicehddehaaGreatDoorRows
import Derived.Test.YtnikdicehddehaaGreatDoorTie
import Derived.WalkKit
import Derived.WalkLawsBesides
import Derived.WalkSpells
import Derived.WideKeyMaps2
import Derived.Test.YtnikdicehddehaaGreatDoorSoLZ29
/- FnShellOp: for every code the law returns true (what it draws is read and said), and its argument and the map of words that the law lists read behind the call as before. No condition but that the tables of the library that the row lists hold what the program's text lays. -/
namespace Go.Proofs.YtnikdicehddehaaGreatDoor
set_option linter.unusedVariables false
set_option linter.unusedSimpArgs false
set_option maxHeartbeats 1000000
set_option maxRecDepth 100000
open Go.ChangeShapes Go.WideShapes Go.ChangeAt Go.RowKit Go.Deep

/-- A world in which the map lies. -/
noncomputable def shO_base (os : Os) : World := (World.holding Tryz.prog os ⟨#[.map #[⟨.string ⟨#[109, 97, 107, 101]⟩, .int .i64 1, 0⟩, ⟨.string ⟨#[102, 111, 108, 100, 101, 114]⟩, .int .i64 2, 1⟩, ⟨.string ⟨#[119, 114, 105, 116, 101]⟩, .int .i64 3, 2⟩, ⟨.string ⟨#[99, 117, 116]⟩, .int .i64 4, 3⟩, ⟨.string ⟨#[100, 114, 111, 112]⟩, .int .i64 5, 4⟩, ⟨.string ⟨#[108, 105, 110, 107]⟩, .int .i64 6, 5⟩, ⟨.string ⟨#[109, 111, 118, 101]⟩, .int .i64 7, 6⟩] 7], #[], []⟩).setCell ⟨0, 0, none⟩ (.map (some (World.holding Tryz.prog os ⟨#[], #[], []⟩).heap.size))
def shO_great : List String := ["math/bits.deBruijn32tab", "math/bits.deBruijn64tab", "internal/strconv.uint64pow10", "unicode/utf8.acceptRanges", "strconv.ErrRange", "strconv.ErrSyntax", "unicode/utf8.first"]
noncomputable def shO_world (os : Os) : World := (shO_base os).layVars Tryz.prog (Rows.fnShellOpRow.laid.filter fun x => shO_great.contains x.1)
theorem shO_met (os : Os) : laidMetH Tryz.prog Rows.fnShellOpRow.laid ((shO_world os).forCall (fun _ _ => 0) ⟨#[], #[.slice none 0 0], []⟩).memory := by
  rw [MakeChecks.laidMetH_plain _ _ _ (by kernel_rfl)]
  exact laidMet_layVars (w0 := shO_base os) shO_great [0, (World.holding Tryz.prog os ⟨#[], #[], []⟩).heap.size] (by simp [World.memory, World.forCall, Input.heap, shO_world]) (by kernel_rfl) (by kernel_rfl) (LaidIn.of_run _ 8 (by kernel_rfl) (by kernel_rfl) (by kernel_rfl) (by kernel_rfl))
theorem shO_reads (os : Os) {H : Type} (enc : TypeId × Value → H) : ∃ x : List (DataW H) × List (DataW H) × List MemPlace, DataW.whole enc Tryz.prog ((shO_world os).forCall (fun _ _ => 0) ⟨#[], #[.slice none 0 0], []⟩).memory Tryz.f4.params.toList Rows.fnShellOpSpec.vars false #[.slice none 0 0].toList 8 = some x := by
  generalize hx : DataW.whole enc Tryz.prog ((shO_world os).forCall (fun _ _ => 0) ⟨#[], #[.slice none 0 0], []⟩).memory Tryz.f4.params.toList Rows.fnShellOpSpec.vars false #[.slice none 0 0].toList 8 = o
  cases o with
  | none => exact absurd (show (DataW.whole enc Tryz.prog ((shO_world os).forCall (fun _ _ => 0) ⟨#[], #[.slice none 0 0], []⟩).memory Tryz.f4.params.toList Rows.fnShellOpSpec.vars false #[.slice none 0 0].toList 8).isSome = true by kernel_rfl) (by rw [hx]; simp)
  | some x => exact ⟨x, rfl⟩
theorem shO_lifted (os : Os) (started : os.Started) (H : Type) (enc : TypeId × Value → H) (F : Stop.Interp) :
    ReturnsInHanded {} Tryz.checked os 4 .any ((OpenSpec.ofChange Rows.fnShellOpSpec).preRow enc Tryz.prog Tryz.f4 Rows.fnShellOpRow.domain false Rows.fnShellOpRow.laid) (((OpenSpec.ofChange Rows.fnShellOpSpec).at F).post enc Tryz.prog Tryz.f4 false true false false) := by
  obtain ⟨x, hx⟩ := shO_reads os enc
  refine returnsInHanded_of_row (C := Tryz.checked) (s := OpenSpec.ofChange Rows.fnShellOpSpec) Tryz.own started (by kernel_rfl) Tryz.func4
    (witness_row_atRef (enc := enc) (C := Tryz.checked) false (shO_world os) #[.slice none 0 0] (World.layVars_os _ _ _) (by kernel_rfl) (by kernel_rfl) (by kernel_rfl)
      (OpenSpec.preRow_of_cond 8 hx (by rfl) (fun k hk => by cases hk) (by kernel_rfl) (shO_met os))) ?_
  intro W base args ds gs before hval0 hW _ _ _ hL hSh _
  have hval : ∀ (j : Nat) t v, Tryz.f4.params[j]? = some t → args[j]? = some v → Value.okWide Tryz.prog W .any base t v := hval0
  rw [MakeChecks.laidMetH_plain _ _ _ (by kernel_rfl)] at hL
  have hT : TabP W := tab_of hL (List.mem_cons_of_mem _ (List.mem_cons_of_mem _ (List.mem_cons_self ..)))
  have hE : ErrP W := err_of hL (List.mem_cons_of_mem _ (List.mem_cons_of_mem _ (List.mem_cons_of_mem _ (List.mem_cons_of_mem _ (List.mem_cons_of_mem _ (List.mem_cons_self ..))))))
  obtain ⟨bm, es, clock, hQ⟩ := map_of hL (List.mem_cons_of_mem _ (List.mem_cons_of_mem _ (List.mem_cons_of_mem _ (List.mem_cons_of_mem _ (List.mem_cons_of_mem _ (List.mem_cons_of_mem _ (List.mem_cons_self ..)))))))
  have hM : MaxP W := max_of hSh
  have hW' := hW
  obtain ⟨p, q, hA0, hV, rfl, hfz, hnd⟩ := hW
  have hA : DataW.TrodAll enc Tryz.prog W 0 (fun _ => true) true Tryz.f4.params.toList args.toList ds p := hA0
  rw [Tryz.params4] at hA hval
  obtain ⟨v0, d0, rfl, rfl, h0⟩ := trodAll_one hA
  obtain ⟨q0, l0, k0, rfl⟩ := okWide_slice Tryz.underlying22 (hval 0 _ _ rfl rfl)
  obtain ⟨fuel0, hf0⟩ := h0; simp only [Value.cells] at hf0; obtain ⟨bs0, hr0, hc0⟩ := read_code hf0
  refine (fnShellOp_walk W bm es clock _ _ _ bs0 hT hM hE hQ hc0 hr0).mono fun e W' ⟨he, hb⟩ => ?_
  subst he
  exact ⟨_, rfl, law_postV Tryz.laidOut rfl rfl rfl Tryz.underlying4 (fun g hg => by subst hg; rfl) (by kernel_rfl) Tryz.gOps Tryz.gOpsType Tryz.underlying35 Tryz.underlying3 (by kernel_rfl) (of_decide_eq_true (by kernel_rfl)) hW' hb⟩

theorem shO_said : Rows.FnShellOpSaid :=
  OpenClaim.holds_of_cond 4 Tryz.f4 rfl rfl rfl rfl rfl rfl rfl ⟨rfl, rfl, rfl, rfl, rfl⟩ rfl rfl rfl rfl rfl (by kernel_rfl) Tryz.func4 (by kernel_rfl)
    (of_decide_eq_true (by kernel_rfl)) (by unfold Func.isWrapper; rw [if_neg (of_decide_eq_false (by kernel_rfl))]; exact ⟨rfl, rfl⟩)
    (fun os started H enc _ F => by rw [OpenClaim.pre_eq_preRow]; exact shO_lifted os started H enc F)

theorem shO_plain (f : FuncId) (fn : Func) (hf : Tryz.pinned.checked.prog.funcNamed "loop.example/poolfiles/laws.FnShellOp" = some f) (hfn : Tryz.pinned.checked.prog.funcs[f]? = some fn) :
    true = Tryz.pinned.checked.prog.looks [] ∧ ∀ (j : Nat) t, fn.params[j]? = some t → Tryz.pinned.checked.prog.wantsStandIn t = false := by
  obtain rfl : f = 4 := Option.some.inj ((show Tryz.prog.funcNamed "loop.example/poolfiles/laws.FnShellOp" = some 4 by kernel_rfl).symm.trans hf) |>.symm
  obtain rfl : fn = Tryz.f4 := (Option.some.inj (Tryz.func4.symm.trans hfn)).symm
  refine ⟨by kernel_rfl, fun j t ht => ?_⟩
  have hall : (Tryz.f4.params.toList.all fun u => !Tryz.prog.wantsStandIn u) = true := by kernel_rfl
  have hm : t ∈ Tryz.f4.params.toList := by simpa using Array.mem_of_getElem? ht
  exact (show Tryz.prog.wantsStandIn t = false by simpa using List.all_eq_true.1 hall t hm)
/-- The card. -/
theorem shO_card : Rows.FnShellOpCardSaid :=
  Claim7.holds_tied_plain_at .later [] _ _ _ _ shO_said (fun _ h => by cases h) (by kernel_rfl) (fun _ h => by cases h) fnShellOp_row_tie rfl ⟨rfl, rfl⟩ (by kernel_rfl) rfl shO_plain (by kernel_rfl)
#print axioms shO_card
end Go.Proofs.YtnikdicehddehaaGreatDoor
