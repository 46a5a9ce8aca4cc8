/- FnExactFilesNew: for every store, valid or not, the law returns true and its argument reads behind the call as before. No condition but that the tables of the library that the row lists hold what the program's text lays. -/
import Derived.Test.YtdlmlagcniifjaaGreatDoorCards
import Derived.Test.YtdlmlagcniifjaaGreatDoorTie
import Derived.Test.YtdlmlagcniifjaaGreatDoorFnZ31
namespace Go.Proofs.YtdlmlagcniifjaaGreatDoor
set_option linter.unusedVariables false
set_option linter.unusedSimpArgs false
set_option maxHeartbeats 1000000
set_option maxRecDepth 100000
open Go.ChangeShapes Go.WideShapes Go.ChangeAt Go.RowKit Go.Deep
noncomputable def fnR_world (os : Os) : World := World.laidAll Tryz.prog os Rows.fnExactFilesNewRow.laid
theorem fnR_met (os : Os) : laidMetH Tryz.prog Rows.fnExactFilesNewRow.laid ((fnR_world os).forCall (fun _ _ => 0) ⟨#[], #[.agg #[.slice none 0 0, .slice none 0 0, .slice none 0 0, .int .i64 0, .slice none 0 0, .int .i64 0, .slice none 0 0, .bool false]], []⟩).memory := by
  rw [MakeChecks.laidMetH_plain _ _ _ (by kernel_rfl)]
  exact laidMet_laidAll _ (by kernel_rfl) (by kernel_rfl)
theorem fnR_reads (os : Os) {H : Type} (enc : TypeId × Value → H) : ∃ x : List (DataW H) × List (DataW H) × List MemPlace, DataW.whole enc Tryz.prog ((fnR_world os).forCall (fun _ _ => 0) ⟨#[], #[.agg #[.slice none 0 0, .slice none 0 0, .slice none 0 0, .int .i64 0, .slice none 0 0, .int .i64 0, .slice none 0 0, .bool false]], []⟩).memory Tryz.f3.params.toList Rows.fnExactFilesNewSpec.vars false #[.agg #[.slice none 0 0, .slice none 0 0, .slice none 0 0, .int .i64 0, .slice none 0 0, .int .i64 0, .slice none 0 0, .bool false]].toList 8 = some x := by
  generalize hx : DataW.whole enc Tryz.prog ((fnR_world os).forCall (fun _ _ => 0) ⟨#[], #[.agg #[.slice none 0 0, .slice none 0 0, .slice none 0 0, .int .i64 0, .slice none 0 0, .int .i64 0, .slice none 0 0, .bool false]], []⟩).memory Tryz.f3.params.toList Rows.fnExactFilesNewSpec.vars false #[.agg #[.slice none 0 0, .slice none 0 0, .slice none 0 0, .int .i64 0, .slice none 0 0, .int .i64 0, .slice none 0 0, .bool false]].toList 8 = o
  cases o with
  | none => exact absurd (show (DataW.whole enc Tryz.prog ((fnR_world os).forCall (fun _ _ => 0) ⟨#[], #[.agg #[.slice none 0 0, .slice none 0 0, .slice none 0 0, .int .i64 0, .slice none 0 0, .int .i64 0, .slice none 0 0, .bool false]], []⟩).memory Tryz.f3.params.toList Rows.fnExactFilesNewSpec.vars false #[.agg #[.slice none 0 0, .slice none 0 0, .slice none 0 0, .int .i64 0, .slice none 0 0, .int .i64 0, .slice none 0 0, .bool false]].toList 8).isSome = true by kernel_rfl) (by rw [hx]; simp)
  | some x => exact ⟨x, rfl⟩
theorem fnR_lifted (os : Os) (started : os.Started) (H : Type) (enc : TypeId × Value → H) (F : Stop.Interp) :
    ReturnsInHanded {} Tryz.checked os 3 .any ((OpenSpec.ofChange Rows.fnExactFilesNewSpec).preRow enc Tryz.prog Tryz.f3 Rows.fnExactFilesNewRow.domain false Rows.fnExactFilesNewRow.laid) (((OpenSpec.ofChange Rows.fnExactFilesNewSpec).at F).post enc Tryz.prog Tryz.f3 false true false false) := by
  obtain ⟨x, hx⟩ := fnR_reads os enc
  refine returnsInHanded_of_row (C := Tryz.checked) (s := OpenSpec.ofChange Rows.fnExactFilesNewSpec) Tryz.own started (by kernel_rfl) Tryz.func3
    (witness_row_at (enc := enc) (C := Tryz.checked) false (fnR_world os) #[.agg #[.slice none 0 0, .slice none 0 0, .slice none 0 0, .int .i64 0, .slice none 0 0, .int .i64 0, .slice none 0 0, .bool false]] (World.laidAll_os _ _ _) (by kernel_rfl) (by kernel_rfl) (by kernel_rfl)
      (OpenSpec.preRow_of_cond 8 hx (by rfl) (fun k hk => by cases hk) (by kernel_rfl) (fnR_met os))) ?_
  intro W base args ds gs before hval0 hW _ _ _ hL hSh _
  have hval : ∀ (j : Nat) t v, Tryz.f3.params[j]? = some t → args[j]? = some v → Value.okWide Tryz.prog W .any base t v := hval0
  rw [MakeChecks.laidMetH_plain _ _ _ (by kernel_rfl)] at hL
  have hT : TabP W := tab_of hL (List.mem_cons_of_mem _ (List.mem_cons_of_mem _ (List.mem_cons_self ..)))
  have hE : ErrP W := err_of hL (List.mem_cons_of_mem _ (List.mem_cons_of_mem _ (List.mem_cons_of_mem _ (List.mem_cons_of_mem _ (List.mem_cons_of_mem _ (List.mem_cons_self ..))))))
  have hM : MaxP W := max_of hSh
  have hW' := hW
  obtain ⟨p, q, hA0, hV, rfl, hfz, hnd⟩ := hW
  have hA : DataW.TrodAll enc Tryz.prog W 0 (fun _ => true) true Tryz.f3.params.toList args.toList ds p := hA0
  rw [Tryz.params3] at hA hval
  obtain ⟨v0, d0, rfl, rfl, h0⟩ := trodAll_one hA
  obtain ⟨rfl, rfl⟩ := trodVars_none hV
  obtain ⟨cs, rfl, hcs⟩ := okWide_struct Tryz.underlying28 (hval 0 _ _ rfl rfl)
  obtain ⟨fuel, hf⟩ := h0
  obtain ⟨l⟩ := cs
  simp only [Value.cells] at hf
  obtain ⟨st, hr, hs, hi⟩ := StoreD.read _ _ _ hf
  refine (lawFilesNew_any _ st W hT hM hE hr hs hi).mono fun e W' ⟨he, hb⟩ => ?_
  subst he
  exact ⟨_, rfl, law_post Tryz.laidOut rfl rfl rfl Tryz.underlying4 rfl (by kernel_rfl) hW' hb⟩
theorem fnR_k0 : (Rows.fnExactFilesNewRow.wf (OpenSpec.ofChange (OpenSpec.ofChange Rows.fnExactFilesNewSpec).bare)) = true := by kernel_rfl
theorem fnR_k1 : (laidOutB Tryz.prog) = true := by kernel_rfl
theorem fnR_k2 : (mapsRowed Tryz.prog) = true := by kernel_rfl
theorem fnR_k3 : (Tryz.f3.params.all (Tryz.prog.readableRec ·)) = true := by kernel_rfl
theorem fnR_k4 : (namedTie Tryz.prog Rows.fnExactFilesNewRow.named (OpenSpec.ofChange Rows.fnExactFilesNewSpec).bare.vars) = true := by kernel_rfl
theorem fnR_k5 : ((Rows.fnExactFilesNewRow.stops == [])) = true := by kernel_rfl
theorem fnR_k6 : ((Tryz.prog.stops == [])) = true := by kernel_rfl
theorem fnR_k7 : ((Rows.fnExactFilesNewRow.knobs == [])) = true := by kernel_rfl
theorem fnR_k8 : ((Tryz.prog.stopKnobs == [])) = true := by kernel_rfl
theorem fnR_k9 : ((Rows.fnExactFilesNewRow.inPlace == Tryz.prog.inPlace 3)) = true := by kernel_rfl
theorem fnR_k10 : ((Rows.fnExactFilesNewRow.unfollowed == Tryz.prog.unfollowed 3)) = true := by kernel_rfl
theorem fnR_k11 : ((Rows.fnExactFilesNewRow.recurses == Tryz.prog.recurses 3)) = true := by kernel_rfl
theorem fnR_k12 : ((Rows.fnExactFilesNewRow.named == Tryz.prog.varsNamed 3)) = true := by kernel_rfl
theorem fnR_k13 : ((Rows.fnExactFilesNewRow.maps == (Tryz.f3.params.toList ++ (OpenSpec.ofChange Rows.fnExactFilesNewSpec).bare.plain.varTypes Tryz.prog).any (Tryz.prog.mapsRec ·))) = true := by kernel_rfl
theorem fnR_k14 : ((Rows.fnExactFilesNewRow.ifaces == (Tryz.f3.params.toList ++ (OpenSpec.ofChange Rows.fnExactFilesNewSpec).bare.plain.varTypes Tryz.prog).any (Tryz.prog.ifacesRec ·))) = true := by kernel_rfl
theorem fnR_k15 : ((Rows.fnExactFilesNewRow.mapsOut == Tryz.prog.mapsAmong Tryz.f3.resultTypes.toList)) = true := by kernel_rfl
theorem fnR_k16 : ((Rows.fnExactFilesNewRow.loops == (Tryz.f3.params.toList ++ (OpenSpec.ofChange Rows.fnExactFilesNewSpec).bare.plain.varTypes Tryz.prog).any (Tryz.prog.loopsFrom ·))) = true := by kernel_rfl
theorem fnR_k17 : ((Rows.fnExactFilesNewRow.wideKeys == (Tryz.f3.params.toList ++ (OpenSpec.ofChange Rows.fnExactFilesNewSpec).bare.plain.varTypes Tryz.prog ++ Tryz.f3.resultTypes.toList).any (Tryz.prog.wideKeysFrom ·))) = true := by kernel_rfl
theorem fnR_k18 : ((OpenSpec.ofChange Rows.fnExactFilesNewSpec).bare.vars.all (Tryz.prog.varReadable ·)) = true := by kernel_rfl
theorem fnR_k19 : (Tryz.f3.resultTypes.all (fun t => Tryz.prog.readableRec t && decide (t < Tryz.prog.types.size))) = true := by kernel_rfl
theorem fnR_k20 : ((Rows.fnExactFilesNewRow.ifacesOut == Tryz.f3.resultTypes.toList.any (Tryz.prog.ifacesRec ·))) = true := by kernel_rfl
theorem fnR_k21 : ((Rows.fnExactFilesNewRow.loopsOut == Tryz.f3.resultTypes.toList.any (Tryz.prog.loopsFrom ·))) = true := by kernel_rfl
theorem fnR_k22 : ((Rows.fnExactFilesNewRow.plainKeys == Tryz.prog.plainKeys)) = true := by kernel_rfl
theorem fnR_k23 : (Rows.fnExactFilesNewRow.shortTexts.isNone) = true := by kernel_rfl
theorem fnR_k24 : (Tryz.prog.stopsHeard) = true := by kernel_rfl
theorem fnR_k25 : (Tryz.prog.mayEnter) = true := by kernel_rfl
theorem fnR_k26 : ((Rows.fnExactFilesNewRow.lifted == Tryz.prog.liftsFinal)) = true := by kernel_rfl
theorem fnR_k27 : ((Tryz.prog.make == some Rows.fnExactFilesNewRow.make)) = true := by kernel_rfl
theorem fnR_k28 : ((Rows.fnExactFilesNewRow.kinds == (if Rows.fnExactFilesNewRow.domain.isEmpty then [] else Tryz.f3.params.toList.map fun t => match Tryz.prog.underlying t with | some (.int k) => some k | _ => none))) = true := by kernel_rfl
theorem fnR_k29 : ((Rows.fnExactFilesNewRow.pinned == Rows.fnExactFilesNewRow.pinnedBy)) = true := by kernel_rfl
theorem fnR_k30 : ((Rows.fnExactFilesNewRow.veiled == (Tryz.f3.params.toList ++ (OpenSpec.ofChange Rows.fnExactFilesNewSpec).bare.plain.varTypes Tryz.prog ++ Tryz.f3.resultTypes.toList).any (Tryz.prog.veiledRec ·))) = true := by kernel_rfl
theorem fnR_k31 : (Rows.fnExactFilesNewRow.veiledFits Tryz.prog Tryz.f3.params.toList (Tryz.f3.params.toList ++ (OpenSpec.ofChange Rows.fnExactFilesNewSpec).bare.plain.varTypes Tryz.prog ++ Tryz.f3.resultTypes.toList)) = true := by kernel_rfl
theorem fnR_closed : joinedFacts Tryz.prog 3 Tryz.f3 (OpenSpec.ofChange Rows.fnExactFilesNewSpec).bare Rows.fnExactFilesNewRow = true := joined_mk fnR_k0 fnR_k1 fnR_k2 fnR_k3 fnR_k4 fnR_k5 fnR_k6 fnR_k7 fnR_k8 fnR_k9 fnR_k10 fnR_k11 fnR_k12 fnR_k13 fnR_k14 fnR_k15 fnR_k16 fnR_k17 fnR_k18 fnR_k19 fnR_k20 fnR_k21 fnR_k22 fnR_k23 fnR_k24 fnR_k25 fnR_k26 fnR_k27 fnR_k28 fnR_k29 fnR_k30 fnR_k31
theorem fnR_said : Rows.FnExactFilesNewSaid :=
  OpenClaim.holds_of_cond 3 Tryz.f3 rfl rfl rfl rfl rfl rfl rfl ⟨rfl, rfl, rfl, rfl, rfl⟩ rfl rfl rfl rfl rfl (by kernel_rfl) Tryz.func3 fnR_closed
    (of_decide_eq_true (by kernel_rfl)) (by unfold Func.isWrapper; rw [if_neg (of_decide_eq_false (by kernel_rfl))]; exact ⟨rfl, rfl⟩)
    (fun os started H enc _ F => by rw [OpenClaim.pre_eq_preRow]; exact fnR_lifted os started H enc F)
theorem fnR_plain (f : FuncId) (fn : Func) (hf : Tryz.pinned.checked.prog.funcNamed "loop.example/poolfiles/laws.FnExactFilesNew" = some f) (hfn : Tryz.pinned.checked.prog.funcs[f]? = some fn) :
    true = Tryz.pinned.checked.prog.looks [] ∧ ∀ (j : Nat) t, fn.params[j]? = some t → Tryz.pinned.checked.prog.wantsStandIn t = false := by
  obtain rfl : f = 3 := Option.some.inj ((show Tryz.prog.funcNamed "loop.example/poolfiles/laws.FnExactFilesNew" = some 3 by kernel_rfl).symm.trans hf) |>.symm
  obtain rfl : fn = Tryz.f3 := (Option.some.inj (Tryz.func3.symm.trans hfn)).symm
  refine ⟨by kernel_rfl, fun j t ht => ?_⟩
  have hall : (Tryz.f3.params.toList.all fun u => !Tryz.prog.wantsStandIn u) = true := by kernel_rfl
  have hm : t ∈ Tryz.f3.params.toList := by simpa using Array.mem_of_getElem? ht
  exact (show Tryz.prog.wantsStandIn t = false by simpa using List.all_eq_true.1 hall t hm)
theorem fnR_card : Rows.FnExactFilesNewCardSaid :=
  Claim7.holds_tied_plain_at .later [] _ _ _ _ fnR_said (fun _ h => by cases h) (by kernel_rfl) (fun _ h => by cases h) fnExactFilesNew_row_tie rfl ⟨rfl, rfl⟩ (by kernel_rfl) rfl fnR_plain (by kernel_rfl)
#print axioms fnR_card
end Go.Proofs.YtdlmlagcniifjaaGreatDoor
