/- FnExactFilesWalk: for every store and every tree, valid or not, the law returns true and its arguments read behind the call as before. No condition but that the tables of the library that the row lists hold what the program's text lays. -/
import Derived.Test.YtigjfacaofgjjaaGreatDoorCards
import Derived.Test.YtigjfacaofgjjaaGreatDoorTie
import Derived.Test.YtigjfacaofgjjaaGreatDoorFwZ29
namespace Go.Proofs.YtigjfacaofgjjaaGreatDoor
set_option linter.unusedVariables false
set_option linter.unusedSimpArgs false
set_option maxHeartbeats 1000000
set_option maxRecDepth 100000
open Go.ChangeShapes Go.WideShapes Go.ChangeAt Go.RowKit Go.Deep
noncomputable def fwR_world (os : Os) : World := World.laidAll Tryz.prog os Rows.fnExactFilesWalkRow.laid
theorem fwR_met (os : Os) : laidMetH Tryz.prog Rows.fnExactFilesWalkRow.laid ((fwR_world os).forCall (fun _ _ => 0) ⟨#[], #[.agg #[.slice none 0 0, .slice none 0 0, .slice none 0 0, .int .i64 0, .slice none 0 0, .int .i64 0, .slice none 0 0, .bool false], .agg #[.int .i64 0, .int .i64 0, .int .i64 0, .int .i64 0, .int .i64 0, .int .i64 0, .int .i64 0]], []⟩).memory := by
  rw [MakeChecks.laidMetH_plain _ _ _ (by kernel_rfl)]
  exact laidMet_laidAll _ (by kernel_rfl) (by kernel_rfl)
theorem fwR_reads (os : Os) {H : Type} (enc : TypeId × Value → H) : ∃ x : List (DataW H) × List (DataW H) × List MemPlace, DataW.whole enc Tryz.prog ((fwR_world os).forCall (fun _ _ => 0) ⟨#[], #[.agg #[.slice none 0 0, .slice none 0 0, .slice none 0 0, .int .i64 0, .slice none 0 0, .int .i64 0, .slice none 0 0, .bool false], .agg #[.int .i64 0, .int .i64 0, .int .i64 0, .int .i64 0, .int .i64 0, .int .i64 0, .int .i64 0]], []⟩).memory Tryz.f3.params.toList Rows.fnExactFilesWalkSpec.vars false #[.agg #[.slice none 0 0, .slice none 0 0, .slice none 0 0, .int .i64 0, .slice none 0 0, .int .i64 0, .slice none 0 0, .bool false], .agg #[.int .i64 0, .int .i64 0, .int .i64 0, .int .i64 0, .int .i64 0, .int .i64 0, .int .i64 0]].toList 8 = some x := by
  generalize hx : DataW.whole enc Tryz.prog ((fwR_world os).forCall (fun _ _ => 0) ⟨#[], #[.agg #[.slice none 0 0, .slice none 0 0, .slice none 0 0, .int .i64 0, .slice none 0 0, .int .i64 0, .slice none 0 0, .bool false], .agg #[.int .i64 0, .int .i64 0, .int .i64 0, .int .i64 0, .int .i64 0, .int .i64 0, .int .i64 0]], []⟩).memory Tryz.f3.params.toList Rows.fnExactFilesWalkSpec.vars false #[.agg #[.slice none 0 0, .slice none 0 0, .slice none 0 0, .int .i64 0, .slice none 0 0, .int .i64 0, .slice none 0 0, .bool false], .agg #[.int .i64 0, .int .i64 0, .int .i64 0, .int .i64 0, .int .i64 0, .int .i64 0, .int .i64 0]].toList 8 = o
  cases o with
  | none => exact absurd (show (DataW.whole enc Tryz.prog ((fwR_world os).forCall (fun _ _ => 0) ⟨#[], #[.agg #[.slice none 0 0, .slice none 0 0, .slice none 0 0, .int .i64 0, .slice none 0 0, .int .i64 0, .slice none 0 0, .bool false], .agg #[.int .i64 0, .int .i64 0, .int .i64 0, .int .i64 0, .int .i64 0, .int .i64 0, .int .i64 0]], []⟩).memory Tryz.f3.params.toList Rows.fnExactFilesWalkSpec.vars false #[.agg #[.slice none 0 0, .slice none 0 0, .slice none 0 0, .int .i64 0, .slice none 0 0, .int .i64 0, .slice none 0 0, .bool false], .agg #[.int .i64 0, .int .i64 0, .int .i64 0, .int .i64 0, .int .i64 0, .int .i64 0, .int .i64 0]].toList 8).isSome = true by kernel_rfl) (by rw [hx]; simp)
  | some x => exact ⟨x, rfl⟩
theorem fwR_lifted (os : Os) (started : os.Started) (H : Type) (enc : TypeId × Value → H) (F : Stop.Interp) :
    ReturnsInHanded {} Tryz.checked os 3 .any ((OpenSpec.ofChange Rows.fnExactFilesWalkSpec).preRow enc Tryz.prog Tryz.f3 Rows.fnExactFilesWalkRow.domain false Rows.fnExactFilesWalkRow.laid) (((OpenSpec.ofChange Rows.fnExactFilesWalkSpec).at F).post enc Tryz.prog Tryz.f3 false true false false) := by
  obtain ⟨x, hx⟩ := fwR_reads os enc
  refine returnsInHanded_of_row (C := Tryz.checked) (s := OpenSpec.ofChange Rows.fnExactFilesWalkSpec) Tryz.own started (by kernel_rfl) Tryz.func3
    (witness_row_at (enc := enc) (C := Tryz.checked) false (fwR_world os) #[.agg #[.slice none 0 0, .slice none 0 0, .slice none 0 0, .int .i64 0, .slice none 0 0, .int .i64 0, .slice none 0 0, .bool false], .agg #[.int .i64 0, .int .i64 0, .int .i64 0, .int .i64 0, .int .i64 0, .int .i64 0, .int .i64 0]] (World.laidAll_os _ _ _) (by kernel_rfl) (by kernel_rfl) (by kernel_rfl)
      (OpenSpec.preRow_of_cond 8 hx (by rfl) (fun k hk => by cases hk) (by kernel_rfl) (fwR_met os))) ?_
  intro W base args ds gs before hval0 hW _ _ _ hL hSh _
  have hval : ∀ (j : Nat) t v, Tryz.f3.params[j]? = some t → args[j]? = some v → Value.okWide Tryz.prog W .any base t v := hval0
  rw [MakeChecks.laidMetH_plain _ _ _ (by kernel_rfl)] at hL
  have hT : TabP W := tab_of hL (List.mem_cons_of_mem _ (List.mem_cons_of_mem _ (List.mem_cons_self ..)))
  have hE : ErrP W := err_of hL (List.mem_cons_of_mem _ (List.mem_cons_of_mem _ (List.mem_cons_of_mem _ (List.mem_cons_of_mem _ (List.mem_cons_of_mem _ (List.mem_cons_self ..))))))
  have hM : MaxP W := max_of hSh
  have hW' := hW
  obtain ⟨p, q, hA0, hV, rfl, hfz, hnd⟩ := hW
  have hA : DataW.TrodAll enc Tryz.prog W 0 (fun _ => true) true Tryz.f3.params.toList args.toList ds p := hA0
  rw [Tryz.params3] at hA hval
  obtain ⟨v0, v1, d0, d1, pa, pb, rfl, rfl, hpp, h0, h1⟩ := trodAll_two hA
  obtain ⟨rfl, rfl⟩ := trodVars_none hV
  obtain ⟨cs, rfl, hcs⟩ := okWide_struct Tryz.underlying28 (hval 0 _ _ rfl rfl)
  obtain ⟨fuel, hf⟩ := h0
  obtain ⟨l⟩ := cs
  simp only [Value.cells] at hf
  obtain ⟨st, hr, hs, hi⟩ := StoreD.read _ _ _ hf
  obtain ⟨ds1, rfl, hds⟩ := okWide_struct Tryz.underlying32 (hval 1 _ _ rfl rfl)
  obtain ⟨fuel1, hf1⟩ := h1
  obtain ⟨l1⟩ := ds1
  simp only [Value.cells] at hf1
  obtain ⟨t, rfl⟩ := treeRd _ _ _ hf1
  refine (lawFilesWalk_any _ st t W hT hM hE hr hs hi).mono fun e W' ⟨he, hb⟩ => ?_
  subst he
  exact ⟨_, rfl, law_post Tryz.laidOut rfl rfl rfl Tryz.underlying4 rfl (by kernel_rfl) hW' hb⟩
theorem fwR_k0 : (Rows.fnExactFilesWalkRow.wf (OpenSpec.ofChange (OpenSpec.ofChange Rows.fnExactFilesWalkSpec).bare)) = true := by kernel_rfl
theorem fwR_k1 : (laidOutB Tryz.prog) = true := by kernel_rfl
theorem fwR_k2 : (mapsRowed Tryz.prog) = true := by kernel_rfl
theorem fwR_k3 : (Tryz.f3.params.all (Tryz.prog.readableRec ·)) = true := by kernel_rfl
theorem fwR_k4 : (namedTie Tryz.prog Rows.fnExactFilesWalkRow.named (OpenSpec.ofChange Rows.fnExactFilesWalkSpec).bare.vars) = true := by kernel_rfl
theorem fwR_k5 : ((Rows.fnExactFilesWalkRow.stops == [])) = true := by kernel_rfl
theorem fwR_k6 : ((Tryz.prog.stops == [])) = true := by kernel_rfl
theorem fwR_k7 : ((Rows.fnExactFilesWalkRow.knobs == [])) = true := by kernel_rfl
theorem fwR_k8 : ((Tryz.prog.stopKnobs == [])) = true := by kernel_rfl
theorem fwR_k9 : ((Rows.fnExactFilesWalkRow.inPlace == Tryz.prog.inPlace 3)) = true := by kernel_rfl
theorem fwR_k10 : ((Rows.fnExactFilesWalkRow.unfollowed == Tryz.prog.unfollowed 3)) = true := by kernel_rfl
theorem fwR_k11 : ((Rows.fnExactFilesWalkRow.recurses == Tryz.prog.recurses 3)) = true := by kernel_rfl
theorem fwR_k12 : ((Rows.fnExactFilesWalkRow.named == Tryz.prog.varsNamed 3)) = true := by kernel_rfl
theorem fwR_k13 : ((Rows.fnExactFilesWalkRow.maps == (Tryz.f3.params.toList ++ (OpenSpec.ofChange Rows.fnExactFilesWalkSpec).bare.plain.varTypes Tryz.prog).any (Tryz.prog.mapsRec ·))) = true := by kernel_rfl
theorem fwR_k14 : ((Rows.fnExactFilesWalkRow.ifaces == (Tryz.f3.params.toList ++ (OpenSpec.ofChange Rows.fnExactFilesWalkSpec).bare.plain.varTypes Tryz.prog).any (Tryz.prog.ifacesRec ·))) = true := by kernel_rfl
theorem fwR_k15 : ((Rows.fnExactFilesWalkRow.mapsOut == Tryz.prog.mapsAmong Tryz.f3.resultTypes.toList)) = true := by kernel_rfl
theorem fwR_k16 : ((Rows.fnExactFilesWalkRow.loops == (Tryz.f3.params.toList ++ (OpenSpec.ofChange Rows.fnExactFilesWalkSpec).bare.plain.varTypes Tryz.prog).any (Tryz.prog.loopsFrom ·))) = true := by kernel_rfl
theorem fwR_k17 : ((Rows.fnExactFilesWalkRow.wideKeys == (Tryz.f3.params.toList ++ (OpenSpec.ofChange Rows.fnExactFilesWalkSpec).bare.plain.varTypes Tryz.prog ++ Tryz.f3.resultTypes.toList).any (Tryz.prog.wideKeysFrom ·))) = true := by kernel_rfl
theorem fwR_k18 : ((OpenSpec.ofChange Rows.fnExactFilesWalkSpec).bare.vars.all (Tryz.prog.varReadable ·)) = true := by kernel_rfl
theorem fwR_k19 : (Tryz.f3.resultTypes.all (fun t => Tryz.prog.readableRec t && decide (t < Tryz.prog.types.size))) = true := by kernel_rfl
theorem fwR_k20 : ((Rows.fnExactFilesWalkRow.ifacesOut == Tryz.f3.resultTypes.toList.any (Tryz.prog.ifacesRec ·))) = true := by kernel_rfl
theorem fwR_k21 : ((Rows.fnExactFilesWalkRow.loopsOut == Tryz.f3.resultTypes.toList.any (Tryz.prog.loopsFrom ·))) = true := by kernel_rfl
theorem fwR_k22 : ((Rows.fnExactFilesWalkRow.plainKeys == Tryz.prog.plainKeys)) = true := by kernel_rfl
theorem fwR_k23 : (Rows.fnExactFilesWalkRow.shortTexts.isNone) = true := by kernel_rfl
theorem fwR_k24 : (Tryz.prog.stopsHeard) = true := by kernel_rfl
theorem fwR_k25 : (Tryz.prog.mayEnter) = true := by kernel_rfl
theorem fwR_k26 : ((Rows.fnExactFilesWalkRow.lifted == Tryz.prog.liftsFinal)) = true := by kernel_rfl
theorem fwR_k27 : ((Tryz.prog.make == some Rows.fnExactFilesWalkRow.make)) = true := by kernel_rfl
theorem fwR_k28 : ((Rows.fnExactFilesWalkRow.kinds == (if Rows.fnExactFilesWalkRow.domain.isEmpty then [] else Tryz.f3.params.toList.map fun t => match Tryz.prog.underlying t with | some (.int k) => some k | _ => none))) = true := by kernel_rfl
theorem fwR_k29 : ((Rows.fnExactFilesWalkRow.pinned == Rows.fnExactFilesWalkRow.pinnedBy)) = true := by kernel_rfl
theorem fwR_k30 : ((Rows.fnExactFilesWalkRow.veiled == (Tryz.f3.params.toList ++ (OpenSpec.ofChange Rows.fnExactFilesWalkSpec).bare.plain.varTypes Tryz.prog ++ Tryz.f3.resultTypes.toList).any (Tryz.prog.veiledRec ·))) = true := by kernel_rfl
theorem fwR_k31 : (Rows.fnExactFilesWalkRow.veiledFits Tryz.prog Tryz.f3.params.toList (Tryz.f3.params.toList ++ (OpenSpec.ofChange Rows.fnExactFilesWalkSpec).bare.plain.varTypes Tryz.prog ++ Tryz.f3.resultTypes.toList)) = true := by kernel_rfl
theorem fwR_closed : joinedFacts Tryz.prog 3 Tryz.f3 (OpenSpec.ofChange Rows.fnExactFilesWalkSpec).bare Rows.fnExactFilesWalkRow = true := joined_mk fwR_k0 fwR_k1 fwR_k2 fwR_k3 fwR_k4 fwR_k5 fwR_k6 fwR_k7 fwR_k8 fwR_k9 fwR_k10 fwR_k11 fwR_k12 fwR_k13 fwR_k14 fwR_k15 fwR_k16 fwR_k17 fwR_k18 fwR_k19 fwR_k20 fwR_k21 fwR_k22 fwR_k23 fwR_k24 fwR_k25 fwR_k26 fwR_k27 fwR_k28 fwR_k29 fwR_k30 fwR_k31
theorem fwR_said : Rows.FnExactFilesWalkSaid :=
  OpenClaim.holds_of_cond 3 Tryz.f3 rfl rfl rfl rfl rfl rfl rfl ⟨rfl, rfl, rfl, rfl, rfl⟩ rfl rfl rfl rfl rfl (by kernel_rfl) Tryz.func3 fwR_closed
    (of_decide_eq_true (by kernel_rfl)) (by unfold Func.isWrapper; rw [if_neg (of_decide_eq_false (by kernel_rfl))]; exact ⟨rfl, rfl⟩)
    (fun os started H enc _ F => by rw [OpenClaim.pre_eq_preRow]; exact fwR_lifted os started H enc F)
theorem fwR_plain (f : FuncId) (fn : Func) (hf : Tryz.pinned.checked.prog.funcNamed "loop.example/poolfiles/laws.FnExactFilesWalk" = some f) (hfn : Tryz.pinned.checked.prog.funcs[f]? = some fn) :
    true = Tryz.pinned.checked.prog.looks [] ∧ ∀ (j : Nat) t, fn.params[j]? = some t → Tryz.pinned.checked.prog.wantsStandIn t = false := by
  obtain rfl : f = 3 := Option.some.inj ((show Tryz.prog.funcNamed "loop.example/poolfiles/laws.FnExactFilesWalk" = some 3 by kernel_rfl).symm.trans hf) |>.symm
  obtain rfl : fn = Tryz.f3 := (Option.some.inj (Tryz.func3.symm.trans hfn)).symm
  refine ⟨by kernel_rfl, fun j t ht => ?_⟩
  have hall : (Tryz.f3.params.toList.all fun u => !Tryz.prog.wantsStandIn u) = true := by kernel_rfl
  have hm : t ∈ Tryz.f3.params.toList := by simpa using Array.mem_of_getElem? ht
  exact (show Tryz.prog.wantsStandIn t = false by simpa using List.all_eq_true.1 hall t hm)
theorem fwR_card : Rows.FnExactFilesWalkCardSaid :=
  Claim7.holds_tied_plain_at .later [] _ _ _ _ fwR_said (fun _ h => by cases h) (by kernel_rfl) (fun _ h => by cases h) fnExactFilesWalk_row_tie rfl ⟨rfl, rfl⟩ (by kernel_rfl) rfl fwR_plain (by kernel_rfl)
#print axioms fwR_card
end Go.Proofs.YtigjfacaofgjjaaGreatDoor
