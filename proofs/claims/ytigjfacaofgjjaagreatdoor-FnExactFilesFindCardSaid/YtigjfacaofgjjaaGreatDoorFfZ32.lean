/- FnExactFilesFind: for every store, every tree and every text, valid or not, the law returns true and its arguments read behind the call as before. No condition but that the tables of the library that the row lists hold what the program's text lays. -/
import Derived.Test.YtigjfacaofgjjaaGreatDoorCards
import Derived.Test.YtigjfacaofgjjaaGreatDoorTie
import Derived.Test.YtigjfacaofgjjaaGreatDoorFfZ31
namespace Go.Proofs.YtigjfacaofgjjaaGreatDoor
set_option linter.unusedVariables false
set_option linter.unusedSimpArgs false
set_option maxHeartbeats 1000000
set_option maxRecDepth 100000
open Go.ChangeShapes Go.WideShapes Go.ChangeAt Go.RowKit Go.Deep
noncomputable def ffR_world (os : Os) : World := World.laidAll Tryz.prog os Rows.fnExactFilesFindRow.laid
theorem ffR_met (os : Os) : laidMetH Tryz.prog Rows.fnExactFilesFindRow.laid ((ffR_world os).forCall (fun _ _ => 0) ⟨#[], #[.agg #[.slice none 0 0, .slice none 0 0, .slice none 0 0, .int .i64 0, .slice none 0 0, .int .i64 0, .slice none 0 0, .bool false], .agg #[.int .i64 0, .int .i64 0, .int .i64 0, .int .i64 0, .int .i64 0, .int .i64 0, .int .i64 0], .string ByteArray.empty], []⟩).memory := by
  rw [MakeChecks.laidMetH_plain _ _ _ (by kernel_rfl)]
  exact laidMet_laidAll _ (by kernel_rfl) (by kernel_rfl)
theorem ffR_reads (os : Os) {H : Type} (enc : TypeId × Value → H) : ∃ x : List (DataW H) × List (DataW H) × List MemPlace, DataW.whole enc Tryz.prog ((ffR_world os).forCall (fun _ _ => 0) ⟨#[], #[.agg #[.slice none 0 0, .slice none 0 0, .slice none 0 0, .int .i64 0, .slice none 0 0, .int .i64 0, .slice none 0 0, .bool false], .agg #[.int .i64 0, .int .i64 0, .int .i64 0, .int .i64 0, .int .i64 0, .int .i64 0, .int .i64 0], .string ByteArray.empty], []⟩).memory Tryz.f4.params.toList Rows.fnExactFilesFindSpec.vars false #[.agg #[.slice none 0 0, .slice none 0 0, .slice none 0 0, .int .i64 0, .slice none 0 0, .int .i64 0, .slice none 0 0, .bool false], .agg #[.int .i64 0, .int .i64 0, .int .i64 0, .int .i64 0, .int .i64 0, .int .i64 0, .int .i64 0], .string ByteArray.empty].toList 8 = some x := by
  generalize hx : DataW.whole enc Tryz.prog ((ffR_world os).forCall (fun _ _ => 0) ⟨#[], #[.agg #[.slice none 0 0, .slice none 0 0, .slice none 0 0, .int .i64 0, .slice none 0 0, .int .i64 0, .slice none 0 0, .bool false], .agg #[.int .i64 0, .int .i64 0, .int .i64 0, .int .i64 0, .int .i64 0, .int .i64 0, .int .i64 0], .string ByteArray.empty], []⟩).memory Tryz.f4.params.toList Rows.fnExactFilesFindSpec.vars false #[.agg #[.slice none 0 0, .slice none 0 0, .slice none 0 0, .int .i64 0, .slice none 0 0, .int .i64 0, .slice none 0 0, .bool false], .agg #[.int .i64 0, .int .i64 0, .int .i64 0, .int .i64 0, .int .i64 0, .int .i64 0, .int .i64 0], .string ByteArray.empty].toList 8 = o
  cases o with
  | none => exact absurd (show (DataW.whole enc Tryz.prog ((ffR_world os).forCall (fun _ _ => 0) ⟨#[], #[.agg #[.slice none 0 0, .slice none 0 0, .slice none 0 0, .int .i64 0, .slice none 0 0, .int .i64 0, .slice none 0 0, .bool false], .agg #[.int .i64 0, .int .i64 0, .int .i64 0, .int .i64 0, .int .i64 0, .int .i64 0, .int .i64 0], .string ByteArray.empty], []⟩).memory Tryz.f4.params.toList Rows.fnExactFilesFindSpec.vars false #[.agg #[.slice none 0 0, .slice none 0 0, .slice none 0 0, .int .i64 0, .slice none 0 0, .int .i64 0, .slice none 0 0, .bool false], .agg #[.int .i64 0, .int .i64 0, .int .i64 0, .int .i64 0, .int .i64 0, .int .i64 0, .int .i64 0], .string ByteArray.empty].toList 8).isSome = true by kernel_rfl) (by rw [hx]; simp)
  | some x => exact ⟨x, rfl⟩
theorem ffR_lifted (os : Os) (started : os.Started) (H : Type) (enc : TypeId × Value → H) (F : Stop.Interp) :
    ReturnsInHanded {} Tryz.checked os 4 .any ((OpenSpec.ofChange Rows.fnExactFilesFindSpec).preRow enc Tryz.prog Tryz.f4 Rows.fnExactFilesFindRow.domain false Rows.fnExactFilesFindRow.laid) (((OpenSpec.ofChange Rows.fnExactFilesFindSpec).at F).post enc Tryz.prog Tryz.f4 false true false false) := by
  obtain ⟨x, hx⟩ := ffR_reads os enc
  refine returnsInHanded_of_row (C := Tryz.checked) (s := OpenSpec.ofChange Rows.fnExactFilesFindSpec) Tryz.own started (by kernel_rfl) Tryz.func4
    (witness_row_at (enc := enc) (C := Tryz.checked) false (ffR_world os) #[.agg #[.slice none 0 0, .slice none 0 0, .slice none 0 0, .int .i64 0, .slice none 0 0, .int .i64 0, .slice none 0 0, .bool false], .agg #[.int .i64 0, .int .i64 0, .int .i64 0, .int .i64 0, .int .i64 0, .int .i64 0, .int .i64 0], .string ByteArray.empty] (World.laidAll_os _ _ _) (by kernel_rfl) (by kernel_rfl) (by kernel_rfl)
      (OpenSpec.preRow_of_cond 8 hx (by rfl) (fun k hk => by cases hk) (by kernel_rfl) (ffR_met os))) ?_
  intro W base args ds gs before hval0 hW _ _ _ hL hSh _
  have hval : ∀ (j : Nat) t v, Tryz.f4.params[j]? = some t → args[j]? = some v → Value.okWide Tryz.prog W .any base t v := hval0
  rw [MakeChecks.laidMetH_plain _ _ _ (by kernel_rfl)] at hL
  have hT : TabP W := tab_of hL (List.mem_cons_of_mem _ (List.mem_cons_of_mem _ (List.mem_cons_self ..)))
  have hE : ErrP W := err_of hL (List.mem_cons_of_mem _ (List.mem_cons_of_mem _ (List.mem_cons_of_mem _ (List.mem_cons_of_mem _ (List.mem_cons_of_mem _ (List.mem_cons_self ..))))))
  have hM : MaxP W := max_of hSh
  have hW' := hW
  obtain ⟨p, q, hA0, hV, rfl, hfz, hnd⟩ := hW
  have hA : DataW.TrodAll enc Tryz.prog W 0 (fun _ => true) true Tryz.f4.params.toList args.toList ds p := hA0
  rw [Tryz.params4] at hA hval
  obtain ⟨v0, v1, v2, d0, d1, d2, pa, pb, pc, rfl, rfl, hpp, h0, h1, h2⟩ := trodAll_three hA
  obtain ⟨rfl, rfl⟩ := trodVars_none hV
  obtain ⟨cs, rfl, hcs⟩ := okWide_struct Tryz.underlying28 (hval 0 _ _ rfl rfl)
  obtain ⟨fuel, hf⟩ := h0
  obtain ⟨l⟩ := cs
  simp only [Value.cells] at hf
  obtain ⟨st, hr, hs, hi⟩ := StoreD.read _ _ _ hf
  obtain ⟨ds1, rfl, hds⟩ := okWide_struct Tryz.underlying32 (hval 1 _ _ rfl rfl)
  obtain ⟨fuel1, hf1⟩ := h1
  obtain ⟨l1⟩ := ds1
  simp only [Value.cells] at hf1
  obtain ⟨t, rfl⟩ := treeRd _ _ _ hf1
  obtain ⟨s, rfl, rfl, rfl, hs9⟩ := Go.ChangeMaps.open_string Tryz.underlying9 (hval 2 _ _ rfl rfl) h2
  have hs9 : s.size < 9223372036854775808 := by unfold maxLen at hs9; omega
  refine (lawFilesFind_any _ st t s W hT hM hE hr hs hi hs9).mono fun e W' ⟨he, hb⟩ => ?_
  subst he
  exact ⟨_, rfl, law_post Tryz.laidOut rfl rfl rfl Tryz.underlying4 rfl (by kernel_rfl) hW' hb⟩
theorem ffR_k0 : (Rows.fnExactFilesFindRow.wf (OpenSpec.ofChange (OpenSpec.ofChange Rows.fnExactFilesFindSpec).bare)) = true := by kernel_rfl
theorem ffR_k1 : (laidOutB Tryz.prog) = true := by kernel_rfl
theorem ffR_k2 : (mapsRowed Tryz.prog) = true := by kernel_rfl
theorem ffR_k3 : (Tryz.f4.params.all (Tryz.prog.readableRec ·)) = true := by kernel_rfl
theorem ffR_k4 : (namedTie Tryz.prog Rows.fnExactFilesFindRow.named (OpenSpec.ofChange Rows.fnExactFilesFindSpec).bare.vars) = true := by kernel_rfl
theorem ffR_k5 : ((Rows.fnExactFilesFindRow.stops == [])) = true := by kernel_rfl
theorem ffR_k6 : ((Tryz.prog.stops == [])) = true := by kernel_rfl
theorem ffR_k7 : ((Rows.fnExactFilesFindRow.knobs == [])) = true := by kernel_rfl
theorem ffR_k8 : ((Tryz.prog.stopKnobs == [])) = true := by kernel_rfl
theorem ffR_k9 : ((Rows.fnExactFilesFindRow.inPlace == Tryz.prog.inPlace 4)) = true := by kernel_rfl
theorem ffR_k10 : ((Rows.fnExactFilesFindRow.unfollowed == Tryz.prog.unfollowed 4)) = true := by kernel_rfl
theorem ffR_k11 : ((Rows.fnExactFilesFindRow.recurses == Tryz.prog.recurses 4)) = true := by kernel_rfl
theorem ffR_k12 : ((Rows.fnExactFilesFindRow.named == Tryz.prog.varsNamed 4)) = true := by kernel_rfl
theorem ffR_k13 : ((Rows.fnExactFilesFindRow.maps == (Tryz.f4.params.toList ++ (OpenSpec.ofChange Rows.fnExactFilesFindSpec).bare.plain.varTypes Tryz.prog).any (Tryz.prog.mapsRec ·))) = true := by kernel_rfl
theorem ffR_k14 : ((Rows.fnExactFilesFindRow.ifaces == (Tryz.f4.params.toList ++ (OpenSpec.ofChange Rows.fnExactFilesFindSpec).bare.plain.varTypes Tryz.prog).any (Tryz.prog.ifacesRec ·))) = true := by kernel_rfl
theorem ffR_k15 : ((Rows.fnExactFilesFindRow.mapsOut == Tryz.prog.mapsAmong Tryz.f4.resultTypes.toList)) = true := by kernel_rfl
theorem ffR_k16 : ((Rows.fnExactFilesFindRow.loops == (Tryz.f4.params.toList ++ (OpenSpec.ofChange Rows.fnExactFilesFindSpec).bare.plain.varTypes Tryz.prog).any (Tryz.prog.loopsFrom ·))) = true := by kernel_rfl
theorem ffR_k17 : ((Rows.fnExactFilesFindRow.wideKeys == (Tryz.f4.params.toList ++ (OpenSpec.ofChange Rows.fnExactFilesFindSpec).bare.plain.varTypes Tryz.prog ++ Tryz.f4.resultTypes.toList).any (Tryz.prog.wideKeysFrom ·))) = true := by kernel_rfl
theorem ffR_k18 : ((OpenSpec.ofChange Rows.fnExactFilesFindSpec).bare.vars.all (Tryz.prog.varReadable ·)) = true := by kernel_rfl
theorem ffR_k19 : (Tryz.f4.resultTypes.all (fun t => Tryz.prog.readableRec t && decide (t < Tryz.prog.types.size))) = true := by kernel_rfl
theorem ffR_k20 : ((Rows.fnExactFilesFindRow.ifacesOut == Tryz.f4.resultTypes.toList.any (Tryz.prog.ifacesRec ·))) = true := by kernel_rfl
theorem ffR_k21 : ((Rows.fnExactFilesFindRow.loopsOut == Tryz.f4.resultTypes.toList.any (Tryz.prog.loopsFrom ·))) = true := by kernel_rfl
theorem ffR_k22 : ((Rows.fnExactFilesFindRow.plainKeys == Tryz.prog.plainKeys)) = true := by kernel_rfl
theorem ffR_k23 : (Rows.fnExactFilesFindRow.shortTexts.isNone) = true := by kernel_rfl
theorem ffR_k24 : (Tryz.prog.stopsHeard) = true := by kernel_rfl
theorem ffR_k25 : (Tryz.prog.mayEnter) = true := by kernel_rfl
theorem ffR_k26 : ((Rows.fnExactFilesFindRow.lifted == Tryz.prog.liftsFinal)) = true := by kernel_rfl
theorem ffR_k27 : ((Tryz.prog.make == some Rows.fnExactFilesFindRow.make)) = true := by kernel_rfl
theorem ffR_k28 : ((Rows.fnExactFilesFindRow.kinds == (if Rows.fnExactFilesFindRow.domain.isEmpty then [] else Tryz.f4.params.toList.map fun t => match Tryz.prog.underlying t with | some (.int k) => some k | _ => none))) = true := by kernel_rfl
theorem ffR_k29 : ((Rows.fnExactFilesFindRow.pinned == Rows.fnExactFilesFindRow.pinnedBy)) = true := by kernel_rfl
theorem ffR_k30 : ((Rows.fnExactFilesFindRow.veiled == (Tryz.f4.params.toList ++ (OpenSpec.ofChange Rows.fnExactFilesFindSpec).bare.plain.varTypes Tryz.prog ++ Tryz.f4.resultTypes.toList).any (Tryz.prog.veiledRec ·))) = true := by kernel_rfl
theorem ffR_k31 : (Rows.fnExactFilesFindRow.veiledFits Tryz.prog Tryz.f4.params.toList (Tryz.f4.params.toList ++ (OpenSpec.ofChange Rows.fnExactFilesFindSpec).bare.plain.varTypes Tryz.prog ++ Tryz.f4.resultTypes.toList)) = true := by kernel_rfl
theorem ffR_closed : joinedFacts Tryz.prog 4 Tryz.f4 (OpenSpec.ofChange Rows.fnExactFilesFindSpec).bare Rows.fnExactFilesFindRow = true := joined_mk ffR_k0 ffR_k1 ffR_k2 ffR_k3 ffR_k4 ffR_k5 ffR_k6 ffR_k7 ffR_k8 ffR_k9 ffR_k10 ffR_k11 ffR_k12 ffR_k13 ffR_k14 ffR_k15 ffR_k16 ffR_k17 ffR_k18 ffR_k19 ffR_k20 ffR_k21 ffR_k22 ffR_k23 ffR_k24 ffR_k25 ffR_k26 ffR_k27 ffR_k28 ffR_k29 ffR_k30 ffR_k31
theorem ffR_said : Rows.FnExactFilesFindSaid :=
  OpenClaim.holds_of_cond 4 Tryz.f4 rfl rfl rfl rfl rfl rfl rfl ⟨rfl, rfl, rfl, rfl, rfl⟩ rfl rfl rfl rfl rfl (by kernel_rfl) Tryz.func4 ffR_closed
    (of_decide_eq_true (by kernel_rfl)) (by unfold Func.isWrapper; rw [if_neg (of_decide_eq_false (by kernel_rfl))]; exact ⟨rfl, rfl⟩)
    (fun os started H enc _ F => by rw [OpenClaim.pre_eq_preRow]; exact ffR_lifted os started H enc F)
theorem ffR_plain (f : FuncId) (fn : Func) (hf : Tryz.pinned.checked.prog.funcNamed "loop.example/poolfiles/laws.FnExactFilesFind" = some f) (hfn : Tryz.pinned.checked.prog.funcs[f]? = some fn) :
    true = Tryz.pinned.checked.prog.looks [] ∧ ∀ (j : Nat) t, fn.params[j]? = some t → Tryz.pinned.checked.prog.wantsStandIn t = false := by
  obtain rfl : f = 4 := Option.some.inj ((show Tryz.prog.funcNamed "loop.example/poolfiles/laws.FnExactFilesFind" = some 4 by kernel_rfl).symm.trans hf) |>.symm
  obtain rfl : fn = Tryz.f4 := (Option.some.inj (Tryz.func4.symm.trans hfn)).symm
  refine ⟨by kernel_rfl, fun j t ht => ?_⟩
  have hall : (Tryz.f4.params.toList.all fun u => !Tryz.prog.wantsStandIn u) = true := by kernel_rfl
  have hm : t ∈ Tryz.f4.params.toList := by simpa using Array.mem_of_getElem? ht
  exact (show Tryz.prog.wantsStandIn t = false by simpa using List.all_eq_true.1 hall t hm)
theorem ffR_card : Rows.FnExactFilesFindCardSaid :=
  Claim7.holds_tied_plain_at .later [] _ _ _ _ ffR_said (fun _ h => by cases h) (by kernel_rfl) (fun _ h => by cases h) fnExactFilesFind_row_tie rfl ⟨rfl, rfl⟩ (by kernel_rfl) rfl ffR_plain (by kernel_rfl)
#print axioms ffR_card
end Go.Proofs.YtigjfacaofgjjaaGreatDoor
