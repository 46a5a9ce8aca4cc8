/- FnExactFilesTroubles: for every store and every tree, valid or not, the law returns true and its arguments read behind the call as before. No condition but that the tables of the library that the row lists hold what the program's text lays. -/
import Derived.Test.YtigjfacaofgjjaaGreatDoorCards
import Derived.Test.YtigjfacaofgjjaaGreatDoorTie
import Derived.Test.YtigjfacaofgjjaaGreatDoorWrZ32
namespace Go.Proofs.YtigjfacaofgjjaaGreatDoor
set_option linter.unusedVariables false
set_option linter.unusedSimpArgs false
set_option maxHeartbeats 1000000
set_option maxRecDepth 100000
open Go.ChangeShapes Go.WideShapes Go.ChangeAt Go.RowKit Go.Deep
noncomputable def Uy (os : Os) : World := World.laidAll Tryz.prog os Rows.fnExactFilesTroublesRow.laid
theorem ZmT (os : Os) : laidMetH Tryz.prog Rows.fnExactFilesTroublesRow.laid ((Uy os).forCall (fun _ _ => 0) ⟨#[], #[.agg #[.slice none 0 0, .slice none 0 0, .slice none 0 0, .int .i64 0, .slice none 0 0, .int .i64 0, .slice none 0 0, .bool false], .agg #[.int .i64 0, .int .i64 0, .int .i64 0, .int .i64 0, .int .i64 0, .int .i64 0, .int .i64 0]], []⟩).memory := by
  rw [MakeChecks.laidMetH_plain _ _ _ (by kernel_rfl)];exact laidMet_laidAll _ (by kernel_rfl) (by kernel_rfl)
theorem Zkv (os : Os) {H : Type} (enc : TypeId × Value → H) : ∃ x : List (DataW H) × List (DataW H) × List MemPlace, DataW.whole enc Tryz.prog ((Uy os).forCall (fun _ _ => 0) ⟨#[], #[.agg #[.slice none 0 0, .slice none 0 0, .slice none 0 0, .int .i64 0, .slice none 0 0, .int .i64 0, .slice none 0 0, .bool false], .agg #[.int .i64 0, .int .i64 0, .int .i64 0, .int .i64 0, .int .i64 0, .int .i64 0, .int .i64 0]], []⟩).memory Tryz.f10.params.toList Rows.fnExactFilesTroublesSpec.vars false #[.agg #[.slice none 0 0, .slice none 0 0, .slice none 0 0, .int .i64 0, .slice none 0 0, .int .i64 0, .slice none 0 0, .bool false], .agg #[.int .i64 0, .int .i64 0, .int .i64 0, .int .i64 0, .int .i64 0, .int .i64 0, .int .i64 0]].toList 8 = some x := by
  generalize hx : DataW.whole enc Tryz.prog ((Uy os).forCall (fun _ _ => 0) ⟨#[], #[.agg #[.slice none 0 0, .slice none 0 0, .slice none 0 0, .int .i64 0, .slice none 0 0, .int .i64 0, .slice none 0 0, .bool false], .agg #[.int .i64 0, .int .i64 0, .int .i64 0, .int .i64 0, .int .i64 0, .int .i64 0, .int .i64 0]], []⟩).memory Tryz.f10.params.toList Rows.fnExactFilesTroublesSpec.vars false #[.agg #[.slice none 0 0, .slice none 0 0, .slice none 0 0, .int .i64 0, .slice none 0 0, .int .i64 0, .slice none 0 0, .bool false], .agg #[.int .i64 0, .int .i64 0, .int .i64 0, .int .i64 0, .int .i64 0, .int .i64 0, .int .i64 0]].toList 8 = o
  cases o with
  | none => exact absurd (show (DataW.whole enc Tryz.prog ((Uy os).forCall (fun _ _ => 0) ⟨#[], #[.agg #[.slice none 0 0, .slice none 0 0, .slice none 0 0, .int .i64 0, .slice none 0 0, .int .i64 0, .slice none 0 0, .bool false], .agg #[.int .i64 0, .int .i64 0, .int .i64 0, .int .i64 0, .int .i64 0, .int .i64 0, .int .i64 0]], []⟩).memory Tryz.f10.params.toList Rows.fnExactFilesTroublesSpec.vars false #[.agg #[.slice none 0 0, .slice none 0 0, .slice none 0 0, .int .i64 0, .slice none 0 0, .int .i64 0, .slice none 0 0, .bool false], .agg #[.int .i64 0, .int .i64 0, .int .i64 0, .int .i64 0, .int .i64 0, .int .i64 0, .int .i64 0]].toList 8).isSome = true by kernel_rfl) (by rw [hx]; simp)
  | some x => exact ⟨x, rfl⟩
theorem ZiR (os : Os) (started : os.Started) (H : Type) (enc : TypeId × Value → H) (F : Stop.Interp) :
    ReturnsInHanded {} Tryz.checked os 10 .any ((OpenSpec.ofChange Rows.fnExactFilesTroublesSpec).preRow enc Tryz.prog Tryz.f10 Rows.fnExactFilesTroublesRow.domain false Rows.fnExactFilesTroublesRow.laid) (((OpenSpec.ofChange Rows.fnExactFilesTroublesSpec).at F).post enc Tryz.prog Tryz.f10 false true false false) := by
  obtain ⟨x, hx⟩ := Zkv os enc;refine returnsInHanded_of_row (C := Tryz.checked) (s := OpenSpec.ofChange Rows.fnExactFilesTroublesSpec) Tryz.own started (by kernel_rfl) Tryz.func10
    (witness_row_at (enc := enc) (C := Tryz.checked) false (Uy os) #[.agg #[.slice none 0 0, .slice none 0 0, .slice none 0 0, .int .i64 0, .slice none 0 0, .int .i64 0, .slice none 0 0, .bool false], .agg #[.int .i64 0, .int .i64 0, .int .i64 0, .int .i64 0, .int .i64 0, .int .i64 0, .int .i64 0]] (World.laidAll_os _ _ _) (by kernel_rfl) (by kernel_rfl) (by kernel_rfl)
      (OpenSpec.preRow_of_cond 8 hx (by rfl) (fun k hk => by cases hk) (by kernel_rfl) (ZmT os))) ?_
  intro W base args ds gs before hval0 hW _ _ _ hL hSh _;have hval : ∀ (j : Nat) t v, Tryz.f10.params[j]? = some t → args[j]? = some v → Value.okWide Tryz.prog W .any base t v := hval0;rw [MakeChecks.laidMetH_plain _ _ _ (by kernel_rfl)] at hL;have hT : Qg W := ZnI hL (List.mem_cons_of_mem _ (List.mem_cons_of_mem _ (List.mem_cons_self ..)));have hE : Jn W := ZnJ hL (List.mem_cons_of_mem _ (List.mem_cons_of_mem _ (List.mem_cons_of_mem _ (List.mem_cons_of_mem _ (List.mem_cons_of_mem _ (List.mem_cons_self ..))))));have hM : Je W := Zny hSh;have hW' := hW;obtain ⟨p, q, hA0, hV, rfl, hfz, hnd⟩ := hW;have hA : DataW.TrodAll enc Tryz.prog W 0 (fun _ => true) true Tryz.f10.params.toList args.toList ds p := hA0;rw [Tryz.params10] at hA hval;obtain ⟨v0, v1, d0, d1, pa, pb, rfl, rfl, hpp, h0, h1⟩ := trodAll_two hA;obtain ⟨rfl, rfl⟩ := trodVars_none hV;obtain ⟨cs, rfl, hcs⟩ := okWide_struct Tryz.underlying28 (hval 0 _ _ rfl rfl);obtain ⟨fuel, hf⟩ := h0;obtain ⟨l⟩ := cs;simp only [Value.cells] at hf;obtain ⟨st, hr, hs, hi⟩ := Zb.read _ _ _ hf;obtain ⟨ds1, rfl, hds⟩ := okWide_struct Tryz.underlying32 (hval 1 _ _ rfl rfl);obtain ⟨fuel1, hf1⟩ := h1;obtain ⟨l1⟩ := ds1;simp only [Value.cells] at hf1;obtain ⟨t, rfl⟩ := ZnH _ _ _ hf1;refine (VB _ st t W hT hM hE hr hs hi).mono fun e W' ⟨he, hb⟩ => ?_;subst he;exact ⟨_, rfl, Zl0 Tryz.laidOut rfl rfl rfl Tryz.underlying4 rfl (by kernel_rfl) hW' hb⟩
theorem ZnK : (Rows.fnExactFilesTroublesRow.wf (OpenSpec.ofChange (OpenSpec.ofChange Rows.fnExactFilesTroublesSpec).bare)) = true := by kernel_rfl
theorem ZnL : (laidOutB Tryz.prog) = true := by kernel_rfl
theorem ZnM : (mapsRowed Tryz.prog) = true := by kernel_rfl
theorem ZnN : (Tryz.f10.params.all (Tryz.prog.readableRec ·)) = true := by kernel_rfl
theorem ZnO : (namedTie Tryz.prog Rows.fnExactFilesTroublesRow.named (OpenSpec.ofChange Rows.fnExactFilesTroublesSpec).bare.vars) = true := by kernel_rfl
theorem ZnP : ((Rows.fnExactFilesTroublesRow.stops == [])) = true := by kernel_rfl
theorem ZnQ : ((Tryz.prog.stops == [])) = true := by kernel_rfl
theorem ZnR : ((Rows.fnExactFilesTroublesRow.knobs == [])) = true := by kernel_rfl
theorem ZnS : ((Tryz.prog.stopKnobs == [])) = true := by kernel_rfl
theorem ZnT : ((Rows.fnExactFilesTroublesRow.inPlace == Tryz.prog.inPlace 10)) = true := by kernel_rfl
theorem ZmU : ((Rows.fnExactFilesTroublesRow.unfollowed == Tryz.prog.unfollowed 10)) = true := by kernel_rfl
theorem ZmV : ((Rows.fnExactFilesTroublesRow.recurses == Tryz.prog.recurses 10)) = true := by kernel_rfl
theorem ZmW : ((Rows.fnExactFilesTroublesRow.named == Tryz.prog.varsNamed 10)) = true := by kernel_rfl
theorem ZmX : ((Rows.fnExactFilesTroublesRow.maps == (Tryz.f10.params.toList ++ (OpenSpec.ofChange Rows.fnExactFilesTroublesSpec).bare.plain.varTypes Tryz.prog).any (Tryz.prog.mapsRec ·))) = true := by kernel_rfl
theorem ZmY : ((Rows.fnExactFilesTroublesRow.ifaces == (Tryz.f10.params.toList ++ (OpenSpec.ofChange Rows.fnExactFilesTroublesSpec).bare.plain.varTypes Tryz.prog).any (Tryz.prog.ifacesRec ·))) = true := by kernel_rfl
theorem ZmZ : ((Rows.fnExactFilesTroublesRow.mapsOut == Tryz.prog.mapsAmong Tryz.f10.resultTypes.toList)) = true := by kernel_rfl
theorem Zm0 : ((Rows.fnExactFilesTroublesRow.loops == (Tryz.f10.params.toList ++ (OpenSpec.ofChange Rows.fnExactFilesTroublesSpec).bare.plain.varTypes Tryz.prog).any (Tryz.prog.loopsFrom ·))) = true := by kernel_rfl
theorem Zm1 : ((Rows.fnExactFilesTroublesRow.wideKeys == (Tryz.f10.params.toList ++ (OpenSpec.ofChange Rows.fnExactFilesTroublesSpec).bare.plain.varTypes Tryz.prog ++ Tryz.f10.resultTypes.toList).any (Tryz.prog.wideKeysFrom ·))) = true := by kernel_rfl
theorem Zm2 : ((OpenSpec.ofChange Rows.fnExactFilesTroublesSpec).bare.vars.all (Tryz.prog.varReadable ·)) = true := by kernel_rfl
theorem Zm3 : (Tryz.f10.resultTypes.all (fun t => Tryz.prog.readableRec t && decide (t < Tryz.prog.types.size))) = true := by kernel_rfl
theorem Zm4 : ((Rows.fnExactFilesTroublesRow.ifacesOut == Tryz.f10.resultTypes.toList.any (Tryz.prog.ifacesRec ·))) = true := by kernel_rfl
theorem Zm5 : ((Rows.fnExactFilesTroublesRow.loopsOut == Tryz.f10.resultTypes.toList.any (Tryz.prog.loopsFrom ·))) = true := by kernel_rfl
theorem Zm6 : ((Rows.fnExactFilesTroublesRow.plainKeys == Tryz.prog.plainKeys)) = true := by kernel_rfl
theorem Zm7 : (Rows.fnExactFilesTroublesRow.shortTexts.isNone) = true := by kernel_rfl
theorem Zm8 : (Tryz.prog.stopsHeard) = true := by kernel_rfl
theorem Zm9 : (Tryz.prog.mayEnter) = true := by kernel_rfl
theorem Zna : ((Rows.fnExactFilesTroublesRow.lifted == Tryz.prog.liftsFinal)) = true := by kernel_rfl
theorem Znb : ((Tryz.prog.make == some Rows.fnExactFilesTroublesRow.make)) = true := by kernel_rfl
theorem Znc : ((Rows.fnExactFilesTroublesRow.kinds == (if Rows.fnExactFilesTroublesRow.domain.isEmpty then [] else Tryz.f10.params.toList.map fun t => match Tryz.prog.underlying t with | some (.int k) => some k | _ => none))) = true := by kernel_rfl
theorem Znd : ((Rows.fnExactFilesTroublesRow.pinned == Rows.fnExactFilesTroublesRow.pinnedBy)) = true := by kernel_rfl
theorem Zne : ((Rows.fnExactFilesTroublesRow.veiled == (Tryz.f10.params.toList ++ (OpenSpec.ofChange Rows.fnExactFilesTroublesSpec).bare.plain.varTypes Tryz.prog ++ Tryz.f10.resultTypes.toList).any (Tryz.prog.veiledRec ·))) = true := by kernel_rfl
theorem Znf : (Rows.fnExactFilesTroublesRow.veiledFits Tryz.prog Tryz.f10.params.toList (Tryz.f10.params.toList ++ (OpenSpec.ofChange Rows.fnExactFilesTroublesSpec).bare.plain.varTypes Tryz.prog ++ Tryz.f10.resultTypes.toList)) = true := by kernel_rfl
theorem ZiS : joinedFacts Tryz.prog 10 Tryz.f10 (OpenSpec.ofChange Rows.fnExactFilesTroublesSpec).bare Rows.fnExactFilesTroublesRow = true := Zku ZnK ZnL ZnM ZnN ZnO ZnP ZnQ ZnR ZnS ZnT ZmU ZmV ZmW ZmX ZmY ZmZ Zm0 Zm1 Zm2 Zm3 Zm4 Zm5 Zm6 Zm7 Zm8 Zm9 Zna Znb Znc Znd Zne Znf
theorem Zl2 : Rows.FnExactFilesTroublesSaid :=
  OpenClaim.holds_of_cond 10 Tryz.f10 rfl rfl rfl rfl rfl rfl rfl ⟨rfl, rfl, rfl, rfl, rfl⟩ rfl rfl rfl rfl rfl (by kernel_rfl) Tryz.func10 ZiS
    (of_decide_eq_true (by kernel_rfl)) (by unfold Func.isWrapper; rw [if_neg (of_decide_eq_false (by kernel_rfl))]; exact ⟨rfl, rfl⟩)
    (fun os started H enc _ F => by rw [OpenClaim.pre_eq_preRow]; exact ZiR os started H enc F)
theorem Zkw (f : FuncId) (fn : Func) (hf : Tryz.pinned.checked.prog.funcNamed "loop.example/poolfiles/laws.FnExactFilesTroubles" = some f) (hfn : Tryz.pinned.checked.prog.funcs[f]? = some fn) :
    true = Tryz.pinned.checked.prog.looks [] ∧ ∀ (j : Nat) t, fn.params[j]? = some t → Tryz.pinned.checked.prog.wantsStandIn t = false := by
  obtain rfl : f = 10 := Option.some.inj ((show Tryz.prog.funcNamed "loop.example/poolfiles/laws.FnExactFilesTroubles" = some 10 by kernel_rfl).symm.trans hf) |>.symm;obtain rfl : fn = Tryz.f10 := (Option.some.inj (Tryz.func10.symm.trans hfn)).symm;refine ⟨by kernel_rfl, fun j t ht => ?_⟩;have hall : (Tryz.f10.params.toList.all fun u => !Tryz.prog.wantsStandIn u) = true := by kernel_rfl
  have hm : t ∈ Tryz.f10.params.toList := by simpa using Array.mem_of_getElem? ht
  exact (show Tryz.prog.wantsStandIn t = false by simpa using List.all_eq_true.1 hall t hm)
theorem wrR_card : Rows.FnExactFilesTroublesCardSaid :=
  Claim7.holds_tied_plain_at .later [] _ _ _ _ Zl2 (fun _ h => by cases h) (by kernel_rfl) (fun _ h => by cases h) fnExactFilesTroubles_row_tie rfl ⟨rfl, rfl⟩ (by kernel_rfl) rfl Zkw (by kernel_rfl)
#print axioms wrR_card
end Go.Proofs.YtigjfacaofgjjaaGreatDoor
