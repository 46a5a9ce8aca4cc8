/- FnExactFilesList: for every store, every tree and every text, valid or not, the law returns true and its arguments read behind the call as before. No condition but that the tables of the library that the row lists hold what the program's text lays. -/
import Derived.Test.YtigjfacaofgjjaaGreatDoorCards
import Derived.Test.YtigjfacaofgjjaaGreatDoorTie
import Derived.Test.YtigjfacaofgjjaaGreatDoorFlZ31
namespace Go.Proofs.YtigjfacaofgjjaaGreatDoor
set_option linter.unusedVariables false
set_option linter.unusedSimpArgs false
set_option maxHeartbeats 1000000
set_option maxRecDepth 100000
open Go.ChangeShapes Go.WideShapes Go.ChangeAt Go.RowKit Go.Deep
noncomputable def Ug (os : Os) : World := World.laidAll Tryz.prog os Rows.fnExactFilesListRow.laid
theorem ZnL (os : Os) : laidMetH Tryz.prog Rows.fnExactFilesListRow.laid ((Ug os).forCall (fun _ _ => 0) ⟨#[], #[.agg #[.slice none 0 0, .slice none 0 0, .slice none 0 0, .int .i64 0, .slice none 0 0, .int .i64 0, .slice none 0 0, .bool false], .agg #[.int .i64 0, .int .i64 0, .int .i64 0, .int .i64 0, .int .i64 0, .int .i64 0, .int .i64 0], .string ByteArray.empty], []⟩).memory := by
  rw [MakeChecks.laidMetH_plain _ _ _ (by kernel_rfl)];exact laidMet_laidAll _ (by kernel_rfl) (by kernel_rfl)
theorem Zli (os : Os) {H : Type} (enc : TypeId × Value → H) : ∃ x : List (DataW H) × List (DataW H) × List MemPlace, DataW.whole enc Tryz.prog ((Ug os).forCall (fun _ _ => 0) ⟨#[], #[.agg #[.slice none 0 0, .slice none 0 0, .slice none 0 0, .int .i64 0, .slice none 0 0, .int .i64 0, .slice none 0 0, .bool false], .agg #[.int .i64 0, .int .i64 0, .int .i64 0, .int .i64 0, .int .i64 0, .int .i64 0, .int .i64 0], .string ByteArray.empty], []⟩).memory Tryz.f6.params.toList Rows.fnExactFilesListSpec.vars false #[.agg #[.slice none 0 0, .slice none 0 0, .slice none 0 0, .int .i64 0, .slice none 0 0, .int .i64 0, .slice none 0 0, .bool false], .agg #[.int .i64 0, .int .i64 0, .int .i64 0, .int .i64 0, .int .i64 0, .int .i64 0, .int .i64 0], .string ByteArray.empty].toList 8 = some x := by
  generalize hx : DataW.whole enc Tryz.prog ((Ug os).forCall (fun _ _ => 0) ⟨#[], #[.agg #[.slice none 0 0, .slice none 0 0, .slice none 0 0, .int .i64 0, .slice none 0 0, .int .i64 0, .slice none 0 0, .bool false], .agg #[.int .i64 0, .int .i64 0, .int .i64 0, .int .i64 0, .int .i64 0, .int .i64 0, .int .i64 0], .string ByteArray.empty], []⟩).memory Tryz.f6.params.toList Rows.fnExactFilesListSpec.vars false #[.agg #[.slice none 0 0, .slice none 0 0, .slice none 0 0, .int .i64 0, .slice none 0 0, .int .i64 0, .slice none 0 0, .bool false], .agg #[.int .i64 0, .int .i64 0, .int .i64 0, .int .i64 0, .int .i64 0, .int .i64 0, .int .i64 0], .string ByteArray.empty].toList 8 = o
  cases o with
  | none => exact absurd (show (DataW.whole enc Tryz.prog ((Ug os).forCall (fun _ _ => 0) ⟨#[], #[.agg #[.slice none 0 0, .slice none 0 0, .slice none 0 0, .int .i64 0, .slice none 0 0, .int .i64 0, .slice none 0 0, .bool false], .agg #[.int .i64 0, .int .i64 0, .int .i64 0, .int .i64 0, .int .i64 0, .int .i64 0, .int .i64 0], .string ByteArray.empty], []⟩).memory Tryz.f6.params.toList Rows.fnExactFilesListSpec.vars false #[.agg #[.slice none 0 0, .slice none 0 0, .slice none 0 0, .int .i64 0, .slice none 0 0, .int .i64 0, .slice none 0 0, .bool false], .agg #[.int .i64 0, .int .i64 0, .int .i64 0, .int .i64 0, .int .i64 0, .int .i64 0, .int .i64 0], .string ByteArray.empty].toList 8).isSome = true by kernel_rfl) (by rw [hx]; simp)
  | some x => exact ⟨x, rfl⟩
theorem ZjE (os : Os) (started : os.Started) (H : Type) (enc : TypeId × Value → H) (F : Stop.Interp) :
    ReturnsInHanded {} Tryz.checked os 6 .any ((OpenSpec.ofChange Rows.fnExactFilesListSpec).preRow enc Tryz.prog Tryz.f6 Rows.fnExactFilesListRow.domain false Rows.fnExactFilesListRow.laid) (((OpenSpec.ofChange Rows.fnExactFilesListSpec).at F).post enc Tryz.prog Tryz.f6 false true false false) := by
  obtain ⟨x, hx⟩ := Zli os enc;refine returnsInHanded_of_row (C := Tryz.checked) (s := OpenSpec.ofChange Rows.fnExactFilesListSpec) Tryz.own started (by kernel_rfl) Tryz.func6
    (witness_row_at (enc := enc) (C := Tryz.checked) false (Ug os) #[.agg #[.slice none 0 0, .slice none 0 0, .slice none 0 0, .int .i64 0, .slice none 0 0, .int .i64 0, .slice none 0 0, .bool false], .agg #[.int .i64 0, .int .i64 0, .int .i64 0, .int .i64 0, .int .i64 0, .int .i64 0, .int .i64 0], .string ByteArray.empty] (World.laidAll_os _ _ _) (by kernel_rfl) (by kernel_rfl) (by kernel_rfl)
      (OpenSpec.preRow_of_cond 8 hx (by rfl) (fun k hk => by cases hk) (by kernel_rfl) (ZnL os))) ?_
  intro W base args ds gs before hval0 hW _ _ _ hL hSh _;have hval : ∀ (j : Nat) t v, Tryz.f6.params[j]? = some t → args[j]? = some v → Value.okWide Tryz.prog W .any base t v := hval0;rw [MakeChecks.laidMetH_plain _ _ _ (by kernel_rfl)] at hL;have hT : X1 W := ZoA hL (List.mem_cons_of_mem _ (List.mem_cons_of_mem _ (List.mem_cons_self ..)));have hE : Q7 W := ZoB hL (List.mem_cons_of_mem _ (List.mem_cons_of_mem _ (List.mem_cons_of_mem _ (List.mem_cons_of_mem _ (List.mem_cons_of_mem _ (List.mem_cons_self ..))))));have hM : QF W := Zoo hSh;have hW' := hW;obtain ⟨p, q, hA0, hV, rfl, hfz, hnd⟩ := hW;have hA : DataW.TrodAll enc Tryz.prog W 0 (fun _ => true) true Tryz.f6.params.toList args.toList ds p := hA0;rw [Tryz.params6] at hA hval;obtain ⟨v0, v1, v2, d0, d1, d2, pa, pb, pc, rfl, rfl, hpp, h0, h1, h2⟩ := trodAll_three hA;obtain ⟨rfl, rfl⟩ := trodVars_none hV;obtain ⟨cs, rfl, hcs⟩ := okWide_struct Tryz.underlying28 (hval 0 _ _ rfl rfl);obtain ⟨fuel, hf⟩ := h0;obtain ⟨l⟩ := cs;simp only [Value.cells] at hf;obtain ⟨st, hr, hs, hi⟩ := Za.read _ _ _ hf;obtain ⟨ds1, rfl, hds⟩ := okWide_struct Tryz.underlying32 (hval 1 _ _ rfl rfl);obtain ⟨fuel1, hf1⟩ := h1;obtain ⟨l1⟩ := ds1;simp only [Value.cells] at hf1;obtain ⟨t, rfl⟩ := Zoz _ _ _ hf1;obtain ⟨s, rfl, rfl, rfl, hs9⟩ := Go.ChangeMaps.open_string Tryz.underlying9 (hval 2 _ _ rfl rfl) h2;have hs9 : s.size < 9223372036854775808 := by unfold maxLen at hs9; omega
  refine (Zch _ st t s W hT hM hE hr hs hi hs9).mono fun e W' ⟨he, hb⟩ => ?_;subst he;exact ⟨_, rfl, ZmM Tryz.laidOut rfl rfl rfl Tryz.underlying4 rfl (by kernel_rfl) hW' hb⟩
theorem ZoC : (Rows.fnExactFilesListRow.wf (OpenSpec.ofChange (OpenSpec.ofChange Rows.fnExactFilesListSpec).bare)) = true := by kernel_rfl
theorem ZoD : (laidOutB Tryz.prog) = true := by kernel_rfl
theorem ZoE : (mapsRowed Tryz.prog) = true := by kernel_rfl
theorem ZoF : (Tryz.f6.params.all (Tryz.prog.readableRec ·)) = true := by kernel_rfl
theorem ZoG : (namedTie Tryz.prog Rows.fnExactFilesListRow.named (OpenSpec.ofChange Rows.fnExactFilesListSpec).bare.vars) = true := by kernel_rfl
theorem ZoH : ((Rows.fnExactFilesListRow.stops == [])) = true := by kernel_rfl
theorem ZoI : ((Tryz.prog.stops == [])) = true := by kernel_rfl
theorem ZoJ : ((Rows.fnExactFilesListRow.knobs == [])) = true := by kernel_rfl
theorem ZoK : ((Tryz.prog.stopKnobs == [])) = true := by kernel_rfl
theorem ZoL : ((Rows.fnExactFilesListRow.inPlace == Tryz.prog.inPlace 6)) = true := by kernel_rfl
theorem ZnM : ((Rows.fnExactFilesListRow.unfollowed == Tryz.prog.unfollowed 6)) = true := by kernel_rfl
theorem ZnN : ((Rows.fnExactFilesListRow.recurses == Tryz.prog.recurses 6)) = true := by kernel_rfl
theorem ZnO : ((Rows.fnExactFilesListRow.named == Tryz.prog.varsNamed 6)) = true := by kernel_rfl
theorem ZnP : ((Rows.fnExactFilesListRow.maps == (Tryz.f6.params.toList ++ (OpenSpec.ofChange Rows.fnExactFilesListSpec).bare.plain.varTypes Tryz.prog).any (Tryz.prog.mapsRec ·))) = true := by kernel_rfl
theorem ZnQ : ((Rows.fnExactFilesListRow.ifaces == (Tryz.f6.params.toList ++ (OpenSpec.ofChange Rows.fnExactFilesListSpec).bare.plain.varTypes Tryz.prog).any (Tryz.prog.ifacesRec ·))) = true := by kernel_rfl
theorem ZnR : ((Rows.fnExactFilesListRow.mapsOut == Tryz.prog.mapsAmong Tryz.f6.resultTypes.toList)) = true := by kernel_rfl
theorem ZnS : ((Rows.fnExactFilesListRow.loops == (Tryz.f6.params.toList ++ (OpenSpec.ofChange Rows.fnExactFilesListSpec).bare.plain.varTypes Tryz.prog).any (Tryz.prog.loopsFrom ·))) = true := by kernel_rfl
theorem ZnT : ((Rows.fnExactFilesListRow.wideKeys == (Tryz.f6.params.toList ++ (OpenSpec.ofChange Rows.fnExactFilesListSpec).bare.plain.varTypes Tryz.prog ++ Tryz.f6.resultTypes.toList).any (Tryz.prog.wideKeysFrom ·))) = true := by kernel_rfl
theorem ZnU : ((OpenSpec.ofChange Rows.fnExactFilesListSpec).bare.vars.all (Tryz.prog.varReadable ·)) = true := by kernel_rfl
theorem ZnV : (Tryz.f6.resultTypes.all (fun t => Tryz.prog.readableRec t && decide (t < Tryz.prog.types.size))) = true := by kernel_rfl
theorem ZnW : ((Rows.fnExactFilesListRow.ifacesOut == Tryz.f6.resultTypes.toList.any (Tryz.prog.ifacesRec ·))) = true := by kernel_rfl
theorem ZnX : ((Rows.fnExactFilesListRow.loopsOut == Tryz.f6.resultTypes.toList.any (Tryz.prog.loopsFrom ·))) = true := by kernel_rfl
theorem ZnY : ((Rows.fnExactFilesListRow.plainKeys == Tryz.prog.plainKeys)) = true := by kernel_rfl
theorem ZnZ : (Rows.fnExactFilesListRow.shortTexts.isNone) = true := by kernel_rfl
theorem Zn0 : (Tryz.prog.stopsHeard) = true := by kernel_rfl
theorem Zn1 : (Tryz.prog.mayEnter) = true := by kernel_rfl
theorem Zn2 : ((Rows.fnExactFilesListRow.lifted == Tryz.prog.liftsFinal)) = true := by kernel_rfl
theorem Zn3 : ((Tryz.prog.make == some Rows.fnExactFilesListRow.make)) = true := by kernel_rfl
theorem Zn4 : ((Rows.fnExactFilesListRow.kinds == (if Rows.fnExactFilesListRow.domain.isEmpty then [] else Tryz.f6.params.toList.map fun t => match Tryz.prog.underlying t with | some (.int k) => some k | _ => none))) = true := by kernel_rfl
theorem Zn5 : ((Rows.fnExactFilesListRow.pinned == Rows.fnExactFilesListRow.pinnedBy)) = true := by kernel_rfl
theorem Zn6 : ((Rows.fnExactFilesListRow.veiled == (Tryz.f6.params.toList ++ (OpenSpec.ofChange Rows.fnExactFilesListSpec).bare.plain.varTypes Tryz.prog ++ Tryz.f6.resultTypes.toList).any (Tryz.prog.veiledRec ·))) = true := by kernel_rfl
theorem Zn7 : (Rows.fnExactFilesListRow.veiledFits Tryz.prog Tryz.f6.params.toList (Tryz.f6.params.toList ++ (OpenSpec.ofChange Rows.fnExactFilesListSpec).bare.plain.varTypes Tryz.prog ++ Tryz.f6.resultTypes.toList)) = true := by kernel_rfl
theorem ZjF : joinedFacts Tryz.prog 6 Tryz.f6 (OpenSpec.ofChange Rows.fnExactFilesListSpec).bare Rows.fnExactFilesListRow = true := Zlh ZoC ZoD ZoE ZoF ZoG ZoH ZoI ZoJ ZoK ZoL ZnM ZnN ZnO ZnP ZnQ ZnR ZnS ZnT ZnU ZnV ZnW ZnX ZnY ZnZ Zn0 Zn1 Zn2 Zn3 Zn4 Zn5 Zn6 Zn7
theorem ZmO : Rows.FnExactFilesListSaid :=
  OpenClaim.holds_of_cond 6 Tryz.f6 rfl rfl rfl rfl rfl rfl rfl ⟨rfl, rfl, rfl, rfl, rfl⟩ rfl rfl rfl rfl rfl (by kernel_rfl) Tryz.func6 ZjF
    (of_decide_eq_true (by kernel_rfl)) (by unfold Func.isWrapper; rw [if_neg (of_decide_eq_false (by kernel_rfl))]; exact ⟨rfl, rfl⟩)
    (fun os started H enc _ F => by rw [OpenClaim.pre_eq_preRow]; exact ZjE os started H enc F)
theorem Zlj (f : FuncId) (fn : Func) (hf : Tryz.pinned.checked.prog.funcNamed "loop.example/poolfiles/laws.FnExactFilesList" = some f) (hfn : Tryz.pinned.checked.prog.funcs[f]? = some fn) :
    true = Tryz.pinned.checked.prog.looks [] ∧ ∀ (j : Nat) t, fn.params[j]? = some t → Tryz.pinned.checked.prog.wantsStandIn t = false := by
  obtain rfl : f = 6 := Option.some.inj ((show Tryz.prog.funcNamed "loop.example/poolfiles/laws.FnExactFilesList" = some 6 by kernel_rfl).symm.trans hf) |>.symm;obtain rfl : fn = Tryz.f6 := (Option.some.inj (Tryz.func6.symm.trans hfn)).symm;refine ⟨by kernel_rfl, fun j t ht => ?_⟩;have hall : (Tryz.f6.params.toList.all fun u => !Tryz.prog.wantsStandIn u) = true := by kernel_rfl
  have hm : t ∈ Tryz.f6.params.toList := by simpa using Array.mem_of_getElem? ht
  exact (show Tryz.prog.wantsStandIn t = false by simpa using List.all_eq_true.1 hall t hm)
theorem flR_card : Rows.FnExactFilesListCardSaid :=
  Claim7.holds_tied_plain_at .later [] _ _ _ _ ZmO (fun _ h => by cases h) (by kernel_rfl) (fun _ h => by cases h) fnExactFilesList_row_tie rfl ⟨rfl, rfl⟩ (by kernel_rfl) rfl Zlj (by kernel_rfl)
#print axioms flR_card
end Go.Proofs.YtigjfacaofgjjaaGreatDoor
