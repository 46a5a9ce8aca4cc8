/- FnExactFilesKept: for every store and every tree, valid or not, the law returns true and its arguments read behind the call as before. No condition but that the tables of the library that the row lists hold what the program's text lays. -/
import Derived.Test.YtigjfacaofgjjaaGreatDoorCards
import Derived.Test.YtigjfacaofgjjaaGreatDoorTie
import Derived.Test.YtigjfacaofgjjaaGreatDoorWkZ32
namespace Go.Proofs.YtigjfacaofgjjaaGreatDoor
set_option linter.unusedVariables false
set_option linter.unusedSimpArgs false
set_option maxHeartbeats 1000000
set_option maxRecDepth 100000
open Go.ChangeShapes Go.WideShapes Go.ChangeAt Go.RowKit Go.Deep
noncomputable def Uw (os : Os) : World := World.laidAll Tryz.prog os Rows.fnExactFilesKeptRow.laid
theorem ZmU (os : Os) : laidMetH Tryz.prog Rows.fnExactFilesKeptRow.laid ((Uw os).forCall (fun _ _ => 0) ⟨#[], #[.agg #[.slice none 0 0, .slice none 0 0, .slice none 0 0, .int .i64 0, .slice none 0 0, .int .i64 0, .slice none 0 0, .bool false], .agg #[.int .i64 0, .int .i64 0, .int .i64 0, .int .i64 0, .int .i64 0, .int .i64 0, .int .i64 0]], []⟩).memory := by
  rw [MakeChecks.laidMetH_plain _ _ _ (by kernel_rfl)];exact laidMet_laidAll _ (by kernel_rfl) (by kernel_rfl)
theorem Zkw (os : Os) {H : Type} (enc : TypeId × Value → H) : ∃ x : List (DataW H) × List (DataW H) × List MemPlace, DataW.whole enc Tryz.prog ((Uw os).forCall (fun _ _ => 0) ⟨#[], #[.agg #[.slice none 0 0, .slice none 0 0, .slice none 0 0, .int .i64 0, .slice none 0 0, .int .i64 0, .slice none 0 0, .bool false], .agg #[.int .i64 0, .int .i64 0, .int .i64 0, .int .i64 0, .int .i64 0, .int .i64 0, .int .i64 0]], []⟩).memory Tryz.f9.params.toList Rows.fnExactFilesKeptSpec.vars false #[.agg #[.slice none 0 0, .slice none 0 0, .slice none 0 0, .int .i64 0, .slice none 0 0, .int .i64 0, .slice none 0 0, .bool false], .agg #[.int .i64 0, .int .i64 0, .int .i64 0, .int .i64 0, .int .i64 0, .int .i64 0, .int .i64 0]].toList 8 = some x := by
  generalize hx : DataW.whole enc Tryz.prog ((Uw os).forCall (fun _ _ => 0) ⟨#[], #[.agg #[.slice none 0 0, .slice none 0 0, .slice none 0 0, .int .i64 0, .slice none 0 0, .int .i64 0, .slice none 0 0, .bool false], .agg #[.int .i64 0, .int .i64 0, .int .i64 0, .int .i64 0, .int .i64 0, .int .i64 0, .int .i64 0]], []⟩).memory Tryz.f9.params.toList Rows.fnExactFilesKeptSpec.vars false #[.agg #[.slice none 0 0, .slice none 0 0, .slice none 0 0, .int .i64 0, .slice none 0 0, .int .i64 0, .slice none 0 0, .bool false], .agg #[.int .i64 0, .int .i64 0, .int .i64 0, .int .i64 0, .int .i64 0, .int .i64 0, .int .i64 0]].toList 8 = o
  cases o with
  | none => exact absurd (show (DataW.whole enc Tryz.prog ((Uw os).forCall (fun _ _ => 0) ⟨#[], #[.agg #[.slice none 0 0, .slice none 0 0, .slice none 0 0, .int .i64 0, .slice none 0 0, .int .i64 0, .slice none 0 0, .bool false], .agg #[.int .i64 0, .int .i64 0, .int .i64 0, .int .i64 0, .int .i64 0, .int .i64 0, .int .i64 0]], []⟩).memory Tryz.f9.params.toList Rows.fnExactFilesKeptSpec.vars false #[.agg #[.slice none 0 0, .slice none 0 0, .slice none 0 0, .int .i64 0, .slice none 0 0, .int .i64 0, .slice none 0 0, .bool false], .agg #[.int .i64 0, .int .i64 0, .int .i64 0, .int .i64 0, .int .i64 0, .int .i64 0, .int .i64 0]].toList 8).isSome = true by kernel_rfl) (by rw [hx]; simp)
  | some x => exact ⟨x, rfl⟩
theorem ZiQ (os : Os) (started : os.Started) (H : Type) (enc : TypeId × Value → H) (F : Stop.Interp) :
    ReturnsInHanded {} Tryz.checked os 9 .any ((OpenSpec.ofChange Rows.fnExactFilesKeptSpec).preRow enc Tryz.prog Tryz.f9 Rows.fnExactFilesKeptRow.domain false Rows.fnExactFilesKeptRow.laid) (((OpenSpec.ofChange Rows.fnExactFilesKeptSpec).at F).post enc Tryz.prog Tryz.f9 false true false false) := by
  obtain ⟨x, hx⟩ := Zkw os enc;refine returnsInHanded_of_row (C := Tryz.checked) (s := OpenSpec.ofChange Rows.fnExactFilesKeptSpec) Tryz.own started (by kernel_rfl) Tryz.func9
    (witness_row_at (enc := enc) (C := Tryz.checked) false (Uw os) #[.agg #[.slice none 0 0, .slice none 0 0, .slice none 0 0, .int .i64 0, .slice none 0 0, .int .i64 0, .slice none 0 0, .bool false], .agg #[.int .i64 0, .int .i64 0, .int .i64 0, .int .i64 0, .int .i64 0, .int .i64 0, .int .i64 0]] (World.laidAll_os _ _ _) (by kernel_rfl) (by kernel_rfl) (by kernel_rfl)
      (OpenSpec.preRow_of_cond 8 hx (by rfl) (fun k hk => by cases hk) (by kernel_rfl) (ZmU os))) ?_
  intro W base args ds gs before hval0 hW _ _ _ hL hSh _;have hval : ∀ (j : Nat) t v, Tryz.f9.params[j]? = some t → args[j]? = some v → Value.okWide Tryz.prog W .any base t v := hval0;rw [MakeChecks.laidMetH_plain _ _ _ (by kernel_rfl)] at hL;have hT : Qf W := ZnJ hL (List.mem_cons_of_mem _ (List.mem_cons_of_mem _ (List.mem_cons_self ..)));have hE : Jn W := ZnK hL (List.mem_cons_of_mem _ (List.mem_cons_of_mem _ (List.mem_cons_of_mem _ (List.mem_cons_of_mem _ (List.mem_cons_of_mem _ (List.mem_cons_self ..))))));have hM : Je W := Znz hSh;have hW' := hW;obtain ⟨p, q, hA0, hV, rfl, hfz, hnd⟩ := hW;have hA : DataW.TrodAll enc Tryz.prog W 0 (fun _ => true) true Tryz.f9.params.toList args.toList ds p := hA0;rw [Tryz.params9] at hA hval;obtain ⟨v0, v1, d0, d1, pa, pb, rfl, rfl, hpp, h0, h1⟩ := trodAll_two hA;obtain ⟨rfl, rfl⟩ := trodVars_none hV;obtain ⟨cs, rfl, hcs⟩ := okWide_struct Tryz.underlying28 (hval 0 _ _ rfl rfl);obtain ⟨fuel, hf⟩ := h0;obtain ⟨l⟩ := cs;simp only [Value.cells] at hf;obtain ⟨st, hr, hs, hi⟩ := Zb.read _ _ _ hf;obtain ⟨ds1, rfl, hds⟩ := okWide_struct Tryz.underlying32 (hval 1 _ _ rfl rfl);obtain ⟨fuel1, hf1⟩ := h1;obtain ⟨l1⟩ := ds1;simp only [Value.cells] at hf1;obtain ⟨t, rfl⟩ := ZnI _ _ _ hf1;refine (Zcc _ st t W hT hM hE hr hs hi).mono fun e W' ⟨he, hb⟩ => ?_;subst he;exact ⟨_, rfl, Zl1 Tryz.laidOut rfl rfl rfl Tryz.underlying4 rfl (by kernel_rfl) hW' hb⟩
theorem ZnL : (Rows.fnExactFilesKeptRow.wf (OpenSpec.ofChange (OpenSpec.ofChange Rows.fnExactFilesKeptSpec).bare)) = true := by kernel_rfl
theorem ZnM : (laidOutB Tryz.prog) = true := by kernel_rfl
theorem ZnN : (mapsRowed Tryz.prog) = true := by kernel_rfl
theorem ZnO : (Tryz.f9.params.all (Tryz.prog.readableRec ·)) = true := by kernel_rfl
theorem ZnP : (namedTie Tryz.prog Rows.fnExactFilesKeptRow.named (OpenSpec.ofChange Rows.fnExactFilesKeptSpec).bare.vars) = true := by kernel_rfl
theorem ZnQ : ((Rows.fnExactFilesKeptRow.stops == [])) = true := by kernel_rfl
theorem ZnR : ((Tryz.prog.stops == [])) = true := by kernel_rfl
theorem ZnS : ((Rows.fnExactFilesKeptRow.knobs == [])) = true := by kernel_rfl
theorem ZnT : ((Tryz.prog.stopKnobs == [])) = true := by kernel_rfl
theorem ZnU : ((Rows.fnExactFilesKeptRow.inPlace == Tryz.prog.inPlace 9)) = true := by kernel_rfl
theorem ZmV : ((Rows.fnExactFilesKeptRow.unfollowed == Tryz.prog.unfollowed 9)) = true := by kernel_rfl
theorem ZmW : ((Rows.fnExactFilesKeptRow.recurses == Tryz.prog.recurses 9)) = true := by kernel_rfl
theorem ZmX : ((Rows.fnExactFilesKeptRow.named == Tryz.prog.varsNamed 9)) = true := by kernel_rfl
theorem ZmY : ((Rows.fnExactFilesKeptRow.maps == (Tryz.f9.params.toList ++ (OpenSpec.ofChange Rows.fnExactFilesKeptSpec).bare.plain.varTypes Tryz.prog).any (Tryz.prog.mapsRec ·))) = true := by kernel_rfl
theorem ZmZ : ((Rows.fnExactFilesKeptRow.ifaces == (Tryz.f9.params.toList ++ (OpenSpec.ofChange Rows.fnExactFilesKeptSpec).bare.plain.varTypes Tryz.prog).any (Tryz.prog.ifacesRec ·))) = true := by kernel_rfl
theorem Zm0 : ((Rows.fnExactFilesKeptRow.mapsOut == Tryz.prog.mapsAmong Tryz.f9.resultTypes.toList)) = true := by kernel_rfl
theorem Zm1 : ((Rows.fnExactFilesKeptRow.loops == (Tryz.f9.params.toList ++ (OpenSpec.ofChange Rows.fnExactFilesKeptSpec).bare.plain.varTypes Tryz.prog).any (Tryz.prog.loopsFrom ·))) = true := by kernel_rfl
theorem Zm2 : ((Rows.fnExactFilesKeptRow.wideKeys == (Tryz.f9.params.toList ++ (OpenSpec.ofChange Rows.fnExactFilesKeptSpec).bare.plain.varTypes Tryz.prog ++ Tryz.f9.resultTypes.toList).any (Tryz.prog.wideKeysFrom ·))) = true := by kernel_rfl
theorem Zm3 : ((OpenSpec.ofChange Rows.fnExactFilesKeptSpec).bare.vars.all (Tryz.prog.varReadable ·)) = true := by kernel_rfl
theorem Zm4 : (Tryz.f9.resultTypes.all (fun t => Tryz.prog.readableRec t && decide (t < Tryz.prog.types.size))) = true := by kernel_rfl
theorem Zm5 : ((Rows.fnExactFilesKeptRow.ifacesOut == Tryz.f9.resultTypes.toList.any (Tryz.prog.ifacesRec ·))) = true := by kernel_rfl
theorem Zm6 : ((Rows.fnExactFilesKeptRow.loopsOut == Tryz.f9.resultTypes.toList.any (Tryz.prog.loopsFrom ·))) = true := by kernel_rfl
theorem Zm7 : ((Rows.fnExactFilesKeptRow.plainKeys == Tryz.prog.plainKeys)) = true := by kernel_rfl
theorem Zm8 : (Rows.fnExactFilesKeptRow.shortTexts.isNone) = true := by kernel_rfl
theorem Zm9 : (Tryz.prog.stopsHeard) = true := by kernel_rfl
theorem Zna : (Tryz.prog.mayEnter) = true := by kernel_rfl
theorem Znb : ((Rows.fnExactFilesKeptRow.lifted == Tryz.prog.liftsFinal)) = true := by kernel_rfl
theorem Znc : ((Tryz.prog.make == some Rows.fnExactFilesKeptRow.make)) = true := by kernel_rfl
theorem Znd : ((Rows.fnExactFilesKeptRow.kinds == (if Rows.fnExactFilesKeptRow.domain.isEmpty then [] else Tryz.f9.params.toList.map fun t => match Tryz.prog.underlying t with | some (.int k) => some k | _ => none))) = true := by kernel_rfl
theorem Zne : ((Rows.fnExactFilesKeptRow.pinned == Rows.fnExactFilesKeptRow.pinnedBy)) = true := by kernel_rfl
theorem Znf : ((Rows.fnExactFilesKeptRow.veiled == (Tryz.f9.params.toList ++ (OpenSpec.ofChange Rows.fnExactFilesKeptSpec).bare.plain.varTypes Tryz.prog ++ Tryz.f9.resultTypes.toList).any (Tryz.prog.veiledRec ·))) = true := by kernel_rfl
theorem Zng : (Rows.fnExactFilesKeptRow.veiledFits Tryz.prog Tryz.f9.params.toList (Tryz.f9.params.toList ++ (OpenSpec.ofChange Rows.fnExactFilesKeptSpec).bare.plain.varTypes Tryz.prog ++ Tryz.f9.resultTypes.toList)) = true := by kernel_rfl
theorem ZiR : joinedFacts Tryz.prog 9 Tryz.f9 (OpenSpec.ofChange Rows.fnExactFilesKeptSpec).bare Rows.fnExactFilesKeptRow = true := Zkv ZnL ZnM ZnN ZnO ZnP ZnQ ZnR ZnS ZnT ZnU ZmV ZmW ZmX ZmY ZmZ Zm0 Zm1 Zm2 Zm3 Zm4 Zm5 Zm6 Zm7 Zm8 Zm9 Zna Znb Znc Znd Zne Znf Zng
theorem Zl3 : Rows.FnExactFilesKeptSaid :=
  OpenClaim.holds_of_cond 9 Tryz.f9 rfl rfl rfl rfl rfl rfl rfl ⟨rfl, rfl, rfl, rfl, rfl⟩ rfl rfl rfl rfl rfl (by kernel_rfl) Tryz.func9 ZiR
    (of_decide_eq_true (by kernel_rfl)) (by unfold Func.isWrapper; rw [if_neg (of_decide_eq_false (by kernel_rfl))]; exact ⟨rfl, rfl⟩)
    (fun os started H enc _ F => by rw [OpenClaim.pre_eq_preRow]; exact ZiQ os started H enc F)
theorem Zkx (f : FuncId) (fn : Func) (hf : Tryz.pinned.checked.prog.funcNamed "loop.example/poolfiles/laws.FnExactFilesKept" = some f) (hfn : Tryz.pinned.checked.prog.funcs[f]? = some fn) :
    true = Tryz.pinned.checked.prog.looks [] ∧ ∀ (j : Nat) t, fn.params[j]? = some t → Tryz.pinned.checked.prog.wantsStandIn t = false := by
  obtain rfl : f = 9 := Option.some.inj ((show Tryz.prog.funcNamed "loop.example/poolfiles/laws.FnExactFilesKept" = some 9 by kernel_rfl).symm.trans hf) |>.symm;obtain rfl : fn = Tryz.f9 := (Option.some.inj (Tryz.func9.symm.trans hfn)).symm;refine ⟨by kernel_rfl, fun j t ht => ?_⟩;have hall : (Tryz.f9.params.toList.all fun u => !Tryz.prog.wantsStandIn u) = true := by kernel_rfl
  have hm : t ∈ Tryz.f9.params.toList := by simpa using Array.mem_of_getElem? ht
  exact (show Tryz.prog.wantsStandIn t = false by simpa using List.all_eq_true.1 hall t hm)
theorem wkR_card : Rows.FnExactFilesKeptCardSaid :=
  Claim7.holds_tied_plain_at .later [] _ _ _ _ Zl3 (fun _ h => by cases h) (by kernel_rfl) (fun _ h => by cases h) fnExactFilesKept_row_tie rfl ⟨rfl, rfl⟩ (by kernel_rfl) rfl Zkx (by kernel_rfl)
#print axioms wkR_card
end Go.Proofs.YtigjfacaofgjjaaGreatDoor
