/- FnExactFilesText: for every store, every tree and every text, valid or not, the law returns true and its arguments read behind the call as before. No condition but that the tables of the library that the row lists hold what the program's text lays. -/
import Derived.Test.YtigjfacaofgjjaaGreatDoorCards
import Derived.Test.YtigjfacaofgjjaaGreatDoorTie
import Derived.Test.YtigjfacaofgjjaaGreatDoorFtZ31
namespace Go.Proofs.YtigjfacaofgjjaaGreatDoor
set_option linter.unusedVariables false
set_option linter.unusedSimpArgs false
set_option maxHeartbeats 1000000
set_option maxRecDepth 100000
open Go.ChangeShapes Go.WideShapes Go.ChangeAt Go.RowKit Go.Deep
noncomputable def Ub (os : Os) : World := World.laidAll Tryz.prog os Rows.fnExactFilesTextRow.laid
theorem Zm5 (os : Os) : laidMetH Tryz.prog Rows.fnExactFilesTextRow.laid ((Ub os).forCall (fun _ _ => 0) ⟨#[], #[.agg #[.slice none 0 0, .slice none 0 0, .slice none 0 0, .int .i64 0, .slice none 0 0, .int .i64 0, .slice none 0 0, .bool false], .agg #[.int .i64 0, .int .i64 0, .int .i64 0, .int .i64 0, .int .i64 0, .int .i64 0, .int .i64 0], .string ByteArray.empty], []⟩).memory := by
  rw [MakeChecks.laidMetH_plain _ _ _ (by kernel_rfl)];exact laidMet_laidAll _ (by kernel_rfl) (by kernel_rfl)
theorem ZkD (os : Os) {H : Type} (enc : TypeId × Value → H) : ∃ x : List (DataW H) × List (DataW H) × List MemPlace, DataW.whole enc Tryz.prog ((Ub os).forCall (fun _ _ => 0) ⟨#[], #[.agg #[.slice none 0 0, .slice none 0 0, .slice none 0 0, .int .i64 0, .slice none 0 0, .int .i64 0, .slice none 0 0, .bool false], .agg #[.int .i64 0, .int .i64 0, .int .i64 0, .int .i64 0, .int .i64 0, .int .i64 0, .int .i64 0], .string ByteArray.empty], []⟩).memory Tryz.f5.params.toList Rows.fnExactFilesTextSpec.vars false #[.agg #[.slice none 0 0, .slice none 0 0, .slice none 0 0, .int .i64 0, .slice none 0 0, .int .i64 0, .slice none 0 0, .bool false], .agg #[.int .i64 0, .int .i64 0, .int .i64 0, .int .i64 0, .int .i64 0, .int .i64 0, .int .i64 0], .string ByteArray.empty].toList 8 = some x := by
  generalize hx : DataW.whole enc Tryz.prog ((Ub os).forCall (fun _ _ => 0) ⟨#[], #[.agg #[.slice none 0 0, .slice none 0 0, .slice none 0 0, .int .i64 0, .slice none 0 0, .int .i64 0, .slice none 0 0, .bool false], .agg #[.int .i64 0, .int .i64 0, .int .i64 0, .int .i64 0, .int .i64 0, .int .i64 0, .int .i64 0], .string ByteArray.empty], []⟩).memory Tryz.f5.params.toList Rows.fnExactFilesTextSpec.vars false #[.agg #[.slice none 0 0, .slice none 0 0, .slice none 0 0, .int .i64 0, .slice none 0 0, .int .i64 0, .slice none 0 0, .bool false], .agg #[.int .i64 0, .int .i64 0, .int .i64 0, .int .i64 0, .int .i64 0, .int .i64 0, .int .i64 0], .string ByteArray.empty].toList 8 = o
  cases o with
  | none => exact absurd (show (DataW.whole enc Tryz.prog ((Ub os).forCall (fun _ _ => 0) ⟨#[], #[.agg #[.slice none 0 0, .slice none 0 0, .slice none 0 0, .int .i64 0, .slice none 0 0, .int .i64 0, .slice none 0 0, .bool false], .agg #[.int .i64 0, .int .i64 0, .int .i64 0, .int .i64 0, .int .i64 0, .int .i64 0, .int .i64 0], .string ByteArray.empty], []⟩).memory Tryz.f5.params.toList Rows.fnExactFilesTextSpec.vars false #[.agg #[.slice none 0 0, .slice none 0 0, .slice none 0 0, .int .i64 0, .slice none 0 0, .int .i64 0, .slice none 0 0, .bool false], .agg #[.int .i64 0, .int .i64 0, .int .i64 0, .int .i64 0, .int .i64 0, .int .i64 0, .int .i64 0], .string ByteArray.empty].toList 8).isSome = true by kernel_rfl) (by rw [hx]; simp)
  | some x => exact ⟨x, rfl⟩
theorem Zi4 (os : Os) (started : os.Started) (H : Type) (enc : TypeId × Value → H) (F : Stop.Interp) :
    ReturnsInHanded {} Tryz.checked os 5 .any ((OpenSpec.ofChange Rows.fnExactFilesTextSpec).preRow enc Tryz.prog Tryz.f5 Rows.fnExactFilesTextRow.domain false Rows.fnExactFilesTextRow.laid) (((OpenSpec.ofChange Rows.fnExactFilesTextSpec).at F).post enc Tryz.prog Tryz.f5 false true false false) := by
  obtain ⟨x, hx⟩ := ZkD os enc;refine returnsInHanded_of_row (C := Tryz.checked) (s := OpenSpec.ofChange Rows.fnExactFilesTextSpec) Tryz.own started (by kernel_rfl) Tryz.func5
    (witness_row_at (enc := enc) (C := Tryz.checked) false (Ub os) #[.agg #[.slice none 0 0, .slice none 0 0, .slice none 0 0, .int .i64 0, .slice none 0 0, .int .i64 0, .slice none 0 0, .bool false], .agg #[.int .i64 0, .int .i64 0, .int .i64 0, .int .i64 0, .int .i64 0, .int .i64 0, .int .i64 0], .string ByteArray.empty] (World.laidAll_os _ _ _) (by kernel_rfl) (by kernel_rfl) (by kernel_rfl)
      (OpenSpec.preRow_of_cond 8 hx (by rfl) (fun k hk => by cases hk) (by kernel_rfl) (Zm5 os))) ?_
  intro W base args ds gs before hval0 hW _ _ _ hL hSh _;have hval : ∀ (j : Nat) t v, Tryz.f5.params[j]? = some t → args[j]? = some v → Value.okWide Tryz.prog W .any base t v := hval0;rw [MakeChecks.laidMetH_plain _ _ _ (by kernel_rfl)] at hL;have hT : XW W := ZnU hL (List.mem_cons_of_mem _ (List.mem_cons_of_mem _ (List.mem_cons_self ..)));have hE : Q1 W := ZnV hL (List.mem_cons_of_mem _ (List.mem_cons_of_mem _ (List.mem_cons_of_mem _ (List.mem_cons_of_mem _ (List.mem_cons_of_mem _ (List.mem_cons_self ..))))));have hM : Qw W := ZnI hSh;have hW' := hW;obtain ⟨p, q, hA0, hV, rfl, hfz, hnd⟩ := hW;have hA : DataW.TrodAll enc Tryz.prog W 0 (fun _ => true) true Tryz.f5.params.toList args.toList ds p := hA0;rw [Tryz.params5] at hA hval;obtain ⟨v0, v1, v2, d0, d1, d2, pa, pb, pc, rfl, rfl, hpp, h0, h1, h2⟩ := trodAll_three hA;obtain ⟨rfl, rfl⟩ := trodVars_none hV;obtain ⟨cs, rfl, hcs⟩ := okWide_struct Tryz.underlying28 (hval 0 _ _ rfl rfl);obtain ⟨fuel, hf⟩ := h0;obtain ⟨l⟩ := cs;simp only [Value.cells] at hf;obtain ⟨st, hr, hs, hi⟩ := Za.read _ _ _ hf;obtain ⟨ds1, rfl, hds⟩ := okWide_struct Tryz.underlying32 (hval 1 _ _ rfl rfl);obtain ⟨fuel1, hf1⟩ := h1;obtain ⟨l1⟩ := ds1;simp only [Value.cells] at hf1;obtain ⟨t, rfl⟩ := ZnT _ _ _ hf1;obtain ⟨s, rfl, rfl, rfl, hs9⟩ := Go.ChangeMaps.open_string Tryz.underlying9 (hval 2 _ _ rfl rfl) h2;have hs9 : s.size < 9223372036854775808 := by unfold maxLen at hs9; omega
  refine (Zb6 _ st t s W hT hM hE hr hs hi hs9).mono fun e W' ⟨he, hb⟩ => ?_;subst he;exact ⟨_, rfl, Zl7 Tryz.laidOut rfl rfl rfl Tryz.underlying4 rfl (by kernel_rfl) hW' hb⟩
theorem ZnW : (Rows.fnExactFilesTextRow.wf (OpenSpec.ofChange (OpenSpec.ofChange Rows.fnExactFilesTextSpec).bare)) = true := by kernel_rfl
theorem ZnX : (laidOutB Tryz.prog) = true := by kernel_rfl
theorem ZnY : (mapsRowed Tryz.prog) = true := by kernel_rfl
theorem ZnZ : (Tryz.f5.params.all (Tryz.prog.readableRec ·)) = true := by kernel_rfl
theorem Zn0 : (namedTie Tryz.prog Rows.fnExactFilesTextRow.named (OpenSpec.ofChange Rows.fnExactFilesTextSpec).bare.vars) = true := by kernel_rfl
theorem Zn1 : ((Rows.fnExactFilesTextRow.stops == [])) = true := by kernel_rfl
theorem Zn2 : ((Tryz.prog.stops == [])) = true := by kernel_rfl
theorem Zn3 : ((Rows.fnExactFilesTextRow.knobs == [])) = true := by kernel_rfl
theorem Zn4 : ((Tryz.prog.stopKnobs == [])) = true := by kernel_rfl
theorem Zn5 : ((Rows.fnExactFilesTextRow.inPlace == Tryz.prog.inPlace 5)) = true := by kernel_rfl
theorem Zm6 : ((Rows.fnExactFilesTextRow.unfollowed == Tryz.prog.unfollowed 5)) = true := by kernel_rfl
theorem Zm7 : ((Rows.fnExactFilesTextRow.recurses == Tryz.prog.recurses 5)) = true := by kernel_rfl
theorem Zm8 : ((Rows.fnExactFilesTextRow.named == Tryz.prog.varsNamed 5)) = true := by kernel_rfl
theorem Zm9 : ((Rows.fnExactFilesTextRow.maps == (Tryz.f5.params.toList ++ (OpenSpec.ofChange Rows.fnExactFilesTextSpec).bare.plain.varTypes Tryz.prog).any (Tryz.prog.mapsRec ·))) = true := by kernel_rfl
theorem Zna : ((Rows.fnExactFilesTextRow.ifaces == (Tryz.f5.params.toList ++ (OpenSpec.ofChange Rows.fnExactFilesTextSpec).bare.plain.varTypes Tryz.prog).any (Tryz.prog.ifacesRec ·))) = true := by kernel_rfl
theorem Znb : ((Rows.fnExactFilesTextRow.mapsOut == Tryz.prog.mapsAmong Tryz.f5.resultTypes.toList)) = true := by kernel_rfl
theorem Znc : ((Rows.fnExactFilesTextRow.loops == (Tryz.f5.params.toList ++ (OpenSpec.ofChange Rows.fnExactFilesTextSpec).bare.plain.varTypes Tryz.prog).any (Tryz.prog.loopsFrom ·))) = true := by kernel_rfl
theorem Znd : ((Rows.fnExactFilesTextRow.wideKeys == (Tryz.f5.params.toList ++ (OpenSpec.ofChange Rows.fnExactFilesTextSpec).bare.plain.varTypes Tryz.prog ++ Tryz.f5.resultTypes.toList).any (Tryz.prog.wideKeysFrom ·))) = true := by kernel_rfl
theorem Zne : ((OpenSpec.ofChange Rows.fnExactFilesTextSpec).bare.vars.all (Tryz.prog.varReadable ·)) = true := by kernel_rfl
theorem Znf : (Tryz.f5.resultTypes.all (fun t => Tryz.prog.readableRec t && decide (t < Tryz.prog.types.size))) = true := by kernel_rfl
theorem Zng : ((Rows.fnExactFilesTextRow.ifacesOut == Tryz.f5.resultTypes.toList.any (Tryz.prog.ifacesRec ·))) = true := by kernel_rfl
theorem Znh : ((Rows.fnExactFilesTextRow.loopsOut == Tryz.f5.resultTypes.toList.any (Tryz.prog.loopsFrom ·))) = true := by kernel_rfl
theorem Zni : ((Rows.fnExactFilesTextRow.plainKeys == Tryz.prog.plainKeys)) = true := by kernel_rfl
theorem Znj : (Rows.fnExactFilesTextRow.shortTexts.isNone) = true := by kernel_rfl
theorem Znk : (Tryz.prog.stopsHeard) = true := by kernel_rfl
theorem Znl : (Tryz.prog.mayEnter) = true := by kernel_rfl
theorem Znm : ((Rows.fnExactFilesTextRow.lifted == Tryz.prog.liftsFinal)) = true := by kernel_rfl
theorem Znn : ((Tryz.prog.make == some Rows.fnExactFilesTextRow.make)) = true := by kernel_rfl
theorem Zno : ((Rows.fnExactFilesTextRow.kinds == (if Rows.fnExactFilesTextRow.domain.isEmpty then [] else Tryz.f5.params.toList.map fun t => match Tryz.prog.underlying t with | some (.int k) => some k | _ => none))) = true := by kernel_rfl
theorem Znp : ((Rows.fnExactFilesTextRow.pinned == Rows.fnExactFilesTextRow.pinnedBy)) = true := by kernel_rfl
theorem Znq : ((Rows.fnExactFilesTextRow.veiled == (Tryz.f5.params.toList ++ (OpenSpec.ofChange Rows.fnExactFilesTextSpec).bare.plain.varTypes Tryz.prog ++ Tryz.f5.resultTypes.toList).any (Tryz.prog.veiledRec ·))) = true := by kernel_rfl
theorem Znr : (Rows.fnExactFilesTextRow.veiledFits Tryz.prog Tryz.f5.params.toList (Tryz.f5.params.toList ++ (OpenSpec.ofChange Rows.fnExactFilesTextSpec).bare.plain.varTypes Tryz.prog ++ Tryz.f5.resultTypes.toList)) = true := by kernel_rfl
theorem Zi5 : joinedFacts Tryz.prog 5 Tryz.f5 (OpenSpec.ofChange Rows.fnExactFilesTextSpec).bare Rows.fnExactFilesTextRow = true := ZkC ZnW ZnX ZnY ZnZ Zn0 Zn1 Zn2 Zn3 Zn4 Zn5 Zm6 Zm7 Zm8 Zm9 Zna Znb Znc Znd Zne Znf Zng Znh Zni Znj Znk Znl Znm Znn Zno Znp Znq Znr
theorem Zl9 : Rows.FnExactFilesTextSaid :=
  OpenClaim.holds_of_cond 5 Tryz.f5 rfl rfl rfl rfl rfl rfl rfl ⟨rfl, rfl, rfl, rfl, rfl⟩ rfl rfl rfl rfl rfl (by kernel_rfl) Tryz.func5 Zi5
    (of_decide_eq_true (by kernel_rfl)) (by unfold Func.isWrapper; rw [if_neg (of_decide_eq_false (by kernel_rfl))]; exact ⟨rfl, rfl⟩)
    (fun os started H enc _ F => by rw [OpenClaim.pre_eq_preRow]; exact Zi4 os started H enc F)
theorem ZkE (f : FuncId) (fn : Func) (hf : Tryz.pinned.checked.prog.funcNamed "loop.example/poolfiles/laws.FnExactFilesText" = some f) (hfn : Tryz.pinned.checked.prog.funcs[f]? = some fn) :
    true = Tryz.pinned.checked.prog.looks [] ∧ ∀ (j : Nat) t, fn.params[j]? = some t → Tryz.pinned.checked.prog.wantsStandIn t = false := by
  obtain rfl : f = 5 := Option.some.inj ((show Tryz.prog.funcNamed "loop.example/poolfiles/laws.FnExactFilesText" = some 5 by kernel_rfl).symm.trans hf) |>.symm;obtain rfl : fn = Tryz.f5 := (Option.some.inj (Tryz.func5.symm.trans hfn)).symm;refine ⟨by kernel_rfl, fun j t ht => ?_⟩;have hall : (Tryz.f5.params.toList.all fun u => !Tryz.prog.wantsStandIn u) = true := by kernel_rfl
  have hm : t ∈ Tryz.f5.params.toList := by simpa using Array.mem_of_getElem? ht
  exact (show Tryz.prog.wantsStandIn t = false by simpa using List.all_eq_true.1 hall t hm)
theorem ftR_card : Rows.FnExactFilesTextCardSaid :=
  Claim7.holds_tied_plain_at .later [] _ _ _ _ Zl9 (fun _ h => by cases h) (by kernel_rfl) (fun _ h => by cases h) fnExactFilesText_row_tie rfl ⟨rfl, rfl⟩ (by kernel_rfl) rfl ZkE (by kernel_rfl)
#print axioms ftR_card
end Go.Proofs.YtigjfacaofgjjaaGreatDoor
