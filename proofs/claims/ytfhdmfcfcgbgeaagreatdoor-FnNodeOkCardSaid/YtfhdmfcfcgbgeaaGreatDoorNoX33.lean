/- FnNodeOk: for every code the law returns true (a drawn node is written if and only if it is sound), and its argument reads behind the call as before. No condition but that the tables of the library that the row lists hold what the program's text lays. -/
import Derived.Test.YtfhdmfcfcgbgeaaGreatDoorCards
import Derived.Test.YtfhdmfcfcgbgeaaGreatDoorTie
import Derived.Test.YtfhdmfcfcgbgeaaGreatDoorNoX32
namespace Go.Proofs.YtfhdmfcfcgbgeaaGreatDoor
open Go.Proofs.Tryz
open List (mem_cons_of_mem mem_cons_self)
set_option linter.unusedVariables false
set_option linter.unusedSimpArgs false
set_option maxHeartbeats 1000000
set_option maxRecDepth 100000
open Go.ChangeShapes Go.WideShapes Go.ChangeAt Go.RowKit Go.Deep
noncomputable def UU (os : Os) : World := World.laidAll prog os Rows.fnNodeOkRow.laid
theorem Znl (os : Os) : laidMetH prog Rows.fnNodeOkRow.laid ((UU os).forCall (fun _ _ => 0) ⟨#[], #[.slice none 0 0], []⟩).memory := by
 rw [MakeChecks.laidMetH_plain _ _ _ (by kernel_rfl)];exact laidMet_laidAll _ (by kernel_rfl) (by kernel_rfl)
theorem Zkz (os : Os) {H : Type} (enc : TypeId × Value → H) : ∃ x : List (DataW H) × List (DataW H) × List MemPlace, DataW.whole enc prog ((UU os).forCall (fun _ _ => 0) ⟨#[], #[.slice none 0 0], []⟩).memory Tryz.f3.params.toList Rows.fnNodeOkSpec.vars false #[.slice none 0 0].toList 8 = some x := by
 generalize hx : DataW.whole enc prog ((UU os).forCall (fun _ _ => 0) ⟨#[], #[.slice none 0 0], []⟩).memory Tryz.f3.params.toList Rows.fnNodeOkSpec.vars false #[.slice none 0 0].toList 8 = o
 cases o with
 | none => exact absurd (show (DataW.whole enc prog ((UU os).forCall (fun _ _ => 0) ⟨#[], #[.slice none 0 0], []⟩).memory Tryz.f3.params.toList Rows.fnNodeOkSpec.vars false #[.slice none 0 0].toList 8).isSome = true by kernel_rfl) (by rw [hx]; simp)
 | some x => exact ⟨x, rfl⟩
theorem ZiE (os : Os) (started : os.Started) (H : Type) (enc : TypeId × Value → H) (F : Stop.Interp) :
  ReturnsInHanded {} Tryz.checked os 3 .any ((OpenSpec.ofChange Rows.fnNodeOkSpec).preRow enc prog Tryz.f3 Rows.fnNodeOkRow.domain false Rows.fnNodeOkRow.laid) (((OpenSpec.ofChange Rows.fnNodeOkSpec).at F).post enc prog Tryz.f3 false true false false) := by
 obtain ⟨x, hx⟩ := Zkz os enc;refine returnsInHanded_of_row (C := Tryz.checked) (s := OpenSpec.ofChange Rows.fnNodeOkSpec) Tryz.own started (by kernel_rfl) func3
  (witness_row_atRef (enc := enc) (C := Tryz.checked) false (UU os) #[.slice none 0 0] (World.laidAll_os _ _ _) (by kernel_rfl) (by kernel_rfl) (by kernel_rfl)
   (OpenSpec.preRow_of_cond 8 hx (by rfl) (fun k hk => by cases hk) (by kernel_rfl) (Znl os))) ?_
 intro W base args ds gs before hval0 hW _ _ _ hL hSh _;have hval : ∀ (j : Nat) t v, Tryz.f3.params[j]? = some t → args[j]? = some v → Value.okWide prog W .any base t v := hval0;rw [MakeChecks.laidMetH_plain _ _ _ (by kernel_rfl)] at hL;have hT : Zb8 W := Zob hL (mem_cons_of_mem _ (mem_cons_of_mem _ (mem_cons_self ..)));have hW' := hW;obtain ⟨p, q, hA0, hV, rfl, hfz, hnd⟩ := hW;have hA : DataW.TrodAll enc prog W 0 (fun _ => true) true Tryz.f3.params.toList args.toList ds p := hA0;rw [Tryz.params3] at hA hval;obtain ⟨v0, d0, rfl, rfl, h0⟩ := trodAll_one hA;obtain ⟨rfl, rfl⟩ := trodVars_none hV;obtain ⟨q0, l0, k0, rfl⟩ := okWide_slice Tryz.underlying22 (hval 0 _ _ rfl rfl);obtain ⟨fuel0, hf0⟩ := h0; simp only [Value.cells] at hf0; obtain ⟨bs0, hr0, hc0⟩ := Zkx hf0;refine (Zez W _ _ _ bs0 hT hc0 hr0).mono fun e W' ⟨he, hb⟩ => ?_;subst he;exact ⟨_, rfl, Zmr Tryz.laidOut rfl rfl rfl Tryz.underlying4 rfl (by kernel_rfl) hW' hb⟩
theorem Zoc : (Rows.fnNodeOkRow.wf (OpenSpec.ofChange (OpenSpec.ofChange Rows.fnNodeOkSpec).bare)) = true := by kernel_rfl
theorem Zod : (laidOutB prog) = true := by kernel_rfl
theorem Zoe : (mapsRowed prog) = true := by kernel_rfl
theorem Zof : (Tryz.f3.params.all (Tryz.prog.readableRec ·)) = true := by kernel_rfl
theorem Zog : (namedTie prog Rows.fnNodeOkRow.named (OpenSpec.ofChange Rows.fnNodeOkSpec).bare.vars) = true := by kernel_rfl
theorem Zoh : ((Rows.fnNodeOkRow.stops == [])) = true := by kernel_rfl
theorem Zoi : ((Tryz.prog.stops == [])) = true := by kernel_rfl
theorem Zoj : ((Rows.fnNodeOkRow.knobs == [])) = true := by kernel_rfl
theorem Zok : ((Tryz.prog.stopKnobs == [])) = true := by kernel_rfl
theorem Zol : ((Rows.fnNodeOkRow.inPlace == Tryz.prog.inPlace 3)) = true := by kernel_rfl
theorem Znm : ((Rows.fnNodeOkRow.unfollowed == Tryz.prog.unfollowed 3)) = true := by kernel_rfl
theorem Znn : ((Rows.fnNodeOkRow.recurses == Tryz.prog.recurses 3)) = true := by kernel_rfl
theorem Zno : ((Rows.fnNodeOkRow.named == Tryz.prog.varsNamed 3)) = true := by kernel_rfl
theorem Znp : ((Rows.fnNodeOkRow.maps == (Tryz.f3.params.toList ++ (OpenSpec.ofChange Rows.fnNodeOkSpec).bare.plain.varTypes prog).any (Tryz.prog.mapsRec ·))) = true := by kernel_rfl
theorem Znq : ((Rows.fnNodeOkRow.ifaces == (Tryz.f3.params.toList ++ (OpenSpec.ofChange Rows.fnNodeOkSpec).bare.plain.varTypes prog).any (Tryz.prog.ifacesRec ·))) = true := by kernel_rfl
theorem Znr : ((Rows.fnNodeOkRow.mapsOut == Tryz.prog.mapsAmong Tryz.f3.resultTypes.toList)) = true := by kernel_rfl
theorem Zns : ((Rows.fnNodeOkRow.loops == (Tryz.f3.params.toList ++ (OpenSpec.ofChange Rows.fnNodeOkSpec).bare.plain.varTypes prog).any (Tryz.prog.loopsFrom ·))) = true := by kernel_rfl
theorem Znt : ((Rows.fnNodeOkRow.wideKeys == (Tryz.f3.params.toList ++ (OpenSpec.ofChange Rows.fnNodeOkSpec).bare.plain.varTypes prog ++ Tryz.f3.resultTypes.toList).any (Tryz.prog.wideKeysFrom ·))) = true := by kernel_rfl
theorem Znu : ((OpenSpec.ofChange Rows.fnNodeOkSpec).bare.vars.all (Tryz.prog.varReadable ·)) = true := by kernel_rfl
theorem Znv : (Tryz.f3.resultTypes.all (fun t => Tryz.prog.readableRec t && decide (t < Tryz.prog.types.size))) = true := by kernel_rfl
theorem Znw : ((Rows.fnNodeOkRow.ifacesOut == Tryz.f3.resultTypes.toList.any (Tryz.prog.ifacesRec ·))) = true := by kernel_rfl
theorem Znx : ((Rows.fnNodeOkRow.loopsOut == Tryz.f3.resultTypes.toList.any (Tryz.prog.loopsFrom ·))) = true := by kernel_rfl
theorem Zny : ((Rows.fnNodeOkRow.plainKeys == Tryz.prog.plainKeys)) = true := by kernel_rfl
theorem Znz : (Rows.fnNodeOkRow.shortTexts.isNone) = true := by kernel_rfl
theorem ZnA : (Tryz.prog.stopsHeard) = true := by kernel_rfl
theorem ZnB : (Tryz.prog.mayEnter) = true := by kernel_rfl
theorem ZnC : ((Rows.fnNodeOkRow.lifted == Tryz.prog.liftsFinal)) = true := by kernel_rfl
theorem ZnD : ((Tryz.prog.make == some Rows.fnNodeOkRow.make)) = true := by kernel_rfl
theorem ZnE : ((Rows.fnNodeOkRow.kinds == (if Rows.fnNodeOkRow.domain.isEmpty then [] else Tryz.f3.params.toList.map fun t => match Tryz.prog.underlying t with | some (.int k) => some k | _ => none))) = true := by kernel_rfl
theorem ZnF : ((Rows.fnNodeOkRow.pinned == Rows.fnNodeOkRow.pinnedBy)) = true := by kernel_rfl
theorem ZnG : ((Rows.fnNodeOkRow.veiled == (Tryz.f3.params.toList ++ (OpenSpec.ofChange Rows.fnNodeOkSpec).bare.plain.varTypes prog ++ Tryz.f3.resultTypes.toList).any (Tryz.prog.veiledRec ·))) = true := by kernel_rfl
theorem ZnH : (Rows.fnNodeOkRow.veiledFits prog Tryz.f3.params.toList (Tryz.f3.params.toList ++ (OpenSpec.ofChange Rows.fnNodeOkSpec).bare.plain.varTypes prog ++ Tryz.f3.resultTypes.toList)) = true := by kernel_rfl
theorem ZiF : joinedFacts prog 3 Tryz.f3 (OpenSpec.ofChange Rows.fnNodeOkSpec).bare Rows.fnNodeOkRow = true := Zky Zoc Zod Zoe Zof Zog Zoh Zoi Zoj Zok Zol Znm Znn Zno Znp Znq Znr Zns Znt Znu Znv Znw Znx Zny Znz ZnA ZnB ZnC ZnD ZnE ZnF ZnG ZnH
theorem Zmt : Rows.FnNodeOkSaid :=
 OpenClaim.holds_of_cond 3 Tryz.f3 rfl rfl rfl rfl rfl rfl rfl ⟨rfl, rfl, rfl, rfl, rfl⟩ rfl rfl rfl rfl rfl (by kernel_rfl) func3 ZiF
  (of_decide_eq_true (by kernel_rfl)) (by unfold Func.isWrapper; rw [if_neg (of_decide_eq_false (by kernel_rfl))]; exact ⟨rfl, rfl⟩)
  (fun os started H enc _ F => by rw [OpenClaim.pre_eq_preRow]; exact ZiE os started H enc F)
theorem ZkA (f : FuncId) (fn : Func) (hf : Tryz.pinned.checked.prog.funcNamed "loop.example/poolfiles/laws.FnNodeOk" = some f) (hfn : Tryz.pinned.checked.prog.funcs[f]? = some fn) :
  true = Tryz.pinned.checked.prog.looks [] ∧ ∀ (j : Nat) t, fn.params[j]? = some t → Tryz.pinned.checked.prog.wantsStandIn t = false := by
 obtain rfl : f = 3 := Option.some.inj ((show Tryz.prog.funcNamed "loop.example/poolfiles/laws.FnNodeOk" = some 3 by kernel_rfl).symm.trans hf) |>.symm;obtain rfl : fn = Tryz.f3 := (Option.some.inj (Tryz.func3.symm.trans hfn)).symm;refine ⟨by kernel_rfl, fun j t ht => ?_⟩;have hall : (Tryz.f3.params.toList.all fun u => !Tryz.prog.wantsStandIn u) = true := by kernel_rfl
 have hm : t ∈ Tryz.f3.params.toList := by simpa using Array.mem_of_getElem? ht
 exact (show Tryz.prog.wantsStandIn t = false by simpa using List.all_eq_true.1 hall t hm)
theorem ndO_card : Rows.FnNodeOkCardSaid :=
 Claim7.holds_tied_plain_at .later [] _ _ _ _ Zmt (fun _ h => by cases h) (by kernel_rfl) (fun _ h => by cases h) fnNodeOk_row_tie rfl ⟨rfl, rfl⟩ (by kernel_rfl) rfl ZkA (by kernel_rfl)
#print axioms ndO_card
end Go.Proofs.YtfhdmfcfcgbgeaaGreatDoor
