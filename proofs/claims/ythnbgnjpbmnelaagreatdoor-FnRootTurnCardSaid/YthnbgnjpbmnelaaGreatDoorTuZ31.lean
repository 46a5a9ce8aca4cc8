/- FnRootTurn: for every code the law returns true (roots that are written one behind the other lie in rows of their own and are listed in descending order), and its argument reads behind the call as before. No condition but that the tables of the library that the row lists hold what the program's text lays. -/
import Derived.Test.YthnbgnjpbmnelaaGreatDoorCards
import Derived.Test.YthnbgnjpbmnelaaGreatDoorTie
import Derived.Test.YthnbgnjpbmnelaaGreatDoorTuZ30
/- FnRootTurn: for every code the law returns true (roots that are written one behind the other lie in rows of their own and are listed in descending order), and its argument reads behind the call as before. No condition but that the tables of the library that the row lists hold what the program's text lays. -/
namespace Go.Proofs.YthnbgnjpbmnelaaGreatDoor
set_option linter.unusedVariables false
set_option linter.unusedSimpArgs false
set_option maxHeartbeats 1000000
set_option maxRecDepth 100000
open Go.ChangeShapes Go.WideShapes Go.ChangeAt Go.RowKit Go.Deep

noncomputable def Qv (os : Os) : World := World.laidAll Tryz.prog os Rows.fnRootTurnRow.laid
theorem Zek (os : Os) : laidMetH Tryz.prog Rows.fnRootTurnRow.laid ((Qv os).forCall (fun _ _ => 0) ⟨#[], #[.slice none 0 0], []⟩).memory := by
  rw [MakeChecks.laidMetH_plain _ _ _ (by kernel_rfl)];exact laidMet_laidAll _ (by kernel_rfl) (by kernel_rfl)
theorem ZcW (os : Os) {H : Type} (enc : TypeId × Value → H) : ∃ x : List (DataW H) × List (DataW H) × List MemPlace, DataW.whole enc Tryz.prog ((Qv os).forCall (fun _ _ => 0) ⟨#[], #[.slice none 0 0], []⟩).memory Tryz.f4.params.toList Rows.fnRootTurnSpec.vars false #[.slice none 0 0].toList 8 = some x := by
  generalize hx : DataW.whole enc Tryz.prog ((Qv os).forCall (fun _ _ => 0) ⟨#[], #[.slice none 0 0], []⟩).memory Tryz.f4.params.toList Rows.fnRootTurnSpec.vars false #[.slice none 0 0].toList 8 = o
  cases o with
  | none => exact absurd (show (DataW.whole enc Tryz.prog ((Qv os).forCall (fun _ _ => 0) ⟨#[], #[.slice none 0 0], []⟩).memory Tryz.f4.params.toList Rows.fnRootTurnSpec.vars false #[.slice none 0 0].toList 8).isSome = true by kernel_rfl) (by rw [hx]; simp)
  | some x => exact ⟨x, rfl⟩
theorem ZbP (os : Os) (started : os.Started) (H : Type) (enc : TypeId × Value → H) (F : Stop.Interp) :
    ReturnsInHanded {} Tryz.checked os 4 .any ((OpenSpec.ofChange Rows.fnRootTurnSpec).preRow enc Tryz.prog Tryz.f4 Rows.fnRootTurnRow.domain false Rows.fnRootTurnRow.laid) (((OpenSpec.ofChange Rows.fnRootTurnSpec).at F).post enc Tryz.prog Tryz.f4 false true false false) := by
  obtain ⟨x, hx⟩ := ZcW os enc;refine returnsInHanded_of_row (C := Tryz.checked) (s := OpenSpec.ofChange Rows.fnRootTurnSpec) Tryz.own started (by kernel_rfl) Tryz.func4
    (witness_row_atRef (enc := enc) (C := Tryz.checked) false (Qv os) #[.slice none 0 0] (World.laidAll_os _ _ _) (by kernel_rfl) (by kernel_rfl) (by kernel_rfl)
      (OpenSpec.preRow_of_cond 8 hx (by rfl) (fun k hk => by cases hk) (by kernel_rfl) (Zek os))) ?_
  intro W base args ds gs before hval0 hW _ _ _ hL hSh _;have hval : ∀ (j : Nat) t v, Tryz.f4.params[j]? = some t → args[j]? = some v → Value.okWide Tryz.prog W .any base t v := hval0;rw [MakeChecks.laidMetH_plain _ _ _ (by kernel_rfl)] at hL;have hT : X2 W := ZeU hL (List.mem_cons_of_mem _ (List.mem_cons_of_mem _ (List.mem_cons_self ..)));have hE : JH W := ZeV hL (List.mem_cons_of_mem _ (List.mem_cons_of_mem _ (List.mem_cons_of_mem _ (List.mem_cons_of_mem _ (List.mem_cons_of_mem _ (List.mem_cons_self ..))))));have hM : JG W := ZeO hSh;have hW' := hW;obtain ⟨p, q, hA0, hV, rfl, hfz, hnd⟩ := hW;have hA : DataW.TrodAll enc Tryz.prog W 0 (fun _ => true) true Tryz.f4.params.toList args.toList ds p := hA0;rw [Tryz.params4] at hA hval;obtain ⟨v0, d0, rfl, rfl, h0⟩ := trodAll_one hA;obtain ⟨rfl, rfl⟩ := trodVars_none hV;obtain ⟨q0, l0, k0, rfl⟩ := okWide_slice Tryz.underlying54 (hval 0 _ _ rfl rfl);obtain ⟨fuel0, hf0⟩ := h0; simp only [Value.cells] at hf0; obtain ⟨bs0, hr0, hc0⟩ := ZcU hf0;refine (UH W _ _ _ bs0 hT hM hE hc0 hr0).mono fun e W' ⟨he, hb⟩ => ?_;subst he;exact ⟨_, rfl, ZdW Tryz.laidOut rfl rfl rfl Tryz.underlying4 rfl (by kernel_rfl) hW' hb⟩

theorem ZeW : (Rows.fnRootTurnRow.wf (OpenSpec.ofChange (OpenSpec.ofChange Rows.fnRootTurnSpec).bare)) = true := by kernel_rfl
theorem ZeX : (laidOutB Tryz.prog) = true := by kernel_rfl
theorem ZeY : (mapsRowed Tryz.prog) = true := by kernel_rfl
theorem ZeZ : (Tryz.f4.params.all (Tryz.prog.readableRec ·)) = true := by kernel_rfl
theorem Ze0 : (namedTie Tryz.prog Rows.fnRootTurnRow.named (OpenSpec.ofChange Rows.fnRootTurnSpec).bare.vars) = true := by kernel_rfl
theorem Ze1 : ((Rows.fnRootTurnRow.stops == [])) = true := by kernel_rfl
theorem Ze2 : ((Tryz.prog.stops == [])) = true := by kernel_rfl
theorem Ze3 : ((Rows.fnRootTurnRow.knobs == [])) = true := by kernel_rfl
theorem Ze4 : ((Tryz.prog.stopKnobs == [])) = true := by kernel_rfl
theorem Ze5 : ((Rows.fnRootTurnRow.inPlace == Tryz.prog.inPlace 4)) = true := by kernel_rfl
theorem Zel : ((Rows.fnRootTurnRow.unfollowed == Tryz.prog.unfollowed 4)) = true := by kernel_rfl
theorem Zem : ((Rows.fnRootTurnRow.recurses == Tryz.prog.recurses 4)) = true := by kernel_rfl
theorem Zen : ((Rows.fnRootTurnRow.named == Tryz.prog.varsNamed 4)) = true := by kernel_rfl
theorem Zeo : ((Rows.fnRootTurnRow.maps == (Tryz.f4.params.toList ++ (OpenSpec.ofChange Rows.fnRootTurnSpec).bare.plain.varTypes Tryz.prog).any (Tryz.prog.mapsRec ·))) = true := by kernel_rfl
theorem Zep : ((Rows.fnRootTurnRow.ifaces == (Tryz.f4.params.toList ++ (OpenSpec.ofChange Rows.fnRootTurnSpec).bare.plain.varTypes Tryz.prog).any (Tryz.prog.ifacesRec ·))) = true := by kernel_rfl
theorem Zeq : ((Rows.fnRootTurnRow.mapsOut == Tryz.prog.mapsAmong Tryz.f4.resultTypes.toList)) = true := by kernel_rfl
theorem Zer : ((Rows.fnRootTurnRow.loops == (Tryz.f4.params.toList ++ (OpenSpec.ofChange Rows.fnRootTurnSpec).bare.plain.varTypes Tryz.prog).any (Tryz.prog.loopsFrom ·))) = true := by kernel_rfl
theorem Zes : ((Rows.fnRootTurnRow.wideKeys == (Tryz.f4.params.toList ++ (OpenSpec.ofChange Rows.fnRootTurnSpec).bare.plain.varTypes Tryz.prog ++ Tryz.f4.resultTypes.toList).any (Tryz.prog.wideKeysFrom ·))) = true := by kernel_rfl
theorem Zet : ((OpenSpec.ofChange Rows.fnRootTurnSpec).bare.vars.all (Tryz.prog.varReadable ·)) = true := by kernel_rfl
theorem Zeu : (Tryz.f4.resultTypes.all (fun t => Tryz.prog.readableRec t && decide (t < Tryz.prog.types.size))) = true := by kernel_rfl
theorem Zev : ((Rows.fnRootTurnRow.ifacesOut == Tryz.f4.resultTypes.toList.any (Tryz.prog.ifacesRec ·))) = true := by kernel_rfl
theorem Zew : ((Rows.fnRootTurnRow.loopsOut == Tryz.f4.resultTypes.toList.any (Tryz.prog.loopsFrom ·))) = true := by kernel_rfl
theorem Zex : ((Rows.fnRootTurnRow.plainKeys == Tryz.prog.plainKeys)) = true := by kernel_rfl
theorem Zey : (Rows.fnRootTurnRow.shortTexts.isNone) = true := by kernel_rfl
theorem Zez : (Tryz.prog.stopsHeard) = true := by kernel_rfl
theorem ZeA : (Tryz.prog.mayEnter) = true := by kernel_rfl
theorem ZeB : ((Rows.fnRootTurnRow.lifted == Tryz.prog.liftsFinal)) = true := by kernel_rfl
theorem ZeC : ((Tryz.prog.make == some Rows.fnRootTurnRow.make)) = true := by kernel_rfl
theorem ZeD : ((Rows.fnRootTurnRow.kinds == (if Rows.fnRootTurnRow.domain.isEmpty then [] else Tryz.f4.params.toList.map fun t => match Tryz.prog.underlying t with | some (.int k) => some k | _ => none))) = true := by kernel_rfl
theorem ZeE : ((Rows.fnRootTurnRow.pinned == Rows.fnRootTurnRow.pinnedBy)) = true := by kernel_rfl
theorem ZeF : ((Rows.fnRootTurnRow.veiled == (Tryz.f4.params.toList ++ (OpenSpec.ofChange Rows.fnRootTurnSpec).bare.plain.varTypes Tryz.prog ++ Tryz.f4.resultTypes.toList).any (Tryz.prog.veiledRec ·))) = true := by kernel_rfl
theorem ZeG : (Rows.fnRootTurnRow.veiledFits Tryz.prog Tryz.f4.params.toList (Tryz.f4.params.toList ++ (OpenSpec.ofChange Rows.fnRootTurnSpec).bare.plain.varTypes Tryz.prog ++ Tryz.f4.resultTypes.toList)) = true := by kernel_rfl
theorem ZbQ : joinedFacts Tryz.prog 4 Tryz.f4 (OpenSpec.ofChange Rows.fnRootTurnSpec).bare Rows.fnRootTurnRow = true := ZcV ZeW ZeX ZeY ZeZ Ze0 Ze1 Ze2 Ze3 Ze4 Ze5 Zel Zem Zen Zeo Zep Zeq Zer Zes Zet Zeu Zev Zew Zex Zey Zez ZeA ZeB ZeC ZeD ZeE ZeF ZeG
theorem ZdY : Rows.FnRootTurnSaid :=
  OpenClaim.holds_of_cond 4 Tryz.f4 rfl rfl rfl rfl rfl rfl rfl ⟨rfl, rfl, rfl, rfl, rfl⟩ rfl rfl rfl rfl rfl (by kernel_rfl) Tryz.func4 ZbQ
    (of_decide_eq_true (by kernel_rfl)) (by unfold Func.isWrapper; rw [if_neg (of_decide_eq_false (by kernel_rfl))]; exact ⟨rfl, rfl⟩)
    (fun os started H enc _ F => by rw [OpenClaim.pre_eq_preRow]; exact ZbP os started H enc F)

theorem ZcX (f : FuncId) (fn : Func) (hf : Tryz.pinned.checked.prog.funcNamed "loop.example/poolfiles/laws.FnRootTurn" = some f) (hfn : Tryz.pinned.checked.prog.funcs[f]? = some fn) :
    true = Tryz.pinned.checked.prog.looks [] ∧ ∀ (j : Nat) t, fn.params[j]? = some t → Tryz.pinned.checked.prog.wantsStandIn t = false := by
  obtain rfl : f = 4 := Option.some.inj ((show Tryz.prog.funcNamed "loop.example/poolfiles/laws.FnRootTurn" = some 4 by kernel_rfl).symm.trans hf) |>.symm;obtain rfl : fn = Tryz.f4 := (Option.some.inj (Tryz.func4.symm.trans hfn)).symm;refine ⟨by kernel_rfl, fun j t ht => ?_⟩;have hall : (Tryz.f4.params.toList.all fun u => !Tryz.prog.wantsStandIn u) = true := by kernel_rfl
  have hm : t ∈ Tryz.f4.params.toList := by simpa using Array.mem_of_getElem? ht
  exact (show Tryz.prog.wantsStandIn t = false by simpa using List.all_eq_true.1 hall t hm)
/-- The card. -/
theorem tuQ_card : Rows.FnRootTurnCardSaid :=
  Claim7.holds_tied_plain_at .later [] _ _ _ _ ZdY (fun _ h => by cases h) (by kernel_rfl) (fun _ h => by cases h) fnRootTurn_row_tie rfl ⟨rfl, rfl⟩ (by kernel_rfl) rfl ZcX (by kernel_rfl)
#print axioms tuQ_card
end Go.Proofs.YthnbgnjpbmnelaaGreatDoor
