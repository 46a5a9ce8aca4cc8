/- FnTreeText: for every code the law returns true (the fields of a drawn tree tell it), and its argument reads behind the call as before. No condition but that the tables of the library that the row lists hold what the program's text lays. -/
import Derived.Test.YthnbgnjpbmnelaaGreatDoorCards
import Derived.Test.YthnbgnjpbmnelaaGreatDoorTie
import Derived.Test.YthnbgnjpbmnelaaGreatDoorTqX33
namespace Go.Proofs.YthnbgnjpbmnelaaGreatDoor
open Go.Proofs.Tryz
open List (mem_cons_of_mem mem_cons_self)
set_option linter.unusedVariables false
set_option linter.unusedSimpArgs false
set_option maxHeartbeats 1000000
set_option maxRecDepth 100000
open Go.ChangeShapes Go.WideShapes Go.ChangeAt Go.RowKit Go.Deep
noncomputable def US (os : Os) : World := World.laidAll prog os Rows.fnTreeTextRow.laid
theorem ZnT (os : Os) : laidMetH prog Rows.fnTreeTextRow.laid ((US os).forCall (fun _ _ => 0) ⟨#[], #[.slice none 0 0], []⟩).memory := by
 rw [MakeChecks.laidMetH_plain _ _ _ (by kernel_rfl)];exact laidMet_laidAll _ (by kernel_rfl) (by kernel_rfl)
theorem ZkW (os : Os) {H : Type} (enc : TypeId × Value → H) : ∃ x : List (DataW H) × List (DataW H) × List MemPlace, DataW.whole enc prog ((US os).forCall (fun _ _ => 0) ⟨#[], #[.slice none 0 0], []⟩).memory Tryz.f5.params.toList Rows.fnTreeTextSpec.vars false #[.slice none 0 0].toList 8 = some x := by
 generalize hx : DataW.whole enc prog ((US os).forCall (fun _ _ => 0) ⟨#[], #[.slice none 0 0], []⟩).memory Tryz.f5.params.toList Rows.fnTreeTextSpec.vars false #[.slice none 0 0].toList 8 = o
 cases o with
 | none => exact absurd (show (DataW.whole enc prog ((US os).forCall (fun _ _ => 0) ⟨#[], #[.slice none 0 0], []⟩).memory Tryz.f5.params.toList Rows.fnTreeTextSpec.vars false #[.slice none 0 0].toList 8).isSome = true by kernel_rfl) (by rw [hx]; simp)
 | some x => exact ⟨x, rfl⟩
theorem Zi0 (os : Os) (started : os.Started) (H : Type) (enc : TypeId × Value → H) (F : Stop.Interp) :
  ReturnsInHanded {} Tryz.checked os 5 .any ((OpenSpec.ofChange Rows.fnTreeTextSpec).preRow enc prog Tryz.f5 Rows.fnTreeTextRow.domain false Rows.fnTreeTextRow.laid) (((OpenSpec.ofChange Rows.fnTreeTextSpec).at F).post enc prog Tryz.f5 false true false false) := by
 obtain ⟨x, hx⟩ := ZkW os enc;refine returnsInHanded_of_row (C := Tryz.checked) (s := OpenSpec.ofChange Rows.fnTreeTextSpec) Tryz.own started (by kernel_rfl) func5
  (witness_row_atRef (enc := enc) (C := Tryz.checked) false (US os) #[.slice none 0 0] (World.laidAll_os _ _ _) (by kernel_rfl) (by kernel_rfl) (by kernel_rfl)
   (OpenSpec.preRow_of_cond 8 hx (by rfl) (fun k hk => by cases hk) (by kernel_rfl) (ZnT os))) ?_
 intro W base args ds gs before hval0 hW _ _ _ hL hSh _;have hval : ∀ (j : Nat) t v, Tryz.f5.params[j]? = some t → args[j]? = some v → Value.okWide prog W .any base t v := hval0;rw [MakeChecks.laidMetH_plain _ _ _ (by kernel_rfl)] at hL;have hT : ZaE W := ZoK hL (mem_cons_of_mem _ (mem_cons_of_mem _ (mem_cons_self ..)));have hE : ZfX W := ZoL hL (mem_cons_of_mem _ (mem_cons_of_mem _ (mem_cons_of_mem _ (mem_cons_of_mem _ (mem_cons_self ..)))));have hM : ZgY W := Zot hSh;have hW' := hW;obtain ⟨p, q, hA0, hV, rfl, hfz, hnd⟩ := hW;have hA : DataW.TrodAll enc prog W 0 (fun _ => true) true Tryz.f5.params.toList args.toList ds p := hA0;rw [Tryz.params5] at hA hval;obtain ⟨v0, d0, rfl, rfl, h0⟩ := trodAll_one hA;obtain ⟨rfl, rfl⟩ := trodVars_none hV;obtain ⟨q0, l0, k0, rfl⟩ := okWide_slice Tryz.underlying54 (hval 0 _ _ rfl rfl);obtain ⟨fuel0, hf0⟩ := h0; simp only [Value.cells] at hf0; obtain ⟨bs0, hr0, hc0⟩ := ZkU hf0;refine (Zc8 W _ _ _ bs0 hT hM hE hc0 hr0).mono fun e W' ⟨he, hb⟩ => ?_;subst he;exact ⟨_, rfl, ZmX Tryz.laidOut rfl rfl rfl Tryz.underlying4 rfl (by kernel_rfl) hW' hb⟩
theorem ZoM : (Rows.fnTreeTextRow.wf (OpenSpec.ofChange (OpenSpec.ofChange Rows.fnTreeTextSpec).bare)) = true := by kernel_rfl
theorem ZoN : (laidOutB prog) = true := by kernel_rfl
theorem ZoO : (mapsRowed prog) = true := by kernel_rfl
theorem ZoP : (Tryz.f5.params.all (Tryz.prog.readableRec ·)) = true := by kernel_rfl
theorem ZoQ : (namedTie prog Rows.fnTreeTextRow.named (OpenSpec.ofChange Rows.fnTreeTextSpec).bare.vars) = true := by kernel_rfl
theorem ZoR : ((Rows.fnTreeTextRow.stops == [])) = true := by kernel_rfl
theorem ZoS : ((Tryz.prog.stops == [])) = true := by kernel_rfl
theorem ZoT : ((Rows.fnTreeTextRow.knobs == [])) = true := by kernel_rfl
theorem ZoU : ((Tryz.prog.stopKnobs == [])) = true := by kernel_rfl
theorem ZoV : ((Rows.fnTreeTextRow.inPlace == Tryz.prog.inPlace 5)) = true := by kernel_rfl
theorem ZnU : ((Rows.fnTreeTextRow.unfollowed == Tryz.prog.unfollowed 5)) = true := by kernel_rfl
theorem ZnV : ((Rows.fnTreeTextRow.recurses == Tryz.prog.recurses 5)) = true := by kernel_rfl
theorem ZnW : ((Rows.fnTreeTextRow.named == Tryz.prog.varsNamed 5)) = true := by kernel_rfl
theorem ZnX : ((Rows.fnTreeTextRow.maps == (Tryz.f5.params.toList ++ (OpenSpec.ofChange Rows.fnTreeTextSpec).bare.plain.varTypes prog).any (Tryz.prog.mapsRec ·))) = true := by kernel_rfl
theorem ZnY : ((Rows.fnTreeTextRow.ifaces == (Tryz.f5.params.toList ++ (OpenSpec.ofChange Rows.fnTreeTextSpec).bare.plain.varTypes prog).any (Tryz.prog.ifacesRec ·))) = true := by kernel_rfl
theorem ZnZ : ((Rows.fnTreeTextRow.mapsOut == Tryz.prog.mapsAmong Tryz.f5.resultTypes.toList)) = true := by kernel_rfl
theorem Zn0 : ((Rows.fnTreeTextRow.loops == (Tryz.f5.params.toList ++ (OpenSpec.ofChange Rows.fnTreeTextSpec).bare.plain.varTypes prog).any (Tryz.prog.loopsFrom ·))) = true := by kernel_rfl
theorem Zn1 : ((Rows.fnTreeTextRow.wideKeys == (Tryz.f5.params.toList ++ (OpenSpec.ofChange Rows.fnTreeTextSpec).bare.plain.varTypes prog ++ Tryz.f5.resultTypes.toList).any (Tryz.prog.wideKeysFrom ·))) = true := by kernel_rfl
theorem Zn2 : ((OpenSpec.ofChange Rows.fnTreeTextSpec).bare.vars.all (Tryz.prog.varReadable ·)) = true := by kernel_rfl
theorem Zn3 : (Tryz.f5.resultTypes.all (fun t => Tryz.prog.readableRec t && decide (t < Tryz.prog.types.size))) = true := by kernel_rfl
theorem Zn4 : ((Rows.fnTreeTextRow.ifacesOut == Tryz.f5.resultTypes.toList.any (Tryz.prog.ifacesRec ·))) = true := by kernel_rfl
theorem Zn5 : ((Rows.fnTreeTextRow.loopsOut == Tryz.f5.resultTypes.toList.any (Tryz.prog.loopsFrom ·))) = true := by kernel_rfl
theorem Zn6 : ((Rows.fnTreeTextRow.plainKeys == Tryz.prog.plainKeys)) = true := by kernel_rfl
theorem Zn7 : (Rows.fnTreeTextRow.shortTexts.isNone) = true := by kernel_rfl
theorem Zn8 : (Tryz.prog.stopsHeard) = true := by kernel_rfl
theorem Zn9 : (Tryz.prog.mayEnter) = true := by kernel_rfl
theorem Zoa : ((Rows.fnTreeTextRow.lifted == Tryz.prog.liftsFinal)) = true := by kernel_rfl
theorem Zob : ((Tryz.prog.make == some Rows.fnTreeTextRow.make)) = true := by kernel_rfl
theorem Zoc : ((Rows.fnTreeTextRow.kinds == (if Rows.fnTreeTextRow.domain.isEmpty then [] else Tryz.f5.params.toList.map fun t => match Tryz.prog.underlying t with | some (.int k) => some k | _ => none))) = true := by kernel_rfl
theorem Zod : ((Rows.fnTreeTextRow.pinned == Rows.fnTreeTextRow.pinnedBy)) = true := by kernel_rfl
theorem Zoe : ((Rows.fnTreeTextRow.veiled == (Tryz.f5.params.toList ++ (OpenSpec.ofChange Rows.fnTreeTextSpec).bare.plain.varTypes prog ++ Tryz.f5.resultTypes.toList).any (Tryz.prog.veiledRec ·))) = true := by kernel_rfl
theorem Zof : (Rows.fnTreeTextRow.veiledFits prog Tryz.f5.params.toList (Tryz.f5.params.toList ++ (OpenSpec.ofChange Rows.fnTreeTextSpec).bare.plain.varTypes prog ++ Tryz.f5.resultTypes.toList)) = true := by kernel_rfl
theorem Zi1 : joinedFacts prog 5 Tryz.f5 (OpenSpec.ofChange Rows.fnTreeTextSpec).bare Rows.fnTreeTextRow = true := ZkV ZoM ZoN ZoO ZoP ZoQ ZoR ZoS ZoT ZoU ZoV ZnU ZnV ZnW ZnX ZnY ZnZ Zn0 Zn1 Zn2 Zn3 Zn4 Zn5 Zn6 Zn7 Zn8 Zn9 Zoa Zob Zoc Zod Zoe Zof
theorem ZmZ : Rows.FnTreeTextSaid :=
 OpenClaim.holds_of_cond 5 Tryz.f5 rfl rfl rfl rfl rfl rfl rfl ⟨rfl, rfl, rfl, rfl, rfl⟩ rfl rfl rfl rfl rfl (by kernel_rfl) func5 Zi1
  (of_decide_eq_true (by kernel_rfl)) (by unfold Func.isWrapper; rw [if_neg (of_decide_eq_false (by kernel_rfl))]; exact ⟨rfl, rfl⟩)
  (fun os started H enc _ F => by rw [OpenClaim.pre_eq_preRow]; exact Zi0 os started H enc F)
theorem ZkX (f : FuncId) (fn : Func) (hf : Tryz.pinned.checked.prog.funcNamed "loop.example/poolfiles/laws.FnTreeText" = some f) (hfn : Tryz.pinned.checked.prog.funcs[f]? = some fn) :
  true = Tryz.pinned.checked.prog.looks [] ∧ ∀ (j : Nat) t, fn.params[j]? = some t → Tryz.pinned.checked.prog.wantsStandIn t = false := by
 obtain rfl : f = 5 := Option.some.inj ((show Tryz.prog.funcNamed "loop.example/poolfiles/laws.FnTreeText" = some 5 by kernel_rfl).symm.trans hf) |>.symm;obtain rfl : fn = Tryz.f5 := (Option.some.inj (Tryz.func5.symm.trans hfn)).symm;refine ⟨by kernel_rfl, fun j t ht => ?_⟩;have hall : (Tryz.f5.params.toList.all fun u => !Tryz.prog.wantsStandIn u) = true := by kernel_rfl
 have hm : t ∈ Tryz.f5.params.toList := by simpa using Array.mem_of_getElem? ht
 exact (show Tryz.prog.wantsStandIn t = false by simpa using List.all_eq_true.1 hall t hm)
theorem ttQ_card : Rows.FnTreeTextCardSaid :=
 Claim7.holds_tied_plain_at .later [] _ _ _ _ ZmZ (fun _ h => by cases h) (by kernel_rfl) (fun _ h => by cases h) fnTreeText_row_tie rfl ⟨rfl, rfl⟩ (by kernel_rfl) rfl ZkX (by kernel_rfl)
#print axioms ttQ_card
end Go.Proofs.YthnbgnjpbmnelaaGreatDoor
