/- FnNodePut: for every code the law returns true (a drawn node is written as the other side writes it, in at most 128 bytes, and read back as itself), and its argument reads behind the call as before. No condition but that the tables of the library that the row lists hold what the program's text lays. -/
import Derived.Test.YtfhdmfcfcgbgeaaGreatDoorCards
import Derived.Test.YtfhdmfcfcgbgeaaGreatDoorTie
import Derived.Test.YtfhdmfcfcgbgeaaGreatDoorNpX33
namespace Go.Proofs.YtfhdmfcfcgbgeaaGreatDoor
open Go.Proofs.Tryz
open List (mem_cons_of_mem mem_cons_self)
set_option linter.unusedVariables false
set_option linter.unusedSimpArgs false
set_option maxHeartbeats 1000000
set_option maxRecDepth 100000
open Go.ChangeShapes Go.WideShapes Go.ChangeAt Go.RowKit Go.Deep
noncomputable def U6 (os : Os) : World := World.laidAll prog os Rows.fnNodePutRow.laid
theorem ZnV (os : Os) : laidMetH prog Rows.fnNodePutRow.laid ((U6 os).forCall (fun _ _ => 0) ⟨#[], #[.slice none 0 0], []⟩).memory := by
 rw [MakeChecks.laidMetH_plain _ _ _ (by kernel_rfl)];exact laidMet_laidAll _ (by kernel_rfl) (by kernel_rfl)
theorem Zk1 (os : Os) {H : Type} (enc : TypeId × Value → H) : ∃ x : List (DataW H) × List (DataW H) × List MemPlace, DataW.whole enc prog ((U6 os).forCall (fun _ _ => 0) ⟨#[], #[.slice none 0 0], []⟩).memory Tryz.f4.params.toList Rows.fnNodePutSpec.vars false #[.slice none 0 0].toList 8 = some x := by
 generalize hx : DataW.whole enc prog ((U6 os).forCall (fun _ _ => 0) ⟨#[], #[.slice none 0 0], []⟩).memory Tryz.f4.params.toList Rows.fnNodePutSpec.vars false #[.slice none 0 0].toList 8 = o
 cases o with
 | none => exact absurd (show (DataW.whole enc prog ((U6 os).forCall (fun _ _ => 0) ⟨#[], #[.slice none 0 0], []⟩).memory Tryz.f4.params.toList Rows.fnNodePutSpec.vars false #[.slice none 0 0].toList 8).isSome = true by kernel_rfl) (by rw [hx]; simp)
 | some x => exact ⟨x, rfl⟩
theorem Zi7 (os : Os) (started : os.Started) (H : Type) (enc : TypeId × Value → H) (F : Stop.Interp) :
  ReturnsInHanded {} Tryz.checked os 4 .any ((OpenSpec.ofChange Rows.fnNodePutSpec).preRow enc prog Tryz.f4 Rows.fnNodePutRow.domain false Rows.fnNodePutRow.laid) (((OpenSpec.ofChange Rows.fnNodePutSpec).at F).post enc prog Tryz.f4 false true false false) := by
 obtain ⟨x, hx⟩ := Zk1 os enc;refine returnsInHanded_of_row (C := Tryz.checked) (s := OpenSpec.ofChange Rows.fnNodePutSpec) Tryz.own started (by kernel_rfl) func4
  (witness_row_atRef (enc := enc) (C := Tryz.checked) false (U6 os) #[.slice none 0 0] (World.laidAll_os _ _ _) (by kernel_rfl) (by kernel_rfl) (by kernel_rfl)
   (OpenSpec.preRow_of_cond 8 hx (by rfl) (fun k hk => by cases hk) (by kernel_rfl) (ZnV os))) ?_
 intro W base args ds gs before hval0 hW _ _ _ hL hSh _;have hval : ∀ (j : Nat) t v, Tryz.f4.params[j]? = some t → args[j]? = some v → Value.okWide prog W .any base t v := hval0;rw [MakeChecks.laidMetH_plain _ _ _ (by kernel_rfl)] at hL;have hT : Vd W := ZoM hL (mem_cons_of_mem _ (mem_cons_of_mem _ (mem_cons_self ..)));have hE : Zcn W := ZoN hL (mem_cons_of_mem _ (mem_cons_of_mem _ (mem_cons_of_mem _ (mem_cons_of_mem _ (mem_cons_of_mem _ (mem_cons_self ..))))));have hM : Zcm W := Zov hSh;have hW' := hW;obtain ⟨p, q, hA0, hV, rfl, hfz, hnd⟩ := hW;have hA : DataW.TrodAll enc prog W 0 (fun _ => true) true Tryz.f4.params.toList args.toList ds p := hA0;rw [Tryz.params4] at hA hval;obtain ⟨v0, d0, rfl, rfl, h0⟩ := trodAll_one hA;obtain ⟨rfl, rfl⟩ := trodVars_none hV;obtain ⟨q0, l0, k0, rfl⟩ := okWide_slice Tryz.underlying22 (hval 0 _ _ rfl rfl);obtain ⟨fuel0, hf0⟩ := h0; simp only [Value.cells] at hf0; obtain ⟨bs0, hr0, hc0⟩ := ZkZ hf0;refine (ZeH W _ _ _ bs0 hT hM hE hc0 hr0).mono fun e W' ⟨he, hb⟩ => ?_;subst he;exact ⟨_, rfl, ZmX Tryz.laidOut rfl rfl rfl Tryz.underlying4 rfl (by kernel_rfl) hW' hb⟩
theorem ZoO : (Rows.fnNodePutRow.wf (OpenSpec.ofChange (OpenSpec.ofChange Rows.fnNodePutSpec).bare)) = true := by kernel_rfl
theorem ZoP : (laidOutB prog) = true := by kernel_rfl
theorem ZoQ : (mapsRowed prog) = true := by kernel_rfl
theorem ZoR : (Tryz.f4.params.all (Tryz.prog.readableRec ·)) = true := by kernel_rfl
theorem ZoS : (namedTie prog Rows.fnNodePutRow.named (OpenSpec.ofChange Rows.fnNodePutSpec).bare.vars) = true := by kernel_rfl
theorem ZoT : ((Rows.fnNodePutRow.stops == [])) = true := by kernel_rfl
theorem ZoU : ((Tryz.prog.stops == [])) = true := by kernel_rfl
theorem ZoV : ((Rows.fnNodePutRow.knobs == [])) = true := by kernel_rfl
theorem ZoW : ((Tryz.prog.stopKnobs == [])) = true := by kernel_rfl
theorem ZoX : ((Rows.fnNodePutRow.inPlace == Tryz.prog.inPlace 4)) = true := by kernel_rfl
theorem ZnW : ((Rows.fnNodePutRow.unfollowed == Tryz.prog.unfollowed 4)) = true := by kernel_rfl
theorem ZnX : ((Rows.fnNodePutRow.recurses == Tryz.prog.recurses 4)) = true := by kernel_rfl
theorem ZnY : ((Rows.fnNodePutRow.named == Tryz.prog.varsNamed 4)) = true := by kernel_rfl
theorem ZnZ : ((Rows.fnNodePutRow.maps == (Tryz.f4.params.toList ++ (OpenSpec.ofChange Rows.fnNodePutSpec).bare.plain.varTypes prog).any (Tryz.prog.mapsRec ·))) = true := by kernel_rfl
theorem Zn0 : ((Rows.fnNodePutRow.ifaces == (Tryz.f4.params.toList ++ (OpenSpec.ofChange Rows.fnNodePutSpec).bare.plain.varTypes prog).any (Tryz.prog.ifacesRec ·))) = true := by kernel_rfl
theorem Zn1 : ((Rows.fnNodePutRow.mapsOut == Tryz.prog.mapsAmong Tryz.f4.resultTypes.toList)) = true := by kernel_rfl
theorem Zn2 : ((Rows.fnNodePutRow.loops == (Tryz.f4.params.toList ++ (OpenSpec.ofChange Rows.fnNodePutSpec).bare.plain.varTypes prog).any (Tryz.prog.loopsFrom ·))) = true := by kernel_rfl
theorem Zn3 : ((Rows.fnNodePutRow.wideKeys == (Tryz.f4.params.toList ++ (OpenSpec.ofChange Rows.fnNodePutSpec).bare.plain.varTypes prog ++ Tryz.f4.resultTypes.toList).any (Tryz.prog.wideKeysFrom ·))) = true := by kernel_rfl
theorem Zn4 : ((OpenSpec.ofChange Rows.fnNodePutSpec).bare.vars.all (Tryz.prog.varReadable ·)) = true := by kernel_rfl
theorem Zn5 : (Tryz.f4.resultTypes.all (fun t => Tryz.prog.readableRec t && decide (t < Tryz.prog.types.size))) = true := by kernel_rfl
theorem Zn6 : ((Rows.fnNodePutRow.ifacesOut == Tryz.f4.resultTypes.toList.any (Tryz.prog.ifacesRec ·))) = true := by kernel_rfl
theorem Zn7 : ((Rows.fnNodePutRow.loopsOut == Tryz.f4.resultTypes.toList.any (Tryz.prog.loopsFrom ·))) = true := by kernel_rfl
theorem Zn8 : ((Rows.fnNodePutRow.plainKeys == Tryz.prog.plainKeys)) = true := by kernel_rfl
theorem Zn9 : (Rows.fnNodePutRow.shortTexts.isNone) = true := by kernel_rfl
theorem Zoa : (Tryz.prog.stopsHeard) = true := by kernel_rfl
theorem Zob : (Tryz.prog.mayEnter) = true := by kernel_rfl
theorem Zoc : ((Rows.fnNodePutRow.lifted == Tryz.prog.liftsFinal)) = true := by kernel_rfl
theorem Zod : ((Tryz.prog.make == some Rows.fnNodePutRow.make)) = true := by kernel_rfl
theorem Zoe : ((Rows.fnNodePutRow.kinds == (if Rows.fnNodePutRow.domain.isEmpty then [] else Tryz.f4.params.toList.map fun t => match Tryz.prog.underlying t with | some (.int k) => some k | _ => none))) = true := by kernel_rfl
theorem Zof : ((Rows.fnNodePutRow.pinned == Rows.fnNodePutRow.pinnedBy)) = true := by kernel_rfl
theorem Zog : ((Rows.fnNodePutRow.veiled == (Tryz.f4.params.toList ++ (OpenSpec.ofChange Rows.fnNodePutSpec).bare.plain.varTypes prog ++ Tryz.f4.resultTypes.toList).any (Tryz.prog.veiledRec ·))) = true := by kernel_rfl
theorem Zoh : (Rows.fnNodePutRow.veiledFits prog Tryz.f4.params.toList (Tryz.f4.params.toList ++ (OpenSpec.ofChange Rows.fnNodePutSpec).bare.plain.varTypes prog ++ Tryz.f4.resultTypes.toList)) = true := by kernel_rfl
theorem Zi8 : joinedFacts prog 4 Tryz.f4 (OpenSpec.ofChange Rows.fnNodePutSpec).bare Rows.fnNodePutRow = true := Zk0 ZoO ZoP ZoQ ZoR ZoS ZoT ZoU ZoV ZoW ZoX ZnW ZnX ZnY ZnZ Zn0 Zn1 Zn2 Zn3 Zn4 Zn5 Zn6 Zn7 Zn8 Zn9 Zoa Zob Zoc Zod Zoe Zof Zog Zoh
theorem ZmZ : Rows.FnNodePutSaid :=
 OpenClaim.holds_of_cond 4 Tryz.f4 rfl rfl rfl rfl rfl rfl rfl ⟨rfl, rfl, rfl, rfl, rfl⟩ rfl rfl rfl rfl rfl (by kernel_rfl) func4 Zi8
  (of_decide_eq_true (by kernel_rfl)) (by unfold Func.isWrapper; rw [if_neg (of_decide_eq_false (by kernel_rfl))]; exact ⟨rfl, rfl⟩)
  (fun os started H enc _ F => by rw [OpenClaim.pre_eq_preRow]; exact Zi7 os started H enc F)
theorem Zk2 (f : FuncId) (fn : Func) (hf : Tryz.pinned.checked.prog.funcNamed "loop.example/poolfiles/laws.FnNodePut" = some f) (hfn : Tryz.pinned.checked.prog.funcs[f]? = some fn) :
  true = Tryz.pinned.checked.prog.looks [] ∧ ∀ (j : Nat) t, fn.params[j]? = some t → Tryz.pinned.checked.prog.wantsStandIn t = false := by
 obtain rfl : f = 4 := Option.some.inj ((show Tryz.prog.funcNamed "loop.example/poolfiles/laws.FnNodePut" = some 4 by kernel_rfl).symm.trans hf) |>.symm;obtain rfl : fn = Tryz.f4 := (Option.some.inj (Tryz.func4.symm.trans hfn)).symm;refine ⟨by kernel_rfl, fun j t ht => ?_⟩;have hall : (Tryz.f4.params.toList.all fun u => !Tryz.prog.wantsStandIn u) = true := by kernel_rfl
 have hm : t ∈ Tryz.f4.params.toList := by simpa using Array.mem_of_getElem? ht
 exact (show Tryz.prog.wantsStandIn t = false by simpa using List.all_eq_true.1 hall t hm)
theorem ndP_card : Rows.FnNodePutCardSaid :=
 Claim7.holds_tied_plain_at .later [] _ _ _ _ ZmZ (fun _ h => by cases h) (by kernel_rfl) (fun _ h => by cases h) fnNodePut_row_tie rfl ⟨rfl, rfl⟩ (by kernel_rfl) rfl Zk2 (by kernel_rfl)
#print axioms ndP_card
end Go.Proofs.YtfhdmfcfcgbgeaaGreatDoor
