/- FnExactStoreFree: for every Store and every Ptr, valid or not, the law returns true and its arguments read behind the call as before. No condition. -/
import Derived.Test.YtkgmilobmbeplaaStoreFLaw
import Derived.Test.YtkgmilobmbeplaaStoreRd
namespace Go.Proofs.Ytkgmilobmbeplaa
open Go.ChangeShapes Go.WideShapes Go.ChangeAt Go.RowKit Go.Deep

set_option maxRecDepth 100000 in
theorem storeFree_lifted (os : Os) (started : os.Started) (H : Type) (enc : TypeId × Value → H) :
    ReturnsInHanded {} Try.checked os 8 .any (Rows.fnExactStoreFreeSpec.pre6 enc Try.prog Try.f8 Rows.fnExactStoreFreeRow.domain false) (Rows.fnExactStoreFreeSpec.post enc Try.prog Try.f8 false true false false) := by
  refine returnsInHanded_of_change (C := Try.checked) Try.own started (by kernel_rfl) Try.func8
    (ChangeSpec.witness6 (enc := enc) (C := Try.checked) false ⟨#[], #[.agg #[.slice none 0 0, .slice none 0 0, .slice none 0 0, .int .i64 0, .slice none 0 0, .int .i64 0, .slice none 0 0, .bool false], .agg #[.int .i64 0, .int .i64 0, .int .i64 0, .int .i64 0, .int .i64 0]], []⟩ 8 (by kernel_rfl) (by kernel_rfl) (by kernel_rfl) (by kernel_rfl)) ?_
  intro W base args ds gs before hval0 hW hcnd _
  have hval : ∀ (j : Nat) t v, Try.f8.params[j]? = some t → args[j]? = some v → Value.okWide Try.prog W .any base t v := hval0
  have hW' := hW
  obtain ⟨p, q, hA0, hV, rfl, hfz, hnd⟩ := hW
  have hA : DataW.TrodAll enc Try.prog W 0 (fun _ => true) true Try.f8.params.toList args.toList ds p := hA0
  rw [Try.params8] at hA hval
  obtain ⟨v0, v1, d0, d1, pa, pb, rfl, rfl, hpp, h0, h1⟩ := trodAll_two hA
  obtain ⟨rfl, rfl⟩ := trodVars_none hV
  obtain ⟨cs, rfl, hcs⟩ := okWide_struct Try.underlying63 (hval 0 _ _ rfl rfl)
  obtain ⟨ds1, rfl, hds⟩ := okWide_struct Try.underlying76 (hval 1 _ _ rfl rfl)
  obtain ⟨fuel, hf⟩ := h0
  obtain ⟨fuel1, hf1⟩ := h1
  obtain ⟨l1⟩ := ds1
  obtain ⟨l⟩ := cs
  simp only [Value.cells] at hf hf1
  obtain ⟨st, hr, hs, hi⟩ := StoreD.read _ _ _ hf
  obtain ⟨p, rfl, _⟩ := PtrD.read _ _ _ hf1
  refine (lawStoreFree_any _ st p W hr hs hi).mono fun e W' ⟨he, hb⟩ => ?_
  subst he
  exact ⟨_, rfl, law_post Try.laidOut rfl rfl rfl Try.underlying4 rfl (by kernel_rfl) hW' hb⟩

theorem storeFree_holds : Rows.FnExactStoreFreeSaid :=
  OpenClaim.holds_of_wide 8 Try.f8 rfl rfl rfl rfl rfl rfl rfl ⟨rfl, rfl, rfl, rfl, rfl⟩ rfl rfl rfl rfl rfl (by kernel_rfl) Try.func8 (by kernel_rfl)
    (of_decide_eq_true (by kernel_rfl)) (by unfold Func.isWrapper; rw [if_neg (of_decide_eq_false (by kernel_rfl))]; exact ⟨rfl, rfl⟩)
    (fun os started H enc _ => storeFree_lifted os started H enc)
#print axioms storeFree_holds
end Go.Proofs.Ytkgmilobmbeplaa
