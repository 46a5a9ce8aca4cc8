/- FnExactSendBytes: for every Send, whatever its parts, the law returns true and its argument reads behind the call as before. No condition. -/
import Derived.Test.YtkgmilobmbeplaaSendLaw
import Derived.Test.YtkgmilobmbeplaaRead
namespace Go.Proofs.Ytkgmilobmbeplaa
open Go.ChangeShapes Go.WideShapes Go.ChangeAt Go.RowKit Go.Deep

instance : Inhabited PartD := ⟨⟨0, 0, 0, 0, 0, ByteArray.empty⟩⟩
theorem Try.cellsPart : Try.prog.cellsOf 125 = 6 := by kernel_rfl
theorem Try.cellsPartS : Try.prog.cellsOf 22 = 1 := by kernel_rfl
theorem PartD.read {H : Type} {enc : TypeId × Value → H} {w : World} {spare : Nat → Bool} {held : Bool} (n : Nat) (cs : List Value) (y : DataW H × List MemPlace) (h : DataW.trod enc Try.prog w 0 spare held n 125 cs = some y) :
    ∃ a : PartD, cs = a.cells ∧ a.text.size ≤ 9223372036854775807 := by
  obtain ⟨c0, c1, c2, c3, c4, c5, rfl⟩ := list6 (trod_len Try.underlying125 h Try.cellsPart)
  obtain ⟨a0, rfl, _⟩ := fld_int Try.underlying125 h 0 _ rfl Try.cellsInt Try.underlying3 rfl
  obtain ⟨a1, rfl, _⟩ := fld_int Try.underlying125 h 1 _ rfl Try.cellsInt Try.underlying3 rfl
  obtain ⟨a2, rfl, _⟩ := fld_int Try.underlying125 h 2 _ rfl Try.cellsInt Try.underlying3 rfl
  obtain ⟨a3, rfl, _⟩ := fld_int Try.underlying125 h 3 _ rfl Try.cellsInt Try.underlying3 rfl
  obtain ⟨a4, rfl, _⟩ := fld_int Try.underlying125 h 4 _ rfl Try.cellsInt Try.underlying3 rfl
  obtain ⟨a5, rfl, h5⟩ := fld_string Try.underlying125 h 5 _ rfl Try.cellsString Try.underlying9 rfl
  exact ⟨⟨a0, a1, a2, a3, a4, a5⟩, rfl, h5⟩

set_option maxRecDepth 100000 in
theorem sendBytes_lifted (os : Os) (started : os.Started) (H : Type) (enc : TypeId × Value → H) :
    ReturnsInHanded {} Try.checked os 3 .any (Rows.fnExactSendBytesSpec.pre6 enc Try.prog Try.f3 Rows.fnExactSendBytesRow.domain false) (Rows.fnExactSendBytesSpec.post enc Try.prog Try.f3 false true false false) := by
  refine returnsInHanded_of_change (C := Try.checked) Try.own started (by kernel_rfl) Try.func3
    (ChangeSpec.witness6 (enc := enc) (C := Try.checked) false ⟨#[], #[.agg #[.int .i64 0, .int .i64 0, .slice none 0 0]], []⟩ 8 (by kernel_rfl) (by kernel_rfl) (by kernel_rfl) (by kernel_rfl)) ?_
  intro W base args ds gs before hval0 hW hcnd _
  have hval : ∀ (j : Nat) t v, Try.f3.params[j]? = some t → args[j]? = some v → Value.okWide Try.prog W .any base t v := hval0
  have hW' := hW
  obtain ⟨p, q, hA0, hV, rfl, hfz, hnd⟩ := hW
  have hA : DataW.TrodAll enc Try.prog W 0 (fun _ => true) true Try.f3.params.toList args.toList ds p := hA0
  rw [Try.params3] at hA hval
  obtain ⟨v0, d0, rfl, rfl, h0⟩ := trodAll_one hA
  obtain ⟨rfl, rfl⟩ := trodVars_none hV
  obtain ⟨cs, rfl, hcs⟩ := okWide_struct Try.underlying24 (hval 0 _ _ rfl rfl)
  obtain ⟨fuel, hf⟩ := h0
  obtain ⟨c0, c1, c2, hl⟩ := list3 (trod_len Try.underlying24 hf (by kernel_rfl : _ = 3))
  obtain ⟨l⟩ := cs
  simp only [Value.cells] at hf hl
  subst hl
  obtain ⟨a0, rfl, _⟩ := fld_int Try.underlying24 hf 0 _ rfl Try.cellsInt Try.underlying3 rfl
  obtain ⟨a1, rfl, _⟩ := fld_int Try.underlying24 hf 1 _ rfl Try.cellsInt Try.underlying3 rfl
  obtain ⟨m2, y2, h2⟩ := fld Try.underlying24 hf 2 _ rfl Try.cellsPartS (cs' := [c2]) rfl
  obtain ⟨ao, len, cap, ps, rfl, hlen, hrd, hq⟩ := rd_slice (ef := PartD.cells) (size := 6) (Q := fun a => a.text.size ≤ 9223372036854775807) Try.underlying22 Try.cellsPart (by omega) PartD.read h2
  refine (law_any a0 a1 ao len cap ps W (by unfold maxLen at hlen; omega) hrd hq).mono fun e W' ⟨he, hb⟩ => ?_
  subst he
  exact ⟨_, rfl, law_post Try.laidOut rfl rfl rfl Try.underlying4 rfl (by kernel_rfl) hW' hb⟩

theorem sendBytes_holds : Rows.FnExactSendBytesSaid :=
  OpenClaim.holds_of_wide 3 Try.f3 rfl rfl rfl rfl rfl rfl rfl ⟨rfl, rfl, rfl, rfl, rfl⟩ rfl rfl rfl rfl rfl (by kernel_rfl) Try.func3 (by kernel_rfl)
    (of_decide_eq_true (by kernel_rfl)) (by unfold Func.isWrapper; rw [if_neg (of_decide_eq_false (by kernel_rfl))]; exact ⟨rfl, rfl⟩)
    (fun os started H enc _ => sendBytes_lifted os started H enc)
#print axioms sendBytes_holds
end Go.Proofs.Ytkgmilobmbeplaa
