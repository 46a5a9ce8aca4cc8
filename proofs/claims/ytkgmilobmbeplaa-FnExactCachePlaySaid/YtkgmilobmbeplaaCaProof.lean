/- FnExactCachePlay: for every Cache and rows, valid or not, the law returns true and its arguments read behind the call as before. No condition. -/
import Derived.Test.YtkgmilobmbeplaaCaLaw
import Derived.Test.YtkgmilobmbeplaaRead
namespace Go.Proofs.Ytkgmilobmbeplaa
open Go.ChangeShapes Go.WideShapes Go.ChangeAt Go.RowKit Go.Deep

theorem Try.cellsIntSC : Try.prog.cellsOf 44 = 1 := by kernel_rfl
theorem Try.cellsCache : Try.prog.cellsOf 46 = 6 := by kernel_rfl
section
variable {H : Type} {enc : TypeId × Value → H} {w : World} {spare : Nat → Bool} {held : Bool}
theorem readI (n : Nat) (cs : List Value) (y : DataW H × List MemPlace) (h : DataW.trod enc Try.prog w 0 spare held n 3 cs = some y) : ∃ a : Int, cs = encI a ∧ True := by
  obtain ⟨a, e, _, _⟩ := DataW.trod_int Try.underlying3 h
  exact ⟨a, e, trivial⟩
theorem CacheD.read (n : Nat) (cs : List Value) (y : DataW H × List MemPlace) (h : DataW.trod enc Try.prog w 0 spare held n 46 cs = some y) : ∃ a : CacheD, CacheD.Reads w (.agg cs.toArray) a ∧ a.Small := by
  obtain ⟨c0, c1, c2, c3, c4, c5, rfl⟩ := list6 (trod_len Try.underlying46 h Try.cellsCache)
  obtain ⟨r, rfl, _⟩ := fld_int Try.underlying46 h 0 _ rfl Try.cellsInt Try.underlying3 (c := c0) rfl
  obtain ⟨g, rfl, _⟩ := fld_int Try.underlying46 h 1 _ rfl Try.cellsInt Try.underlying3 (c := c1) rfl
  obtain ⟨m2, y2, h2⟩ := fld Try.underlying46 h 2 _ rfl Try.cellsIntSC (cs' := [c2]) rfl
  obtain ⟨m3, y3, h3⟩ := fld Try.underlying46 h 3 _ rfl Try.cellsIntSC (cs' := [c3]) rfl
  obtain ⟨m4, y4, h4⟩ := fld Try.underlying46 h 4 _ rfl Try.cellsIntSC (cs' := [c4]) rfl
  obtain ⟨m5, y5, h5⟩ := fld Try.underlying46 h 5 _ rfl Try.cellsIntSC (cs' := [c5]) rfl
  obtain ⟨a2, l2, k2, x2, rfl, b2, r2, _⟩ := rd_slice (ef := encI) (size := 1) (Q := fun _ => True) Try.underlying44 Try.cellsInt (by omega) readI h2
  obtain ⟨a3, l3, k3, x3, rfl, b3, r3, _⟩ := rd_slice (ef := encI) (size := 1) (Q := fun _ => True) Try.underlying44 Try.cellsInt (by omega) readI h3
  obtain ⟨a4, l4, k4, x4, rfl, b4, r4, _⟩ := rd_slice (ef := encI) (size := 1) (Q := fun _ => True) Try.underlying44 Try.cellsInt (by omega) readI h4
  obtain ⟨a5, l5, k5, x5, rfl, b5, r5, _⟩ := rd_slice (ef := encI) (size := 1) (Q := fun _ => True) Try.underlying44 Try.cellsInt (by omega) readI h5
  unfold maxLen at b2 b3 b4 b5
  obtain rfl := r2.len
  obtain rfl := r3.len
  obtain rfl := r4.len
  obtain rfl := r5.len
  exact ⟨⟨r, g, x2, x3, x4, x5⟩, ⟨a2, k2, a3, k3, a4, k4, a5, k5, rfl, r2, r3, r4, r5⟩, ⟨by show x2.length ≤ _; omega, by show x3.length ≤ _; omega, by show x4.length ≤ _; omega, by show x5.length ≤ _; omega⟩⟩
end

set_option maxRecDepth 100000 in
theorem cachePlay_lifted (os : Os) (started : os.Started) (H : Type) (enc : TypeId × Value → H) :
    ReturnsInHanded {} Try.checked os 6 .any (Rows.fnExactCachePlaySpec.pre6 enc Try.prog Try.f6 Rows.fnExactCachePlayRow.domain false) (Rows.fnExactCachePlaySpec.post enc Try.prog Try.f6 false true false false) := by
  refine returnsInHanded_of_change (C := Try.checked) Try.own started (by kernel_rfl) Try.func6
    (ChangeSpec.witness6 (enc := enc) (C := Try.checked) false ⟨#[], #[.agg #[.int .i64 0, .int .i64 0, .slice none 0 0, .slice none 0 0, .slice none 0 0, .slice none 0 0], .slice none 0 0], []⟩ 8 (by kernel_rfl) (by kernel_rfl) (by kernel_rfl) (by kernel_rfl)) ?_
  intro W base args ds gs before hval0 hW hcnd _
  have hval : ∀ (j : Nat) t v, Try.f6.params[j]? = some t → args[j]? = some v → Value.okWide Try.prog W .any base t v := hval0
  have hW' := hW
  obtain ⟨p, q, hA0, hV, rfl, hfz, hnd⟩ := hW
  have hA : DataW.TrodAll enc Try.prog W 0 (fun _ => true) true Try.f6.params.toList args.toList ds p := hA0
  rw [Try.params6] at hA hval
  obtain ⟨v0, v1, d0, d1, pa, pb, rfl, rfl, hpp, h0, h1⟩ := trodAll_two hA
  obtain ⟨rfl, rfl⟩ := trodVars_none hV
  obtain ⟨cs, rfl, hcs⟩ := okWide_struct Try.underlying46 (hval 0 _ _ rfl rfl)
  obtain ⟨z0, z1, z2, rfl⟩ := okWide_slice Try.underlying44 (hval 1 _ _ rfl rfl)
  obtain ⟨fuel, hf⟩ := h0
  obtain ⟨fuel1, hf1⟩ := h1
  obtain ⟨l⟩ := cs
  simp only [Value.cells] at hf hf1
  obtain ⟨c, hr, hs⟩ := CacheD.read _ _ _ hf
  obtain ⟨ao, len, cap, rs, e1, hlen, hrd, _⟩ := rd_slice (ef := encI) (size := 1) (Q := fun _ => True) Try.underlying44 Try.cellsInt (by omega) readI hf1
  simp only [Value.slice.injEq] at e1
  obtain ⟨rfl, rfl, rfl⟩ := e1
  obtain rfl := hrd.len
  refine (lawCachePlay_any _ c _ _ rs W hr hs (by unfold maxLen at hlen; omega) hrd).mono fun e W' ⟨he, hb⟩ => ?_
  subst he
  exact ⟨_, rfl, law_post Try.laidOut rfl rfl rfl Try.underlying4 rfl (by kernel_rfl) hW' hb⟩

theorem cachePlay_holds : Rows.FnExactCachePlaySaid :=
  OpenClaim.holds_of_wide 6 Try.f6 rfl rfl rfl rfl rfl rfl rfl ⟨rfl, rfl, rfl, rfl, rfl⟩ rfl rfl rfl rfl rfl (by kernel_rfl) Try.func6 (by kernel_rfl)
    (of_decide_eq_true (by kernel_rfl)) (by unfold Func.isWrapper; rw [if_neg (of_decide_eq_false (by kernel_rfl))]; exact ⟨rfl, rfl⟩)
    (fun os started H enc _ => cachePlay_lifted os started H enc)
#print axioms cachePlay_holds
end Go.Proofs.Ytkgmilobmbeplaa
