/- FnExactTaleSame: for every pair of tales the law returns true and its arguments read behind the call as before. No condition. -/
import Derived.Test.YtkgmilobmbeplaaTaleLaw
import Derived.Test.YtkgmilobmbeplaaRead
namespace Go.Proofs.Ytkgmilobmbeplaa
open Go.ChangeShapes Go.WideShapes Go.ChangeAt Go.RowKit Go.Deep

instance : Inhabited FoundD := ⟨⟨ByteArray.empty, 0⟩⟩
instance : Inhabited ThingD := ⟨⟨0, false, ByteArray.empty⟩⟩
instance : Inhabited (C5 × ToldD) := ⟨⟨[undef, undef, undef, undef, undef], rfl⟩, ⟨ByteArray.empty, ByteArray.empty, 0, ⟨[], []⟩⟩⟩
theorem Try.cellsFound : Try.prog.cellsOf 178 = 2 := by kernel_rfl
theorem Try.cellsThing : Try.prog.cellsOf 180 = 3 := by kernel_rfl
theorem Try.cellsFlat : Try.prog.cellsOf 133 = 2 := by kernel_rfl
theorem Try.cellsTold : Try.prog.cellsOf 135 = 5 := by kernel_rfl
theorem Try.cellsTale : Try.prog.cellsOf 36 = 2 := by kernel_rfl
theorem Try.cellsFoundS : Try.prog.cellsOf 130 = 1 := by kernel_rfl
theorem Try.cellsThingS : Try.prog.cellsOf 131 = 1 := by kernel_rfl
theorem Try.cellsToldS : Try.prog.cellsOf 34 = 1 := by kernel_rfl
section
variable {H : Type} {enc : TypeId × Value → H} {w : World} {spare : Nat → Bool} {held : Bool}
theorem FoundD.read (n : Nat) (cs : List Value) (y : DataW H × List MemPlace) (h : DataW.trod enc Try.prog w 0 spare held n 178 cs = some y) : ∃ a : FoundD, cs = a.cells ∧ a.fPath.size ≤ 9223372036854775807 := by
  obtain ⟨c0, c1, rfl⟩ := list2 (trod_len Try.underlying178 h Try.cellsFound)
  obtain ⟨a0, rfl, h0⟩ := fld_string Try.underlying178 h 0 _ rfl Try.cellsString Try.underlying9 rfl
  obtain ⟨a1, rfl, _⟩ := fld_int Try.underlying178 h 1 _ rfl Try.cellsInt Try.underlying3 rfl
  exact ⟨⟨a0, a1⟩, rfl, h0⟩
theorem ThingD.read (n : Nat) (cs : List Value) (y : DataW H × List MemPlace) (h : DataW.trod enc Try.prog w 0 spare held n 180 cs = some y) : ∃ a : ThingD, cs = a.cells ∧ a.fText.size ≤ 9223372036854775807 := by
  obtain ⟨c0, c1, c2, rfl⟩ := list3 (trod_len Try.underlying180 h Try.cellsThing)
  obtain ⟨a0, rfl, _⟩ := fld_int Try.underlying180 h 0 _ rfl Try.cellsInt Try.underlying3 rfl
  obtain ⟨a1, rfl⟩ := fld_bool Try.underlying180 h 1 _ rfl Try.cellsBool Try.underlying4 rfl
  obtain ⟨a2, rfl, h2⟩ := fld_string Try.underlying180 h 2 _ rfl Try.cellsString Try.underlying9 rfl
  exact ⟨⟨a0, a1, a2⟩, rfl, h2⟩
theorem ToldD.read (n : Nat) (cs : List Value) (y : DataW H × List MemPlace) (h : DataW.trod enc Try.prog w 0 spare held n 135 cs = some y) : ∃ a : C5 × ToldD, cs = a.1.enc ∧ (ToldD.Reads w (.agg a.1.enc.toArray) a.2 ∧ a.2.Small) := by
  obtain ⟨c0, c1, c2, c3, c4, rfl⟩ := list5 (trod_len Try.underlying135 h Try.cellsTold)
  obtain ⟨a0, rfl, h0⟩ := fld_string Try.underlying135 h 0 _ rfl Try.cellsString Try.underlying9 (c := c0) rfl
  obtain ⟨a1, rfl, h1⟩ := fld_string Try.underlying135 h 1 _ rfl Try.cellsString Try.underlying9 (c := c1) rfl
  obtain ⟨a2, rfl, _⟩ := fld_int Try.underlying135 h 2 _ rfl Try.cellsInt Try.underlying3 (c := c2) rfl
  obtain ⟨mf, yf, hf⟩ := fld Try.underlying135 h 3 _ rfl Try.cellsFlat (cs' := [c3, c4]) rfl
  obtain ⟨m3, y3, h3⟩ := fld Try.underlying133 hf 0 _ rfl Try.cellsFoundS (cs' := [c3]) rfl
  obtain ⟨m4, y4, h4⟩ := fld Try.underlying133 hf 1 _ rfl Try.cellsThingS (cs' := [c4]) rfl
  obtain ⟨p3, l3, k3, x3, rfl, b3, r3, q3⟩ := rd_slice (ef := FoundD.cells) (size := 2) (Q := fun a => a.fPath.size ≤ 9223372036854775807) Try.underlying130 Try.cellsFound (by omega) FoundD.read h3
  obtain ⟨p4, l4, k4, x4, rfl, b4, r4, q4⟩ := rd_slice (ef := ThingD.cells) (size := 3) (Q := fun a => a.fText.size ≤ 9223372036854775807) Try.underlying131 Try.cellsThing (by omega) ThingD.read h4
  unfold maxLen at b3 b4
  obtain rfl := r3.len
  obtain rfl := r4.len
  exact ⟨(⟨_, rfl⟩, ⟨a0, a1, a2, ⟨x3, x4⟩⟩), rfl, ⟨p3, k3, p4, k4, rfl, r3, r4⟩, ⟨h0, h1, by show x3.length ≤ _; omega, q3, by show x4.length ≤ _; omega, q4⟩⟩
theorem toldRd_of {ao : Option Addr} {len : Nat} {rs : List (C5 × ToldD)} (h : Rd (fun a : C5 × ToldD => a.1.enc) 5 w ao len rs) (hq : ∀ a ∈ rs, ToldD.Reads w (.agg a.1.enc.toArray) a.2 ∧ a.2.Small) : ToldRd w ao len (rs.map (·.2)) :=
  ⟨by rw [List.length_map]; exact h.len, fun i hi => by
    obtain ⟨b, off, r, hr, e, hb, hg⟩ := h.at_ i (by simpa using hi)
    exact ⟨b, off, r.2, r.1.enc, by simp [hr], e, hb, hg, (hq r (List.mem_of_getElem? hr)).1⟩⟩
theorem TaleD.read (n : Nat) (cs : List Value) (y : DataW H × List MemPlace) (h : DataW.trod enc Try.prog w 0 spare held n 36 cs = some y) : ∃ a : TaleD, TaleD.Reads w (.agg cs.toArray) a ∧ a.Small := by
  obtain ⟨c0, c1, rfl⟩ := list2 (trod_len Try.underlying36 h Try.cellsTale)
  obtain ⟨m0, y0, h0⟩ := fld Try.underlying36 h 0 _ rfl Try.cellsToldS (cs' := [c0]) rfl
  obtain ⟨m1, y1, h1⟩ := fld Try.underlying36 h 1 _ rfl Try.cellsToldS (cs' := [c1]) rfl
  obtain ⟨p0, l0, k0, x0, rfl, b0, r0, q0⟩ := rd_slice (ef := fun a : C5 × ToldD => a.1.enc) (size := 5) (Q := fun a => ToldD.Reads w (.agg a.1.enc.toArray) a.2 ∧ a.2.Small) Try.underlying34 Try.cellsTold (by omega) ToldD.read h0
  obtain ⟨p1, l1, k1, x1, rfl, b1, r1, q1⟩ := rd_slice (ef := fun a : C5 × ToldD => a.1.enc) (size := 5) (Q := fun a => ToldD.Reads w (.agg a.1.enc.toArray) a.2 ∧ a.2.Small) Try.underlying34 Try.cellsTold (by omega) ToldD.read h1
  unfold maxLen at b0 b1
  have t0 := toldRd_of r0 q0
  have t1 := toldRd_of r1 q1
  obtain rfl := t0.len
  obtain rfl := t1.len
  refine ⟨⟨x0.map (·.2), x1.map (·.2)⟩, ⟨p0, k0, p1, k1, rfl, t0, t1⟩, ⟨by show (x0.map (·.2)).length ≤ _; omega, by show (x1.map (·.2)).length ≤ _; omega, fun e he => ?_, fun e he => ?_⟩⟩
  · obtain ⟨r, hr, rfl⟩ := List.mem_map.1 he
    exact (q0 r hr).2
  · obtain ⟨r, hr, rfl⟩ := List.mem_map.1 he
    exact (q1 r hr).2
end

set_option maxRecDepth 100000 in
theorem taleSame_lifted (os : Os) (started : os.Started) (H : Type) (enc : TypeId × Value → H) :
    ReturnsInHanded {} Try.checked os 5 .any (Rows.fnExactTaleSameSpec.pre6 enc Try.prog Try.f5 Rows.fnExactTaleSameRow.domain false) (Rows.fnExactTaleSameSpec.post enc Try.prog Try.f5 false true false false) := by
  refine returnsInHanded_of_change (C := Try.checked) Try.own started (by kernel_rfl) Try.func5
    (ChangeSpec.witness6 (enc := enc) (C := Try.checked) false ⟨#[], #[.agg #[.slice none 0 0, .slice none 0 0], .agg #[.slice none 0 0, .slice none 0 0]], []⟩ 8 (by kernel_rfl) (by kernel_rfl) (by kernel_rfl) (by kernel_rfl)) ?_
  intro W base args ds gs before hval0 hW hcnd _
  have hval : ∀ (j : Nat) t v, Try.f5.params[j]? = some t → args[j]? = some v → Value.okWide Try.prog W .any base t v := hval0
  have hW' := hW
  obtain ⟨p, q, hA0, hV, rfl, hfz, hnd⟩ := hW
  have hA : DataW.TrodAll enc Try.prog W 0 (fun _ => true) true Try.f5.params.toList args.toList ds p := hA0
  rw [Try.params5] at hA hval
  obtain ⟨v0, v1, d0, d1, pa, pb, rfl, rfl, hpp, h0, h1⟩ := trodAll_two hA
  obtain ⟨rfl, rfl⟩ := trodVars_none hV
  obtain ⟨cs, rfl, hcs⟩ := okWide_struct Try.underlying36 (hval 0 _ _ rfl rfl)
  obtain ⟨ds1, rfl, hds⟩ := okWide_struct Try.underlying36 (hval 1 _ _ rfl rfl)
  obtain ⟨fuel, hf⟩ := h0
  obtain ⟨fuel1, hf1⟩ := h1
  obtain ⟨l1⟩ := ds1
  obtain ⟨l⟩ := cs
  simp only [Value.cells] at hf hf1
  obtain ⟨x, hr, hs⟩ := TaleD.read _ _ _ hf
  obtain ⟨y, hr2, hs2⟩ := TaleD.read _ _ _ hf1
  refine (lawTaleSame_any _ _ x y W hr hs hr2 hs2).mono fun e W' ⟨he, hb⟩ => ?_
  subst he
  exact ⟨_, rfl, law_post Try.laidOut rfl rfl rfl Try.underlying4 rfl (by kernel_rfl) hW' hb⟩

theorem taleSame_holds : Rows.FnExactTaleSameSaid :=
  OpenClaim.holds_of_wide 5 Try.f5 rfl rfl rfl rfl rfl rfl rfl ⟨rfl, rfl, rfl, rfl, rfl⟩ rfl rfl rfl rfl rfl (by kernel_rfl) Try.func5 (by kernel_rfl)
    (of_decide_eq_true (by kernel_rfl)) (by unfold Func.isWrapper; rw [if_neg (of_decide_eq_false (by kernel_rfl))]; exact ⟨rfl, rfl⟩)
    (fun os started H enc _ => taleSame_lifted os started H enc)
#print axioms taleSame_holds
end Go.Proofs.Ytkgmilobmbeplaa
