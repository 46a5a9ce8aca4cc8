/- A part of the proof in YtdlmlagcniifjaaGreatDoorFnZ32. -/
import Derived.Deep.Slices
import Derived.ProofKit
import Derived.Test.YtdlmlagcniifjaaGreatDoorFnZ27
namespace Go.Proofs.YtdlmlagcniifjaaGreatDoor
set_option linter.unusedVariables false
set_option linter.unusedSimpArgs false
set_option maxHeartbeats 1000000
set_option maxRecDepth 100000
open Go.ChangeShapes Go.WideShapes Go.ChangeAt Go.RowKit Go.Deep
theorem Tryz.own : ownKnob Tryz.prog.godebug = none := by kernel_rfl
theorem Tryz.laidOut : laidOutB Tryz.prog = true := by kernel_rfl
section
variable {H : Type} {enc : TypeId × Value → H} {P : Program}
theorem trodAll_below (hl : laidOutB P = true) {W W' : World} (hb : Below W.heap.size W W') : ∀ (ts : List TypeId) (vs : List Value) (ds : List (DataW H)) (ps : List MemPlace),
    (∀ t ∈ ts, P.readableRec t = true ∧ t < P.types.size) → DataW.TrodAll enc P W 0 (fun _ => true) true ts vs ds ps → (∀ x ∈ ps, x.block < W.heap.size) →
    DataW.TrodAll enc P W' 0 (fun b => decide (b < W.heap.size)) true ts vs ds ps
  | [], [], [], _, _, h, _ => h
  | t :: ts, v :: vs, d :: ds, ps, ht, ⟨p, q, h1, h2, e⟩, hlt =>
    ⟨p, q, Below.trod hl (ht t (by simp)).1 (ht t (by simp)).2 h1 hb (fun x hx => hlt x (by rw [e]; exact List.mem_append_left _ hx)),
      trodAll_below hl hb ts vs ds q (fun t' h' => ht t' (by simp [h'])) h2 (fun x hx => hlt x (by rw [e]; exact List.mem_append_right _ hx)), e⟩
theorem law_post (hl : laidOutB P = true) {f : Func} {s : ChangeSpec} {apart fresh handsOn : Bool} {W W' : World} {args : Array Value} {ds : List (DataW H)} {before : List MemPlace} {tb : TypeId}
    (hvars : s.vars = []) (hrt : f.resultTypes.toList = [tb]) (hrs : f.resultTypes.size = 1) (htb : P.underlying tb = some .bool)
    (hspec : s.fn H (ds ++ []) = { results := [.lit (.bool true)], args := ds })
    (hty0 : (f.params.toList.all fun t => P.readableRec t && decide (t < P.types.size)) = true)
    (hW : DataW.Whole enc P f.params.toList s.vars apart W args.toList ds [] before) (hb : Below W.heap.size W W') :
    s.post enc P f apart fresh handsOn false W args (.bool true) W' := by
  have hW' := hW
  have hty : ∀ t ∈ f.params.toList, P.readableRec t = true ∧ t < P.types.size := fun t ht => by
    have := List.all_eq_true.1 hty0 t ht
    simpa using this
  obtain ⟨p, q, hA, hV, rfl, _, _⟩ := hW
  rw [hvars] at hV
  obtain ⟨_, rfl⟩ := trodVars_none hV
  have hlt : ∀ x ∈ p, x.block < W.heap.size := fun x hx => hW'.lt x (List.mem_append_left _ hx)
  refine ⟨ds, [], _, [], p, [], hW', ?_, ?_, ?_, hb.frame _, fun h => by cases h⟩
  · rw [hspec, hrt, hrs]
    exact trodAll_mk1 (shut_bool htb true)
  · rw [hspec]
    exact trodAll_below hl hb _ _ _ _ hty hA hlt
  · rw [hspec, hvars]
    exact rfl
theorem rd_slice {α : Type} [Inhabited α] {ef : α → List Value} {size : Nat} {Q : α → Prop} {w : World} {spare : Nat → Bool} {held : Bool} {t e : TypeId} {fuel : Nat} {c : Value} {x : DataW H × List MemPlace} (ht : P.underlying t = some (.slice e)) (hc : P.cellsOf e = size) (hsz : 0 < size)
    (hel : ∀ n cs y, DataW.trod enc P w 0 spare held n e cs = some y → ∃ a : α, cs = ef a ∧ Q a) (h : DataW.trod enc P w 0 spare held fuel t [c] = some x) :
    ∃ ao len cap xs, c = .slice ao len cap ∧ len ≤ maxLen ∧ Rd ef size w ao len xs ∧ ∀ a ∈ xs, Q a := by
  rcases open_slice ht h with ⟨hcs, _⟩ | ⟨a, len, cap, m, n, D, Pl, hcs, _, hlc, hcm, hm, _, hi⟩
  · simp only [List.cons.injEq, and_true] at hcs
    exact ⟨none, 0, 0, [], hcs, Nat.zero_le _, ⟨rfl, fun i hi => absurd hi (Nat.not_lt_zero _)⟩, by simp⟩
  · simp only [List.cons.injEq, and_true] at hcs
    have hmle : len ≤ m := by rw [hm]; split <;> omega
    have key : ∀ i, i < len → ∃ a0 : α, w.cells? 0 (a.add (i * size)) size = some (ef a0) ∧ Q a0 := by
      intro i hil
      obtain ⟨cs', h1, h2⟩ := hi i (by omega)
      obtain ⟨a0, rfl, hq⟩ := hel _ _ _ h2
      rw [hc] at h1
      exact ⟨a0, h1, hq⟩
    obtain ⟨f, hf⟩ := choose_lt key
    refine ⟨some a, len, cap, (List.range len).map f, hcs, Nat.le_trans hlc hcm, ⟨by simp, fun i hil => ?_⟩, ?_⟩
    · simp only [List.length_map, List.length_range] at hil
      obtain ⟨b, off, spot⟩ := a
      obtain ⟨h1, hq⟩ := hf i hil
      obtain ⟨_, hlen, hcell⟩ := World.cells?_some h1
      have h0 : w.cell? (((⟨b, off, spot⟩ : Addr).add (i * size)).add 0) = some ((ef (f i))[0]'(by omega)) := by
        rw [hcell 0 hsz, List.getElem?_eq_getElem (by omega)]
      have hspot : spot = none := by
        obtain ⟨h10, _⟩ := hf 0 (by omega)
        obtain ⟨_, hlen0, hcell0⟩ := World.cells?_some h10
        have h00 : w.cell? (((⟨b, off, spot⟩ : Addr).add (0 * size)).add 0) = some ((ef (f 0))[0]'(by omega)) := by
          rw [hcell0 0 hsz, List.getElem?_eq_getElem (by omega)]
        have := World.cell?_spot h00
        simpa [Addr.add] using this
      subst hspot
      refine ⟨b, off, f i, by simp [hil], rfl, ?_, fun j v hv => ?_⟩
      · have := World.block_lt_of_cell? w _ h0
        simpa [Addr.add_mid] using this
      · have hj : j < size := by have := (List.getElem?_eq_some_iff.1 hv).1; omega
        have := hcell j hj
        rw [Addr.add_mid, Addr.add_mid] at this
        rw [this, hv]
    · intro a0 ha0
      obtain ⟨i, hi', rfl⟩ := List.mem_map.1 ha0
      exact (hf i (List.mem_range.1 hi')).2
theorem fld {w : World} {spare : Nat → Bool} {held : Bool} {t : TypeId} {fs : Array Field} {n : Nat} {cs : List Value} {x : DataW H × List MemPlace} (ht : P.underlying t = some (.struct fs)) (h : DataW.trod enc P w 0 spare held n t cs = some x)
    (i : Nat) (f : Field) (hi : fs[i]? = some f) {k : Nat} (hk : P.cellsOf f.type = k) {cs' : List Value} (hc : (cs.drop f.offset).take k = cs') : ∃ m y, DataW.trod enc P w 0 spare held m f.type cs' = some y := by
  obtain ⟨xs, m, _, _, _, hx, hf⟩ := DataW.trod_struct ht h
  have h1 := hf i f hi
  have hlt : i < xs.length := by rw [hx]; exact (Array.getElem?_eq_some_iff.1 hi).1
  rw [hk, hc, List.getElem?_eq_getElem hlt] at h1
  exact ⟨m, _, h1⟩
theorem fld_int {w : World} {spare : Nat → Bool} {held : Bool} {t : TypeId} {fs : Array Field} {n : Nat} {cs : List Value} {x : DataW H × List MemPlace} (ht : P.underlying t = some (.struct fs)) (h : DataW.trod enc P w 0 spare held n t cs = some x)
    (i : Nat) (f : Field) (hi : fs[i]? = some f) (hk : P.cellsOf f.type = 1) (hu : P.underlying f.type = some (.int .i64)) {c : Value} (hc : (cs.drop f.offset).take 1 = [c]) : ∃ a : Int, c = .int .i64 a ∧ -9223372036854775808 ≤ a ∧ a ≤ 9223372036854775807 := by
  obtain ⟨m, y, h1⟩ := fld ht h i f hi hk hc
  obtain ⟨a, e, _, hw⟩ := DataW.trod_int hu h1
  simp [Lit.wf, IntKind.min, IntKind.max, IntKind.signed, IntKind.bits] at hw
  exact ⟨a, by simpa using e, by omega, by omega⟩
theorem fld_bool {w : World} {spare : Nat → Bool} {held : Bool} {t : TypeId} {fs : Array Field} {n : Nat} {cs : List Value} {x : DataW H × List MemPlace} (ht : P.underlying t = some (.struct fs)) (h : DataW.trod enc P w 0 spare held n t cs = some x)
    (i : Nat) (f : Field) (hi : fs[i]? = some f) (hk : P.cellsOf f.type = 1) (hu : P.underlying f.type = some .bool) {c : Value} (hc : (cs.drop f.offset).take 1 = [c]) : ∃ a : Bool, c = .bool a := by
  obtain ⟨m, y, h1⟩ := fld ht h i f hi hk hc
  obtain ⟨a, e, _⟩ := DataW.trod_bool hu h1
  exact ⟨a, by simpa using e⟩
end
theorem trod_len {H : Type} {enc : TypeId × Value → H} {P : Program} {w : World} {spare : Nat → Bool} {held : Bool} {t : TypeId} {fs : Array Field} {n : Nat} {cs : List Value} {x : DataW H × List MemPlace} (ht : P.underlying t = some (.struct fs)) (h : DataW.trod enc P w 0 spare held n t cs = some x) {k : Nat} (hk : P.cellsOf t = k) : cs.length = k := by
  obtain ⟨xs, m, _, _, hl, _⟩ := DataW.trod_struct ht h
  exact hl.trans hk
theorem list5 {α : Type} {l : List α} (h : l.length = 5) : ∃ a b c d e, l = [a, b, c, d, e] := by
  match l, h with
  | [a, b, c, d, e], _ => exact ⟨a, b, c, d, e, rfl⟩
theorem list8 {α : Type} {l : List α} (h : l.length = 8) : ∃ a b c d e f g i, l = [a, b, c, d, e, f, g, i] := by
  match l, h with
  | [a, b, c, d, e, f, g, i], _ => exact ⟨a, b, c, d, e, f, g, i, rfl⟩
theorem Tryz.cellsInt : Tryz.prog.cellsOf 3 = 1 := by kernel_rfl
theorem Tryz.cellsString : Tryz.prog.cellsOf 9 = 1 := by kernel_rfl
theorem Tryz.cellsBool : Tryz.prog.cellsOf 4 = 1 := by kernel_rfl
open Go.ChangeShapes Go.WideShapes Go.ChangeAt Go.RowKit Go.Deep
instance : Inhabited PtrD := ⟨⟨0, 0, 0, 0, 0⟩⟩
theorem Tryz.cellsPtr : Tryz.prog.cellsOf 45 = 5 := by kernel_rfl
theorem Tryz.cellsPtrS : Tryz.prog.cellsOf 26 = 1 := by kernel_rfl
theorem Tryz.cellsStringS : Tryz.prog.cellsOf 22 = 1 := by kernel_rfl
theorem Tryz.cellsIntS : Tryz.prog.cellsOf 23 = 1 := by kernel_rfl
theorem Tryz.cellsSpace : Tryz.prog.cellsOf 25 = 2 := by kernel_rfl
theorem Tryz.cellsStore : Tryz.prog.cellsOf 28 = 8 := by kernel_rfl
section
variable {H : Type} {enc : TypeId × Value → H} {w : World} {spare : Nat → Bool} {held : Bool}
theorem PtrD.read (n : Nat) (cs : List Value) (y : DataW H × List MemPlace) (h : DataW.trod enc Tryz.prog w 0 spare held n 45 cs = some y) : ∃ a : PtrD, cs = a.cells ∧ True := by
  obtain ⟨c0, c1, c2, c3, c4, rfl⟩ := list5 (trod_len Tryz.underlying45 h Tryz.cellsPtr)
  obtain ⟨a0, rfl, _⟩ := fld_int Tryz.underlying45 h 0 _ rfl Tryz.cellsInt Tryz.underlying3 rfl
  obtain ⟨a1, rfl, _⟩ := fld_int Tryz.underlying45 h 1 _ rfl Tryz.cellsInt Tryz.underlying3 rfl
  obtain ⟨a2, rfl, _⟩ := fld_int Tryz.underlying45 h 2 _ rfl Tryz.cellsInt Tryz.underlying3 rfl
  obtain ⟨a3, rfl, _⟩ := fld_int Tryz.underlying45 h 3 _ rfl Tryz.cellsInt Tryz.underlying3 rfl
  obtain ⟨a4, rfl, _⟩ := fld_int Tryz.underlying45 h 4 _ rfl Tryz.cellsInt Tryz.underlying3 rfl
  exact ⟨⟨a0, a1, a2, a3, a4⟩, rfl, trivial⟩
theorem read_int (n : Nat) (cs : List Value) (y : DataW H × List MemPlace) (h : DataW.trod enc Tryz.prog w 0 spare held n 3 cs = some y) : ∃ a : Int, cs = encI a ∧ (-9223372036854775808 ≤ a ∧ a ≤ 9223372036854775807) := by
  obtain ⟨a, e, _, hw⟩ := DataW.trod_int Tryz.underlying3 h
  simp [Lit.wf, IntKind.min, IntKind.max, IntKind.signed, IntKind.bits] at hw
  exact ⟨a, e, by omega, by omega⟩
theorem read_string (n : Nat) (cs : List Value) (y : DataW H × List MemPlace) (h : DataW.trod enc Tryz.prog w 0 spare held n 9 cs = some y) : ∃ a : ByteArray, cs = encS a ∧ a.size ≤ 9223372036854775807 := by
  obtain ⟨a, e, _, hw⟩ := DataW.trod_string Tryz.underlying9 h
  exact ⟨a, e, by unfold maxLen at hw; omega⟩
theorem StoreD.read (n : Nat) (cs : List Value) (y : DataW H × List MemPlace) (h : DataW.trod enc Tryz.prog w 0 spare held n 28 cs = some y) : ∃ a : StoreD, StoreD.Reads w (.agg cs.toArray) a ∧ a.Small ∧ -9223372036854775808 ≤ a.fTxg := by
  obtain ⟨c0, c1, c2, c3, c4, c5, c6, c7, rfl⟩ := list8 (trod_len Tryz.underlying28 h Tryz.cellsStore)
  obtain ⟨m0, y0, h0⟩ := fld Tryz.underlying28 h 0 _ rfl Tryz.cellsStringS (cs' := [c0]) rfl
  obtain ⟨ms, ys, hs⟩ := fld Tryz.underlying28 h 1 _ rfl Tryz.cellsSpace (cs' := [c1, c2]) rfl
  obtain ⟨m1, y1, h1⟩ := fld Tryz.underlying25 hs 0 _ rfl Tryz.cellsIntS (cs' := [c1]) rfl
  obtain ⟨m2, y2, h2⟩ := fld Tryz.underlying25 hs 1 _ rfl Tryz.cellsIntS (cs' := [c2]) rfl
  obtain ⟨t, rfl, ht, _⟩ := fld_int Tryz.underlying28 h 2 _ rfl Tryz.cellsInt Tryz.underlying3 (c := c3) rfl
  obtain ⟨m4, y4, h4⟩ := fld Tryz.underlying28 h 3 _ rfl Tryz.cellsPtrS (cs' := [c4]) rfl
  obtain ⟨k, rfl, _⟩ := fld_int Tryz.underlying28 h 4 _ rfl Tryz.cellsInt Tryz.underlying3 (c := c5) rfl
  obtain ⟨m6, y6, h6⟩ := fld Tryz.underlying28 h 5 _ rfl Tryz.cellsPtrS (cs' := [c6]) rfl
  obtain ⟨b, rfl⟩ := fld_bool Tryz.underlying28 h 6 _ rfl Tryz.cellsBool Tryz.underlying4 (c := c7) rfl
  obtain ⟨a0, l0, k0, x0, rfl, b0, r0, q0⟩ := rd_slice (ef := encS) (size := 1) (Q := fun a => a.size ≤ 9223372036854775807) Tryz.underlying22 Tryz.cellsString (by omega) read_string h0
  obtain ⟨a1, l1, k1, x1, rfl, b1, r1, _⟩ := rd_slice (ef := encI) (size := 1) (Q := fun a => -9223372036854775808 ≤ a ∧ a ≤ 9223372036854775807) Tryz.underlying23 Tryz.cellsInt (by omega) read_int h1
  obtain ⟨a2, l2, k2, x2, rfl, b2, r2, _⟩ := rd_slice (ef := encI) (size := 1) (Q := fun a => -9223372036854775808 ≤ a ∧ a ≤ 9223372036854775807) Tryz.underlying23 Tryz.cellsInt (by omega) read_int h2
  obtain ⟨a4, l4, k4, x4, rfl, b4, r4, _⟩ := rd_slice (ef := PtrD.cells) (size := 5) (Q := fun _ => True) Tryz.underlying26 Tryz.cellsPtr (by omega) PtrD.read h4
  obtain ⟨a6, l6, k6, x6, rfl, b6, r6, _⟩ := rd_slice (ef := PtrD.cells) (size := 5) (Q := fun _ => True) Tryz.underlying26 Tryz.cellsPtr (by omega) PtrD.read h6
  unfold maxLen at b0 b1 b2 b4 b6
  obtain rfl := r0.len
  obtain rfl := r1.len
  obtain rfl := r2.len
  obtain rfl := r4.len
  obtain rfl := r6.len
  exact ⟨⟨x0, ⟨x1, x2⟩, t, x4, k, x6, b⟩, ⟨a0, k0, a1, k1, a2, k2, a4, k4, a6, k6, rfl, r0, r1, r2, r4, r6⟩, ⟨by show x0.length ≤ _; omega, q0, by show x1.length ≤ _; omega, by show x2.length ≤ _; omega, by show x4.length ≤ _; omega, by show x6.length ≤ _; omega⟩, ht⟩
end
end Go.Proofs.YtdlmlagcniifjaaGreatDoor
