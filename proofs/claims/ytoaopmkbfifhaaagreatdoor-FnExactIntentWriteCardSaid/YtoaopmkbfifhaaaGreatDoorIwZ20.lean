/- A part of the proof in YtoaopmkbfifhaaaGreatDoorIwZ22. -/
import Derived.ArgAppend
import Derived.BigQuiet
import Derived.BigRegion
import Derived.Deep.AppendLies
import Derived.Deep.MidRow
import Derived.Deep.Quiet
import Derived.Deep.QuietTactic
import Derived.Deep.RegionHeld3
import Derived.Deep.RegionWith
import Derived.Deep.Slices
import Derived.IntWalk
import Derived.Laws.BytesArg
import Derived.Laws.RangeAny
import Derived.Lib.AppendIntMem
import Derived.Lib.Hide
import Derived.Lib.IndexBytes
import Derived.Lib.IndexLaws
import Derived.Lib.ItoaNum
import Derived.Lib.Join
import Derived.Lib.LazyBuf
import Derived.Lib.SlBytesConst
import Derived.Lib.Split
import Derived.Lib.SplitLaws
import Derived.LoopIn
import Derived.LoopN
import Derived.LoopNIn
import Derived.Orders
import Derived.OrdersHeld
import Derived.OwnWalkIn
import Derived.ProofKit
import Derived.RangeFuncLeaves
import Derived.RangeFuncNested
import Derived.Shelf.Abstract
import Derived.Shelf.GgClosure.StringsIndexFunc
import Derived.Shelf.Small.Wraps
import Derived.Shelf.Strconv.Itoa3
import Derived.Shelf.Strings.BuilderF
import Derived.Shelf.Strings.BuilderK
import Derived.Shelf.Strings.FuncGrows
import Derived.Shelf.Strings.OnBuilder
import Derived.Shelf.Strings.Split
import Derived.Shelf.Strings.SplitShaped
import Derived.Shelf.Vars
import Derived.Still
import Derived.StillTail
import Derived.StillTailTactics
import Derived.TacticsInMore
import Derived.Test.YtoaopmkbfifhaaaGreatDoorRows
import Derived.WalkKit
import Derived.WalkLawsBesides
import Derived.WalkSpells
import Derived.Test.YtoaopmkbfifhaaaGreatDoorIwZ19
/- From a law's arguments, read as data, to rows in memory; and back to the row's close: nothing that was there has turned. -/
namespace Go.Proofs.YtoaopmkbfifhaaaGreatDoor
set_option linter.unusedVariables false
set_option linter.unusedSimpArgs false
set_option maxHeartbeats 1000000
set_option maxRecDepth 100000
open Go.ChangeShapes Go.WideShapes Go.ChangeAt Go.RowKit Go.Deep

theorem Tryz.own : ownKnob Tryz.prog.godebug = none := by kernel_rfl
theorem Tryz.laidOut : laidOutB Tryz.prog = true := by kernel_rfl

section
variable {H : Type} {enc : TypeId × Value → H} {P : Program}

/-- All arguments read behind the call as they did. -/
theorem trodAll_below (hl : laidOutB P = true) {W W' : World} (hb : Below W.heap.size W W') : ∀ (ts : List TypeId) (vs : List Value) (ds : List (DataW H)) (ps : List MemPlace),
    (∀ t ∈ ts, P.readableRec t = true ∧ t < P.types.size) → DataW.TrodAll enc P W 0 (fun _ => true) true ts vs ds ps → (∀ x ∈ ps, x.block < W.heap.size) →
    DataW.TrodAll enc P W' 0 (fun b => decide (b < W.heap.size)) true ts vs ds ps
  | [], [], [], _, _, h, _ => h
  | t :: ts, v :: vs, d :: ds, ps, ht, ⟨p, q, h1, h2, e⟩, hlt =>
    ⟨p, q, Below.trod hl (ht t (by simp)).1 (ht t (by simp)).2 h1 hb (fun x hx => hlt x (by rw [e]; exact List.mem_append_left _ hx)),
      trodAll_below hl hb ts vs ds q (fun t' h' => ht t' (by simp [h'])) h2 (fun x hx => hlt x (by rw [e]; exact List.mem_append_right _ hx)), e⟩

/-- THE CLOSE OF A LAW's ROW: true came back, and of what was there nothing has turned. -/
theorem law_post (hl : laidOutB P = true) {f : Func} {s : ChangeSpec} {apart fresh handsOn : Bool} {W W' : World} {args : Array Value} {ds : List (DataW H)} {before : List MemPlace} {tb : TypeId}
    (hvars : s.vars = []) (hrt : f.resultTypes.toList = [tb]) (hrs : f.resultTypes.size = 1) (htb : P.underlying tb = some .bool)
    (hspec : s.fn H (ds ++ []) = { results := [.lit (.bool true)], args := ds })
    (hty0 : (f.params.toList.all fun t => P.readableRec t && decide (t < P.types.size)) = true)
    (hW : DataW.Whole enc P f.params.toList s.vars apart W args.toList ds [] before) (hb : Below W.heap.size W W') :
    s.post enc P f apart fresh handsOn false W args (.bool true) W' := by
  have hW' := hW
  have hty : ∀ t ∈ f.params.toList, P.readableRec t = true ∧ t < P.types.size := fun t ht => by
    have := List.all_eq_true.1 hty0 t ht
    simpa using this
  obtain ⟨p, q, hA, hV, rfl, _, _⟩ := hW
  rw [hvars] at hV
  obtain ⟨_, rfl⟩ := trodVars_none hV
  have hlt : ∀ x ∈ p, x.block < W.heap.size := fun x hx => hW'.lt x (List.mem_append_left _ hx)
  refine ⟨ds, [], _, [], p, [], hW', ?_, ?_, ?_, hb.frame _, fun h => by cases h⟩
  · rw [hspec, hrt, hrs]
    exact trodAll_mk1 (shut_bool htb true)
  · rw [hspec]
    exact trodAll_below hl hb _ _ _ _ hty hA hlt
  · rw [hspec, hvars]
    exact rfl

/-- A slice that came in, opened: its elements lie in memory and are of the form that is asked. -/
theorem rd_slice {α : Type} [Inhabited α] {ef : α → List Value} {size : Nat} {Q : α → Prop} {w : World} {spare : Nat → Bool} {held : Bool} {t e : TypeId} {fuel : Nat} {c : Value} {x : DataW H × List MemPlace} (ht : P.underlying t = some (.slice e)) (hc : P.cellsOf e = size) (hsz : 0 < size)
    (hel : ∀ n cs y, DataW.trod enc P w 0 spare held n e cs = some y → ∃ a : α, cs = ef a ∧ Q a) (h : DataW.trod enc P w 0 spare held fuel t [c] = some x) :
    ∃ ao len cap xs, c = .slice ao len cap ∧ len ≤ maxLen ∧ Rd ef size w ao len xs ∧ ∀ a ∈ xs, Q a := by
  rcases open_slice ht h with ⟨hcs, _⟩ | ⟨a, len, cap, m, n, D, Pl, hcs, _, hlc, hcm, hm, _, hi⟩
  · simp only [List.cons.injEq, and_true] at hcs
    exact ⟨none, 0, 0, [], hcs, Nat.zero_le _, ⟨rfl, fun i hi => absurd hi (Nat.not_lt_zero _)⟩, by simp⟩
  · simp only [List.cons.injEq, and_true] at hcs
    have hmle : len ≤ m := by rw [hm]; split <;> omega
    have key : ∀ i, i < len → ∃ a0 : α, w.cells? 0 (a.add (i * size)) size = some (ef a0) ∧ Q a0 := by
      intro i hil
      obtain ⟨cs', h1, h2⟩ := hi i (by omega)
      obtain ⟨a0, rfl, hq⟩ := hel _ _ _ h2
      rw [hc] at h1
      exact ⟨a0, h1, hq⟩
    obtain ⟨f, hf⟩ := choose_lt key
    refine ⟨some a, len, cap, (List.range len).map f, hcs, Nat.le_trans hlc hcm, ⟨by simp, fun i hil => ?_⟩, ?_⟩
    · simp only [List.length_map, List.length_range] at hil
      obtain ⟨b, off, spot⟩ := a
      obtain ⟨h1, hq⟩ := hf i hil
      obtain ⟨_, hlen, hcell⟩ := World.cells?_some h1
      have h0 : w.cell? (((⟨b, off, spot⟩ : Addr).add (i * size)).add 0) = some ((ef (f i))[0]'(by omega)) := by
        rw [hcell 0 hsz, List.getElem?_eq_getElem (by omega)]
      have hspot : spot = none := by
        obtain ⟨h10, _⟩ := hf 0 (by omega)
        obtain ⟨_, hlen0, hcell0⟩ := World.cells?_some h10
        have h00 : w.cell? (((⟨b, off, spot⟩ : Addr).add (0 * size)).add 0) = some ((ef (f 0))[0]'(by omega)) := by
          rw [hcell0 0 hsz, List.getElem?_eq_getElem (by omega)]
        have := World.cell?_spot h00
        simpa [Addr.add] using this
      subst hspot
      refine ⟨b, off, f i, by simp [hil], rfl, ?_, fun j v hv => ?_⟩
      · have := World.block_lt_of_cell? w _ h0
        simpa [Addr.add_mid] using this
      · have hj : j < size := by have := (List.getElem?_eq_some_iff.1 hv).1; omega
        have := hcell j hj
        rw [Addr.add_mid, Addr.add_mid] at this
        rw [this, hv]
    · intro a0 ha0
      obtain ⟨i, hi', rfl⟩ := List.mem_map.1 ha0
      exact (hf i (List.mem_range.1 hi')).2

/-- A field of a struct that was read: its own cells read. -/
theorem fld {w : World} {spare : Nat → Bool} {held : Bool} {t : TypeId} {fs : Array Field} {n : Nat} {cs : List Value} {x : DataW H × List MemPlace} (ht : P.underlying t = some (.struct fs)) (h : DataW.trod enc P w 0 spare held n t cs = some x)
    (i : Nat) (f : Field) (hi : fs[i]? = some f) {k : Nat} (hk : P.cellsOf f.type = k) {cs' : List Value} (hc : (cs.drop f.offset).take k = cs') : ∃ m y, DataW.trod enc P w 0 spare held m f.type cs' = some y := by
  obtain ⟨xs, m, _, _, _, hx, hf⟩ := DataW.trod_struct ht h
  have h1 := hf i f hi
  have hlt : i < xs.length := by rw [hx]; exact (Array.getElem?_eq_some_iff.1 hi).1
  rw [hk, hc, List.getElem?_eq_getElem hlt] at h1
  exact ⟨m, _, h1⟩
theorem fld_int {w : World} {spare : Nat → Bool} {held : Bool} {t : TypeId} {fs : Array Field} {n : Nat} {cs : List Value} {x : DataW H × List MemPlace} (ht : P.underlying t = some (.struct fs)) (h : DataW.trod enc P w 0 spare held n t cs = some x)
    (i : Nat) (f : Field) (hi : fs[i]? = some f) (hk : P.cellsOf f.type = 1) (hu : P.underlying f.type = some (.int .i64)) {c : Value} (hc : (cs.drop f.offset).take 1 = [c]) : ∃ a : Int, c = .int .i64 a ∧ -9223372036854775808 ≤ a ∧ a ≤ 9223372036854775807 := by
  obtain ⟨m, y, h1⟩ := fld ht h i f hi hk hc
  obtain ⟨a, e, _, hw⟩ := DataW.trod_int hu h1
  simp [Lit.wf, IntKind.min, IntKind.max, IntKind.signed, IntKind.bits] at hw
  exact ⟨a, by simpa using e, by omega, by omega⟩
theorem fld_string {w : World} {spare : Nat → Bool} {held : Bool} {t : TypeId} {fs : Array Field} {n : Nat} {cs : List Value} {x : DataW H × List MemPlace} (ht : P.underlying t = some (.struct fs)) (h : DataW.trod enc P w 0 spare held n t cs = some x)
    (i : Nat) (f : Field) (hi : fs[i]? = some f) (hk : P.cellsOf f.type = 1) (hu : P.underlying f.type = some .string) {c : Value} (hc : (cs.drop f.offset).take 1 = [c]) : ∃ a : ByteArray, c = .string a ∧ a.size ≤ 9223372036854775807 := by
  obtain ⟨m, y, h1⟩ := fld ht h i f hi hk hc
  obtain ⟨a, e, _, hw⟩ := DataW.trod_string hu h1
  exact ⟨a, by simpa using e, by unfold maxLen at hw; omega⟩
theorem fld_bool {w : World} {spare : Nat → Bool} {held : Bool} {t : TypeId} {fs : Array Field} {n : Nat} {cs : List Value} {x : DataW H × List MemPlace} (ht : P.underlying t = some (.struct fs)) (h : DataW.trod enc P w 0 spare held n t cs = some x)
    (i : Nat) (f : Field) (hi : fs[i]? = some f) (hk : P.cellsOf f.type = 1) (hu : P.underlying f.type = some .bool) {c : Value} (hc : (cs.drop f.offset).take 1 = [c]) : ∃ a : Bool, c = .bool a := by
  obtain ⟨m, y, h1⟩ := fld ht h i f hi hk hc
  obtain ⟨a, e, _⟩ := DataW.trod_bool hu h1
  exact ⟨a, by simpa using e⟩
end

theorem trod_len {H : Type} {enc : TypeId × Value → H} {P : Program} {w : World} {spare : Nat → Bool} {held : Bool} {t : TypeId} {fs : Array Field} {n : Nat} {cs : List Value} {x : DataW H × List MemPlace} (ht : P.underlying t = some (.struct fs)) (h : DataW.trod enc P w 0 spare held n t cs = some x) {k : Nat} (hk : P.cellsOf t = k) : cs.length = k := by
  obtain ⟨xs, m, _, _, hl, _⟩ := DataW.trod_struct ht h
  exact hl.trans hk

theorem list2 {α : Type} {l : List α} (h : l.length = 2) : ∃ a b, l = [a, b] := by
  match l, h with
  | [a, b], _ => exact ⟨a, b, rfl⟩
theorem list3 {α : Type} {l : List α} (h : l.length = 3) : ∃ a b c, l = [a, b, c] := by
  match l, h with
  | [a, b, c], _ => exact ⟨a, b, c, rfl⟩
theorem list5 {α : Type} {l : List α} (h : l.length = 5) : ∃ a b c d e, l = [a, b, c, d, e] := by
  match l, h with
  | [a, b, c, d, e], _ => exact ⟨a, b, c, d, e, rfl⟩
theorem Tryz.cellsInt : Tryz.prog.cellsOf 3 = 1 := by kernel_rfl
theorem Tryz.cellsString : Tryz.prog.cellsOf 9 = 1 := by kernel_rfl
theorem Tryz.cellsBool : Tryz.prog.cellsOf 4 = 1 := by kernel_rfl
end Go.Proofs.YtoaopmkbfifhaaaGreatDoor

/- A set of disks that came in as a law's argument, read. -/
namespace Go.Proofs.YtoaopmkbfifhaaaGreatDoor
set_option linter.unusedVariables false
set_option linter.unusedSimpArgs false
set_option maxHeartbeats 1000000
set_option maxRecDepth 100000
open Go.ChangeShapes Go.WideShapes Go.ChangeAt Go.RowKit Go.Deep

theorem Tryz.cellsWait : Tryz.prog.cellsOf 175 = 2 := by kernel_rfl
theorem Tryz.cellsWaitS : Tryz.prog.cellsOf 102 = 1 := by kernel_rfl
theorem Tryz.cellsTextS : Tryz.prog.cellsOf 91 = 1 := by kernel_rfl
theorem Tryz.cellsDisk : Tryz.prog.cellsOf 104 = 3 := by kernel_rfl
theorem Tryz.cellsDiskS : Tryz.prog.cellsOf 22 = 1 := by kernel_rfl
theorem Tryz.cellsRaid : Tryz.prog.cellsOf 24 = 1 := by kernel_rfl
theorem list1 {α : Type} {l : List α} (h : l.length = 1) : ∃ a, l = [a] := by
  match l, h with
  | [a], _ => exact ⟨a, rfl⟩
section
variable {H : Type} {enc : TypeId × Value → H} {w : World} {spare : Nat → Bool} {held : Bool}
theorem read_text (n : Nat) (cs : List Value) (y : DataW H × List MemPlace) (h : DataW.trod enc Tryz.prog w 0 spare held n 9 cs = some y) : ∃ a : ByteArray, cs = encS a ∧ a.size ≤ 9223372036854775807 := by
  obtain ⟨a, e, _, hw⟩ := DataW.trod_string Tryz.underlying9 h
  exact ⟨a, e, by unfold maxLen at hw; omega⟩
theorem WaitD.read (n : Nat) (cs : List Value) (y : DataW H × List MemPlace) (h : DataW.trod enc Tryz.prog w 0 spare held n 175 cs = some y) : ∃ a : WaitD, cs = a.cells ∧ a.fText.size ≤ 9223372036854775807 := by
  obtain ⟨c0, c1, rfl⟩ := list2 (trod_len Tryz.underlying175 h Tryz.cellsWait)
  obtain ⟨a0, rfl, _⟩ := fld_int Tryz.underlying175 h 0 _ rfl Tryz.cellsInt Tryz.underlying3 rfl
  obtain ⟨a1, rfl, h1⟩ := fld_string Tryz.underlying175 h 1 _ rfl Tryz.cellsString Tryz.underlying9 rfl
  exact ⟨⟨a0, a1⟩, rfl, h1⟩
theorem HD.read (n : Nat) (cs : List Value) (y : DataW H × List MemPlace) (h : DataW.trod enc Tryz.prog w 0 spare held n 104 cs = some y) : ∃ p : HD, cs = p.cells ∧ (p.reads w ∧ p.d.Small) := by
  obtain ⟨c0, c1, c2, rfl⟩ := list3 (trod_len Tryz.underlying104 h Tryz.cellsDisk)
  obtain ⟨m0, y0, h0⟩ := fld Tryz.underlying104 h 0 _ rfl Tryz.cellsTextS (cs' := [c0]) rfl
  obtain ⟨m1, y1, h1⟩ := fld Tryz.underlying104 h 1 _ rfl Tryz.cellsWaitS (cs' := [c1]) rfl
  obtain ⟨g, rfl⟩ := fld_bool Tryz.underlying104 h 2 _ rfl Tryz.cellsBool Tryz.underlying4 (c := c2) rfl
  obtain ⟨a0, l0, k0, x0, rfl, b0, r0, q0⟩ := rd_slice (ef := encS) (size := 1) (Q := fun a => a.size ≤ 9223372036854775807) Tryz.underlying91 Tryz.cellsString (by omega) read_text h0
  obtain ⟨a1, l1, k1, x1, rfl, b1, r1, q1⟩ := rd_slice (ef := WaitD.cells) (size := 2) (Q := fun a => a.fText.size ≤ 9223372036854775807) Tryz.underlying102 Tryz.cellsWait (by omega) WaitD.read h1
  unfold maxLen at b0 b1
  obtain rfl := r0.len
  obtain rfl := r1.len
  exact ⟨⟨a0, k0, a1, k1, ⟨x0, x1, g⟩⟩, rfl, ⟨r0, r1⟩, ⟨by show x0.length ≤ _; omega, q0, by show x1.length ≤ _; omega, q1⟩⟩
theorem RaidD.read (n : Nat) (cs : List Value) (y : DataW H × List MemPlace) (h : DataW.trod enc Tryz.prog w 0 spare held n 24 cs = some y) : ∃ a : RaidD, RaidD.Reads w (.agg cs.toArray) a ∧ a.Small := by
  obtain ⟨c0, rfl⟩ := list1 (trod_len Tryz.underlying24 h Tryz.cellsRaid)
  obtain ⟨m0, y0, h0⟩ := fld Tryz.underlying24 h 0 _ rfl Tryz.cellsDiskS (cs' := [c0]) rfl
  obtain ⟨a0, l0, k0, ps, rfl, b0, r0, q0⟩ := rd_slice (ef := HD.cells) (size := 3) (Q := fun p => p.reads w ∧ p.d.Small) Tryz.underlying22 Tryz.cellsDisk (by omega) HD.read h0
  unfold maxLen at b0
  obtain rfl := r0.len
  refine ⟨⟨dsOf ps⟩, ⟨a0, k0, ps, rfl, rfl, r0, fun k hk => ?_⟩, ⟨by show (dsOf ps).length ≤ _; rw [dsOf_len]; omega, fun k => ?_⟩⟩
  · rw [getD_get hk]; exact (q0 _ (List.getElem_mem hk)).1
  · show ((dsOf ps).getD k default).Small
    rw [dsOf_get]
    by_cases hk : k < ps.length
    · rw [getD_get hk]; exact (q0 _ (List.getElem_mem hk)).2
    · rw [List.getD_eq_getElem?_getD, List.getElem?_eq_none (by omega)]
      exact ⟨Nat.zero_le _, fun _ h => absurd h (by simp [default, instInhabitedHD, instInhabitedDiskD]), Nat.zero_le _, fun _ h => absurd h (by simp [default, instInhabitedHD, instInhabitedDiskD])⟩
end
end Go.Proofs.YtoaopmkbfifhaaaGreatDoor

/- An intent that came in as a law's argument, read. -/
namespace Go.Proofs.YtoaopmkbfifhaaaGreatDoor
set_option linter.unusedVariables false
set_option linter.unusedSimpArgs false
set_option maxHeartbeats 1000000
set_option maxRecDepth 100000
open Go.ChangeShapes Go.WideShapes Go.ChangeAt Go.RowKit Go.Deep

theorem Tryz.cellsOpL : Tryz.prog.cellsOf 48 = 5 := by kernel_rfl
theorem Tryz.cellsIntentL : Tryz.prog.cellsOf 50 = 8 := by kernel_rfl
theorem li8 {α : Type} {l : List α} (h : l.length = 8) : ∃ a b c d e f g i, l = [a, b, c, d, e, f, g, i] := by
  match l, h with
  | [a, b, c, d, e, f, g, i], _ => exact ⟨a, b, c, d, e, f, g, i, rfl⟩
section
variable {H : Type} {enc : TypeId × Value → H} {w : World} {spare : Nat → Bool} {held : Bool}
theorem opRd (n : Nat) (cs : List Value) (y : DataW H × List MemPlace) (h : DataW.trod enc Tryz.prog w 0 spare held n 48 cs = some y) : ∃ a : OpD, cs = a.cells ∧ a.Small := by
  obtain ⟨c0, c1, c2, c3, c4, rfl⟩ := list5 (trod_len Tryz.underlying48 h Tryz.cellsOpL)
  obtain ⟨a0, rfl, _⟩ := fld_int Tryz.underlying48 h 0 _ rfl Tryz.cellsInt Tryz.underlying3 rfl
  obtain ⟨a1, rfl, h1⟩ := fld_string Tryz.underlying48 h 1 _ rfl Tryz.cellsString Tryz.underlying9 rfl
  obtain ⟨a2, rfl, h2⟩ := fld_string Tryz.underlying48 h 2 _ rfl Tryz.cellsString Tryz.underlying9 rfl
  obtain ⟨a3, rfl, _⟩ := fld_int Tryz.underlying48 h 3 _ rfl Tryz.cellsInt Tryz.underlying3 rfl
  obtain ⟨a4, rfl, h4⟩ := fld_string Tryz.underlying48 h 4 _ rfl Tryz.cellsString Tryz.underlying9 rfl
  exact ⟨⟨a0, a1, a2, a3, a4⟩, rfl, h1, h2, h4⟩
theorem intentRd (n : Nat) (cs : List Value) (y : DataW H × List MemPlace) (h : DataW.trod enc Tryz.prog w 0 spare held n 50 cs = some y) : ∃ a : IntentD, cs = a.cells ∧ a.Small := by
  obtain ⟨c0, c1, c2, c3, c4, c5, c6, c7, rfl⟩ := li8 (trod_len Tryz.underlying50 h Tryz.cellsIntentL)
  obtain ⟨a0, rfl, _⟩ := fld_int Tryz.underlying50 h 0 _ rfl Tryz.cellsInt Tryz.underlying3 rfl
  obtain ⟨a1, rfl, _⟩ := fld_int Tryz.underlying50 h 1 _ rfl Tryz.cellsInt Tryz.underlying3 rfl
  obtain ⟨a2, rfl, h2⟩ := fld_string Tryz.underlying50 h 2 _ rfl Tryz.cellsString Tryz.underlying9 rfl
  obtain ⟨m0, y0, h0⟩ := fld Tryz.underlying50 h 3 _ rfl Tryz.cellsOpL (cs' := [c3, c4, c5, c6, c7]) rfl
  obtain ⟨o, ho, hs⟩ := opRd _ _ _ h0
  refine ⟨⟨a0, a1, a2, o⟩, ?_, h2, hs⟩
  show _ = _ :: _ :: _ :: o.cells
  rw [← ho]
end
end Go.Proofs.YtoaopmkbfifhaaaGreatDoor
