/- A part of the proof in YtnikdicehddehaaDoorSsyZ27. -/
import Derived.Deep.MidRow
import Derived.Deep.Slices
import Derived.Lib.Hide
import Derived.ProofKit
import Derived.Test.YtnikdicehddehaaDoorRows
import Derived.WalkKit
import Derived.WalkLawsBesides
import Derived.WalkSpells
import Derived.Test.YtnikdicehddehaaDoorSsyZ23
/- From a law's arguments, read as data, to rows in memory; and back to the row's close: nothing that was there has turned. -/
namespace Go.Proofs.YtnikdicehddehaaDoor
set_option linter.unusedVariables false
set_option linter.unusedSimpArgs false
set_option maxHeartbeats 1000000
set_option maxRecDepth 100000
open Go.ChangeShapes Go.WideShapes Go.ChangeAt Go.RowKit Go.Deep

theorem Tryd.own : ownKnob Tryd.prog.godebug = none := by kernel_rfl
theorem Tryd.laidOut : laidOutB Tryd.prog = true := by kernel_rfl

section
variable {H : Type} {enc : TypeId × Value → H} {P : Program}

/-- All arguments read behind the call as they did. -/
theorem trodAll_below (hl : laidOutB P = true) {W W' : World} (hb : Below W.heap.size W W') : ∀ (ts : List TypeId) (vs : List Value) (ds : List (DataW H)) (ps : List MemPlace),
    (∀ t ∈ ts, P.readableRec t = true ∧ t < P.types.size) → DataW.TrodAll enc P W 0 (fun _ => true) true ts vs ds ps → (∀ x ∈ ps, x.block < W.heap.size) →
    DataW.TrodAll enc P W' 0 (fun b => decide (b < W.heap.size)) true ts vs ds ps
  | [], [], [], _, _, h, _ => h
  | t :: ts, v :: vs, d :: ds, ps, ht, ⟨p, q, h1, h2, e⟩, hlt =>
    ⟨p, q, Below.trod hl (ht t (by simp)).1 (ht t (by simp)).2 h1 hb (fun x hx => hlt x (by rw [e]; exact List.mem_append_left _ hx)),
      trodAll_below hl hb ts vs ds q (fun t' h' => ht t' (by simp [h'])) h2 (fun x hx => hlt x (by rw [e]; exact List.mem_append_right _ hx)), e⟩

/-- A field of a struct that was read: its own cells read. -/
theorem fld {w : World} {spare : Nat → Bool} {held : Bool} {t : TypeId} {fs : Array Field} {n : Nat} {cs : List Value} {x : DataW H × List MemPlace} (ht : P.underlying t = some (.struct fs)) (h : DataW.trod enc P w 0 spare held n t cs = some x)
    (i : Nat) (f : Field) (hi : fs[i]? = some f) {k : Nat} (hk : P.cellsOf f.type = k) {cs' : List Value} (hc : (cs.drop f.offset).take k = cs') : ∃ m y, DataW.trod enc P w 0 spare held m f.type cs' = some y := by
  obtain ⟨xs, m, _, _, _, hx, hf⟩ := DataW.trod_struct ht h
  have h1 := hf i f hi
  have hlt : i < xs.length := by rw [hx]; exact (Array.getElem?_eq_some_iff.1 hi).1
  rw [hk, hc, List.getElem?_eq_getElem hlt] at h1
  exact ⟨m, _, h1⟩
theorem fld_int {w : World} {spare : Nat → Bool} {held : Bool} {t : TypeId} {fs : Array Field} {n : Nat} {cs : List Value} {x : DataW H × List MemPlace} (ht : P.underlying t = some (.struct fs)) (h : DataW.trod enc P w 0 spare held n t cs = some x)
    (i : Nat) (f : Field) (hi : fs[i]? = some f) (hk : P.cellsOf f.type = 1) (hu : P.underlying f.type = some (.int .i64)) {c : Value} (hc : (cs.drop f.offset).take 1 = [c]) : ∃ a : Int, c = .int .i64 a ∧ -9223372036854775808 ≤ a ∧ a ≤ 9223372036854775807 := by
  obtain ⟨m, y, h1⟩ := fld ht h i f hi hk hc
  obtain ⟨a, e, _, hw⟩ := DataW.trod_int hu h1
  simp [Lit.wf, IntKind.min, IntKind.max, IntKind.signed, IntKind.bits] at hw
  exact ⟨a, by simpa using e, by omega, by omega⟩
theorem fld_string {w : World} {spare : Nat → Bool} {held : Bool} {t : TypeId} {fs : Array Field} {n : Nat} {cs : List Value} {x : DataW H × List MemPlace} (ht : P.underlying t = some (.struct fs)) (h : DataW.trod enc P w 0 spare held n t cs = some x)
    (i : Nat) (f : Field) (hi : fs[i]? = some f) (hk : P.cellsOf f.type = 1) (hu : P.underlying f.type = some .string) {c : Value} (hc : (cs.drop f.offset).take 1 = [c]) : ∃ a : ByteArray, c = .string a ∧ a.size ≤ 9223372036854775807 := by
  obtain ⟨m, y, h1⟩ := fld ht h i f hi hk hc
  obtain ⟨a, e, _, hw⟩ := DataW.trod_string hu h1
  exact ⟨a, by simpa using e, by unfold maxLen at hw; omega⟩
end

theorem trod_len {H : Type} {enc : TypeId × Value → H} {P : Program} {w : World} {spare : Nat → Bool} {held : Bool} {t : TypeId} {fs : Array Field} {n : Nat} {cs : List Value} {x : DataW H × List MemPlace} (ht : P.underlying t = some (.struct fs)) (h : DataW.trod enc P w 0 spare held n t cs = some x) {k : Nat} (hk : P.cellsOf t = k) : cs.length = k := by
  obtain ⟨xs, m, _, _, hl, _⟩ := DataW.trod_struct ht h
  exact hl.trans hk

theorem list5 {α : Type} {l : List α} (h : l.length = 5) : ∃ a b c d e, l = [a, b, c, d, e] := by
  match l, h with
  | [a, b, c, d, e], _ => exact ⟨a, b, c, d, e, rfl⟩
theorem Tryd.cellsInt : Tryd.prog.cellsOf 3 = 1 := by kernel_rfl
theorem Tryd.cellsString : Tryd.prog.cellsOf 9 = 1 := by kernel_rfl
end Go.Proofs.YtnikdicehddehaaDoor
