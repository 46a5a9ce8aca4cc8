/- A part of the proof in YtnikdicehddehaaGreatDoorSoLZ30. -/
import Derived.ArgAppend
import Derived.BigQuiet
import Derived.BigRegion
import Derived.Deep.MidRow
import Derived.Deep.Quiet
import Derived.Deep.QuietTactic
import Derived.Deep.RegionHeld3
import Derived.Deep.RegionWith
import Derived.IntWalk
import Derived.Laws.IdiomRangeMap
import Derived.Laws.RangeAny
import Derived.Lib.AppendIntMem
import Derived.Lib.Hide
import Derived.Lib.IndexBytes
import Derived.Lib.IndexLaws
import Derived.Lib.ItoaNum
import Derived.Lib.Join
import Derived.Lib.LazyBuf
import Derived.Lib.Split
import Derived.Lib.SplitLaws
import Derived.Orders
import Derived.OrdersHeld
import Derived.Shelf.GgClosure.StringsIndexFunc
import Derived.Shelf.Strconv.Itoa3
import Derived.Shelf.Strings.BuilderF
import Derived.Shelf.Strings.BuilderK
import Derived.Shelf.Strings.OnBuilder
import Derived.Still
import Derived.StillTail
import Derived.StillTailTactics
import Derived.StringKeys
import Derived.Test.YtnikdicehddehaaGreatDoorRows
import Derived.WalkKit
import Derived.WalkLawsBesides
import Derived.WalkSpells
import Derived.WideKeyMaps2
import Derived.Test.YtnikdicehddehaaGreatDoorSoLZ11
/- The map of the words of operations: what it holds; look-ups and rounds over it. -/
namespace Go.Proofs.YtnikdicehddehaaGreatDoor
set_option linter.unusedVariables false
set_option linter.unusedSimpArgs false
set_option maxHeartbeats 1000000
set_option maxRecDepth 100000
open Go.RowKit Go.WideMaps

def opNamesD : DataW Unit := Rows.laid_loop_example_poolfiles_impl_opNames
/-- The kind that a word has. -/
def opK (s : ByteArray) : Int := match opNamesD.atKey (.string s.data.toList) (.lit (.int .i64 0)) with
  | .lit (.int _ n) => n
  | _ => 0
structure MapQ (bm : Nat) (es : Array MapEntry) (clock : Nat) (w : World) : Prop where
  cell : w.cell? ⟨0, 0, none⟩ = some (.map (some bm))
  map : w.heap[bm]? = some (.map es clock)
  fit : Fit Unit Tryz.prog 9 .i64 es clock
  is : opNamesD = .map ((es.toList.map (rg Unit Tryz.prog 9 .i64)).foldr DataW.insert [])
theorem MapQ.below {bm : Nat} {es : Array MapEntry} {clock : Nat} {w w' : World} (h : MapQ bm es clock w) (hb : Below w.heap.size w w') : MapQ bm es clock w' := by
  have h1 : 0 < w.heap.size := World.block_lt_of_cell? w _ h.cell
  have h2 : bm < w.heap.size := by
    rcases Nat.lt_or_ge bm w.heap.size with h' | h'
    · exact h'
    · have := h.map; simp [Array.getElem?_eq_none h'] at this
  exact ⟨(hb.cell (p := ⟨0, 0, none⟩) h1).trans h.cell, (hb.block bm h2).trans h.map, h.fit, h.is⟩
theorem strLaw : KeyLaw Tryz.prog 9 := string_law Tryz.underlying9
theorem MapQ.look {bm : Nat} {es : Array MapEntry} {clock : Nat} {w : World} (h : MapQ bm es clock w) (s : ByteArray) (hs : s.size ≤ maxLen) : (Instr.lookup 35 (.map (some bm)) (.string s) false).run Tryz.prog w = .ok (.int .i64 (opK s)) w := by
  obtain ⟨n, h1, _, h3⟩ := fit_lookup (w := w) strLaw Tryz.underlying35 (Tryz.zeroValue3 w) h.map h.fit (keyOf_string_mk (s := s) Tryz.underlying9 hs)
  rw [h1]
  unfold opK
  rw [h.is, h3]
/-- The kinds of the words, one by one. -/
theorem opK_eq (s : ByteArray) : opK s = if s.data.toList = [99, 117, 116] then 4 else if s.data.toList = [100, 114, 111, 112] then 5 else if s.data.toList = [102, 111, 108, 100, 101, 114] then 2 else if s.data.toList = [108, 105, 110, 107] then 6 else if s.data.toList = [109, 97, 107, 101] then 1 else if s.data.toList = [109, 111, 118, 101] then 7 else if s.data.toList = [119, 114, 105, 116, 101] then 3 else 0 := by
  have hb : ∀ l : List UInt8, (l == s.data.toList) = decide (s.data.toList = l) := fun l => by
    by_cases h : s.data.toList = l
    · rw [decide_eq_true h, h]; exact beq_self_eq_true _
    · rw [decide_eq_false h]; exact beq_eq_false_iff_ne.2 fun e => h e.symm
  unfold opK opNamesD Rows.laid_loop_example_poolfiles_impl_opNames DataW.atKey
  simp only [List.find?_cons, Lit.sameKey, hb]
  by_cases a0 : s.data.toList = [99, 117, 116]
  · simp only [decide_eq_true a0, if_pos a0]
  simp only [decide_eq_false a0, if_neg a0]
  by_cases a1 : s.data.toList = [100, 114, 111, 112]
  · simp only [decide_eq_true a1, if_pos a1]
  simp only [decide_eq_false a1, if_neg a1]
  by_cases a2 : s.data.toList = [102, 111, 108, 100, 101, 114]
  · simp only [decide_eq_true a2, if_pos a2]
  simp only [decide_eq_false a2, if_neg a2]
  by_cases a3 : s.data.toList = [108, 105, 110, 107]
  · simp only [decide_eq_true a3, if_pos a3]
  simp only [decide_eq_false a3, if_neg a3]
  by_cases a4 : s.data.toList = [109, 97, 107, 101]
  · simp only [decide_eq_true a4, if_pos a4]
  simp only [decide_eq_false a4, if_neg a4]
  by_cases a5 : s.data.toList = [109, 111, 118, 101]
  · simp only [decide_eq_true a5, if_pos a5]
  simp only [decide_eq_false a5, if_neg a5]
  by_cases a6 : s.data.toList = [119, 114, 105, 116, 101]
  · simp only [decide_eq_true a6, if_pos a6]
  simp only [decide_eq_false a6, if_neg a6]
  rfl
section
variable {P : Program} {w : World} {o : Oper} {a : Act} {t : TypeId} {x y : Operand}
theorem yl_lookup (ho : o.op = .lookup t x y false) {b : Nat} {s : ByteArray} {v : Value} (hx : a.eval x = .map (some b)) (hy : a.eval y = .string s) (hl : (Instr.lookup t (.map (some b)) (.string s) false).run P w = .ok v w) : Yl P w o a v := by
  unfold Yl execOp
  simp only [ho, hx, hy, Sem.run_bind, hl, Result.andThen_ok, Sem.run_pure]
end
end Go.Proofs.YtnikdicehddehaaGreatDoor
