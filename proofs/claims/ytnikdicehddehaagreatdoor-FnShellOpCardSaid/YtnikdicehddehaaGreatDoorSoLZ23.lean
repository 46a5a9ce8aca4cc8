/- A part of the proof in YtnikdicehddehaaGreatDoorSoLZ30. -/
import Derived.ArgAppend
import Derived.BigQuiet
import Derived.BigRegion
import Derived.Deep.AppendLies
import Derived.Deep.MidRow
import Derived.Deep.Quiet
import Derived.Deep.QuietTactic
import Derived.Deep.RegionHeld3
import Derived.Deep.RegionWith
import Derived.IntWalk
import Derived.Laws.BytesArg
import Derived.Laws.IdiomRangeMap
import Derived.Laws.RangeAny
import Derived.Lib.AppendIntMem
import Derived.Lib.Hide
import Derived.Lib.IndexBytes
import Derived.Lib.IndexLaws
import Derived.Lib.ItoaNum
import Derived.Lib.Join
import Derived.Lib.LazyBuf
import Derived.Lib.SlBytesConst
import Derived.Lib.Split
import Derived.Lib.SplitLaws
import Derived.LoopIn
import Derived.LoopN
import Derived.LoopNIn
import Derived.Orders
import Derived.OrdersHeld
import Derived.OwnWalkIn
import Derived.RangeFuncLeaves
import Derived.RangeFuncNested
import Derived.Scope
import Derived.Shelf.Abstract
import Derived.Shelf.GgClosure.StringsIndexFunc
import Derived.Shelf.Small.Strs
import Derived.Shelf.Small.Utf8
import Derived.Shelf.Small.Wraps
import Derived.Shelf.Strconv.Itoa3
import Derived.Shelf.Strings.BuilderF
import Derived.Shelf.Strings.BuilderK
import Derived.Shelf.Strings.FuncGrows
import Derived.Shelf.Strings.IndexAnyAll
import Derived.Shelf.Strings.OnBuilder
import Derived.Shelf.Strings.Split
import Derived.Shelf.Strings.SplitShaped
import Derived.Shelf.Vars
import Derived.Still
import Derived.StillTail
import Derived.StillTailTactics
import Derived.TacticsInMore
import Derived.Test.YtnikdicehddehaaGreatDoorRows
import Derived.WalkKit
import Derived.WalkLawsBesides
import Derived.WalkSpells
import Derived.Test.YtnikdicehddehaaGreatDoorSoLZ22
/- Iterators as things: rounds over a text, rounds over a map; scopes through which no jump goes. -/
namespace Go.Proofs.YtnikdicehddehaaGreatDoor
set_option linter.unusedVariables false
set_option linter.unusedSimpArgs false
set_option maxHeartbeats 1000000
set_option maxRecDepth 100000
open Go.RowKit

/-- The block holds just this. -/
def objA (b : Nat) (o : Obj) : Asr := ⟨fun w f => f = [b] ∧ w.heap[b]? = some o, fun w w' f _ hb ⟨e, h⟩ => ⟨e, (hb b (by rw [e]; simp)).trans h⟩⟩
section
variable {W w : World} {s : List Asr}
theorem St.obj (h : St W s w) (i : Nat) {b : Nat} {o : Obj} (hi : s[i]? = some (objA b o)) : w.heap[b]? = some o := by
  obtain ⟨f, ⟨_, hb⟩, _⟩ := h.get i hi
  exact hb
theorem St.allocO (h : St W s w) (o : Obj) : St W (objA w.heap.size o :: s) (w.alloc o) :=
  St.add (ns := [objA w.heap.size o]) h ⟨(Below.refl _ _).alloc (Nat.le_refl _) _, [w.heap.size], ⟨[w.heap.size], [], rfl, ⟨rfl, heap_alloc_new w o⟩, rfl⟩, by simp, fun b hb => by
    obtain rfl : b = w.heap.size := by simpa using hb
    exact ⟨Nat.le_refl _, by rw [sz_alloc]; omega⟩⟩
theorem St.putO (h : St W s w) (i : Nat) {b : Nat} {o : Obj} (hi : s[i]? = some (objA b o)) (o' : Obj) : St W (s.set i (objA b o')) { w with heap := w.heap.setIfInBounds b o' } :=
  h.mutAt i hi rfl rfl rfl (by simp) fun f ⟨e, hb⟩ _ h3 => by
    have hlt := (h3 b (by rw [e]; simp)).2
    refine ⟨f, ⟨e, ?_⟩, by rw [e]; simp, fun c hc => ⟨.inl hc, by have := (h3 c hc).2; simpa using this⟩, fun k hk hn => ?_⟩
    · show (w.heap.setIfInBounds b o')[b]? = some o'
      simp [Array.getElem?_setIfInBounds, hlt]
    · show (w.heap.setIfInBounds b o')[k]? = w.heap[k]?
      rw [e] at hn
      have : b ≠ k := fun h => hn (by simp [h])
      simp [Array.getElem?_setIfInBounds, this]
end
section
variable {P : Program} {ops : Array Oper} {Q : Exit → Act → World → Prop} {rest : List Oper} {o : Oper} {a : Act} {w W : World} {N : Nat} {l : List (Nat × Value)} {s : List Asr}
theorem wl_eff (hg : o.guard = none) (hF : Fr N a l) {d : Nat} (hd : o.dst = some d) (hN : Nat.blt d N = true) {v : Value} {w' : World} (hr : (execOp a.eval o).run P w = .ok (.value v) w')
    (h : ∀ a', Fr N a' ((d, v) :: l) → wpList P ops Q rest a' w') : wpList P ops Q (o :: rest) a w := by
  refine wpList_plain hg fun K hK => ?_
  unfold Oper.wp
  rw [hr]
  exact hK _ _ (hd ▸ h _ (hF.put (Nat.le_of_ble_eq_true hN) _))
theorem wl_rangeS (hg : o.guard = none) (hF : Fr N a l) {t : TypeId} {x : Operand} (ho : o.op = .range t x) {t' : ByteArray} (hx : a.eval x = .string t') (hu : P.underlying t = some .string) {d : Nat} (hd : o.dst = some d) (hN : Nat.blt d N = true) (hS : St W s w)
    (h : ∀ a' w' b, Fr N a' ((d, .pointer (some ⟨b, 0, none⟩)) :: l) → St W (objA b (.stringIter t' 0) :: s) w' → wpList P ops Q rest a' w') : wpList P ops Q (o :: rest) a w := by
  have hr : (execOp a.eval o).run P w = .ok (.value (.pointer (some ⟨w.heap.size, 0, none⟩))) (w.alloc (.stringIter t' 0)) := by
    unfold execOp
    simp only [ho, hx, Sem.run_bind, run_range_string w t t' hu, Result.andThen_ok, Sem.run_pure]
    rfl
  exact wl_eff hg hF hd hN hr fun a' hF' => h _ _ _ hF' (hS.allocO _)
theorem wl_nextS (hg : o.guard = none) (hF : Fr N a l) {x : Operand} (ho : o.op = .next x true) {b : Nat} {t' : ByteArray} {pos : Nat} (hx : a.eval x = .pointer (some ⟨b, 0, none⟩)) {d : Nat} (hd : o.dst = some d) (hN : Nat.blt d N = true) (hS : St W s w) (i : Nat) (hi : s[i]? = some (objA b (.stringIter t' pos)))
    (h0 : ¬ pos < t'.size → ∀ a', Fr N a' ((d, .tuple #[.bool false]) :: l) → wpList P ops Q rest a' w)
    (h1 : pos < t'.size → ∀ a' w', Fr N a' ((d, .tuple #[.bool true, .int .i64 pos, .int .i32 ((Utf8.decode t' pos).1 : Int)]) :: l) → St W (s.set i (objA b (.stringIter t' (pos + (Utf8.decode t' pos).2)))) w' → wpList P ops Q rest a' w') : wpList P ops Q (o :: rest) a w := by
  have hb := hS.obj i hi
  by_cases hp : pos < t'.size
  · have hr : (execOp a.eval o).run P w = .ok (.value (.tuple #[.bool true, .int .i64 pos, .int .i32 ((Utf8.decode t' pos).1 : Int)])) { w with heap := w.heap.setIfInBounds b (.stringIter t' (pos + (Utf8.decode t' pos).2)) } := by
      unfold execOp
      simp only [ho, hx, Instr.next, getObj, setObj, Sem.run_bind, Sem.run, hb, Result.andThen, hp, if_true]
      simp [goInt, Sem.run, hb, hp, Result.andThen]
    exact wl_eff hg hF hd hN hr fun a' hF' => h1 hp _ _ hF' (hS.putO i hi _)
  · have hr : (execOp a.eval o).run P w = .ok (.value (.tuple #[.bool false])) w := by
      unfold execOp
      simp only [ho, hx, Instr.next, getObj, setObj, Sem.run_bind, Sem.run, hb, Result.andThen, hp, if_false]
      rfl
    exact wl_eff hg hF hd hN hr fun a' hF' => h0 hp _ hF'
theorem wl_rangeM (hg : o.guard = none) (hF : Fr N a l) {t k e : TypeId} {x : Operand} (ho : o.op = .range t x) {bm : Nat} {es : Array MapEntry} {clock : Nat} (hx : a.eval x = .map (some bm)) (hu : P.underlying t = some (.map k e)) (hb : w.heap[bm]? = some (.map es clock)) {d : Nat} (hd : o.dst = some d) (hN : Nat.blt d N = true) (hS : St W s w)
    (h : ∀ a' w' b, Fr N a' ((d, .pointer (some ⟨b, 0, none⟩)) :: l) → St W (objA b (.mapIter (some bm) clock #[] clock) :: s) w' → wpList P ops Q rest a' w') : wpList P ops Q (o :: rest) a w := by
  have hr : (execOp a.eval o).run P w = .ok (.value (.pointer (some ⟨w.heap.size, 0, none⟩))) (w.alloc (.mapIter (some bm) clock #[] clock)) := by
    unfold execOp
    simp only [ho, hx, Sem.run_bind, run_range_map w t k e bm es clock hu hb, Result.andThen_ok, Sem.run_pure]
  exact wl_eff hg hF hd hN hr fun a' hF' => h _ _ _ hF' (hS.allocO _)
/-- A round over a map: which entry comes, the tape says. -/
theorem run_nextM (w : World) (ty : TypeId) (b bm since : Nat) (seen : Array Nat) (es : Array MapEntry) (hi : w.heap[b]? = some (.mapIter (some bm) since seen since)) (hb : w.heap[bm]? = some (.map es since)) (hold : ∀ x ∈ es.toList, x.born < since) :
    ((Go.leftOf es seen).size = 0 ∧ (Instr.next (.pointer (some ⟨b, 0, none⟩)) false ty).run P w = .ok (.tuple #[.bool false]) w) ∨
    ∃ e ∈ (Go.leftOf es seen).toList, ∃ w1 : World, (w1 = w ∨ w1 = w.drew) ∧ (Instr.next (.pointer (some ⟨b, 0, none⟩)) false ty).run P w = .ok (.tuple #[.bool true, e.key, e.val]) { w1 with heap := w1.heap.setIfInBounds b (.mapIter (some bm) since (seen.push e.born) since) } := by
  simp only [Instr.next, getObj, Sem.run_bind, Sem.run, hi, hb, Result.andThen, next_test_false seen es since since hold (Nat.le_refl _), Bool.false_eq_true, if_false]
  unfold Go.leftOf
  have hmem : ∀ x ∈ (Array.filter (fun e => !seen.contains e.born) es).toList, x.born < since := fun x hx => hold x (by simp at hx ⊢; exact hx.1)
  generalize Array.filter (fun e => !seen.contains e.born) es = L at hmem ⊢
  have e1 : L.filter (fun x => decide (x.born < since)) = L := Array.filter_eq_self.2 (fun x hx => by simpa using hmem x (by simpa using hx))
  have e2 : L.filter (fun x => decide (x.born ≥ since)) = #[] := by
    rw [Array.filter_eq_empty_iff]
    intro x hx
    have := hmem x (by simpa using hx)
    simp
    omega
  simp only [e1, e2, Array.append_empty]
  by_cases h0 : L.size = 0
  · left
    have : L = #[] := Array.eq_empty_of_size_eq_zero h0
    subst this
    refine ⟨rfl, ?_⟩
    simp [choose, Sem.run, Question.forced]
  · right
    have hne : L.isEmpty = false := by simp [Array.isEmpty, h0]
    simp only [hne, Bool.false_eq_true, if_false, Array.empty_append, Array.size_map]
    have hch : ∃ (j : Nat) (w1 : World), j < L.size ∧ (w1 = w ∨ w1 = w.drew) ∧ (choose (Question.mapNext L.size)).run P w = .ok j w1 := by
      by_cases hf : L.size ≤ 1
      · exact ⟨0, w, by omega, .inl rfl, by simp [choose, Sem.run, Question.forced, hf]⟩
      · exact ⟨_, w.drew, Nat.mod_lt _ (by omega), .inr rfl, by
          simp only [choose, Sem.run, Question.forced, decide_eq_true_eq, hf, if_false, Question.cut]
          rfl⟩
    obtain ⟨j, w1, hj, hal, hrun⟩ := hch
    refine ⟨L[j], by simp, w1, hal, ?_⟩
    have hh : w1.heap = w.heap := by rcases hal with rfl | rfl <;> rfl
    have hset : ∀ o' : Obj, (setObj b o').run P w1 = .ok () { w1 with heap := w1.heap.setIfInBounds b o' } := fun o' => by
      simp only [setObj, Sem.run]
      rw [hh, hi]
    simp only [hrun, Array.getElem?_map, Array.getElem?_eq_getElem hj, Option.map_some, Sem.run_bind, hset, Result.andThen]
    rfl
theorem wl_nextM (hg : o.guard = none) (hF : Fr N a l) {x : Operand} (ho : o.op = .next x false) {b bm since : Nat} {seen : Array Nat} {es : Array MapEntry} (hx : a.eval x = .pointer (some ⟨b, 0, none⟩)) (hb : w.heap[bm]? = some (.map es since)) (hold : ∀ x ∈ es.toList, x.born < since) {d : Nat} (hd : o.dst = some d) (hN : Nat.blt d N = true) (hS : St W s w) (i : Nat) (hi : s[i]? = some (objA b (.mapIter (some bm) since seen since)))
    (h0 : (Go.leftOf es seen).size = 0 → ∀ a', Fr N a' ((d, .tuple #[.bool false]) :: l) → wpList P ops Q rest a' w)
    (h1 : ∀ e ∈ (Go.leftOf es seen).toList, ∀ a' w', Fr N a' ((d, .tuple #[.bool true, e.key, e.val]) :: l) → St W (s.set i (objA b (.mapIter (some bm) since (seen.push e.born) since))) w' → wpList P ops Q rest a' w') : wpList P ops Q (o :: rest) a w := by
  rcases run_nextM (P := P) w o.type b bm since seen es (hS.obj i hi) hb hold with ⟨hl, hr⟩ | ⟨e, he, w1, hw1, hr⟩
  · exact wl_eff hg hF hd hN (v := .tuple #[.bool false]) (w' := w) (by
      unfold execOp
      simp only [ho, hx, Sem.run_bind, hr, Result.andThen_ok, Sem.run_pure]) fun a' hF' => h0 hl _ hF'
  · have h2 : St W s w1 := by
      rcases hw1 with h | h
      · rw [h]; exact hS
      · rw [h]; exact hS.drew
    have hr2 : (execOp a.eval o).run P w = .ok (.value (.tuple #[.bool true, e.key, e.val])) { w1 with heap := w1.heap.setIfInBounds b (.mapIter (some bm) since (seen.push e.born) since) } := by
      unfold execOp
      simp only [ho, hx, Sem.run_bind, hr, Result.andThen_ok, Sem.run_pure]
    exact wl_eff hg hF hd hN hr2 fun a' hF' => h1 e he _ _ hF' (h2.putO i hi _)
theorem yl_entryM {x : Operand} (ho : o.op = .entry x) {b bm since : Nat} {seen : Array Nat} {es : Array MapEntry} {e : MapEntry} (hx : a.eval x = .pointer (some ⟨b, 0, none⟩)) (hb : w.heap[bm]? = some (.map es since)) (he : e ∈ es.toList) (hn : (es.toList.map (·.born)).Nodup) (hS : St W s w) (i : Nat) (hi : s[i]? = some (objA b (.mapIter (some bm) since (seen.push e.born) since))) :
    Yl P w o a (.tuple #[e.key, e.val]) := by
  have hf : es.find? (·.born == e.born) = some e := by rw [← Array.find?_toList]; exact find_born e es.toList hn he
  have hr : (Instr.entry (.pointer (some ⟨b, 0, none⟩))).run P w = .ok (.tuple #[e.key, e.val]) w := by
    simp only [Instr.entry, getObj, Sem.run_bind, Sem.run, hS.obj i hi, hb, Result.andThen, Array.back?_push, bne_self_eq_false, Bool.false_eq_true, if_false, hf]
    rfl
  unfold Yl execOp
  simp only [ho, hx, Sem.run_bind, hr, Result.andThen_ok, Sem.run_pure]
end
section
variable {P : Program} {Q K : Exit → Act → World → Prop} {K' : Act → World → Prop} {a : Act} {w : World}
theorem ex_scope_ret (h : Q .ret a w) : Exit.noGoto Q .ret a w := h
theorem wc_scope {c : Code} (h : c.wp P (Exit.noGoto Q) a w) : (Code.scope c).wp P Q a w := wp_scope_straight h
end
end Go.Proofs.YtnikdicehddehaaGreatDoor

/- ContainsAny with two letters, at whatever text: walked. -/
namespace Go.Proofs.YtnikdicehddehaaGreatDoor
set_option linter.unusedVariables false
set_option linter.unusedSimpArgs false
set_option maxHeartbeats 1000000
set_option maxRecDepth 100000
open Go.RowKit

theorem decode_lo {s : ByteArray} {k : Nat} (h : k < s.size) (hb : (s.get! k).toNat < 128) : (Utf8.decode s k).1 = (s.get! k).toNat ∧ (Utf8.decode s k).2 = 1 := by
  have e : s[k]'h = s.get! k := (get_at s k h).symm
  rw [decode_ascii s k h (by rw [e]; exact hb), e]
  exact ⟨rfl, rfl⟩
theorem decode_hi {s : ByteArray} {k : Nat} (h : k < s.size) (hb : 128 ≤ (s.get! k).toNat) : 128 ≤ (Utf8.decode s k).1 ∧ 1 ≤ (Utf8.decode s k).2 ∧ k + (Utf8.decode s k).2 ≤ s.size ∧ ∀ j, k ≤ j → j < k + (Utf8.decode s k).2 → 128 ≤ (s.get! j).toNat := by
  have e : s[k]'h = s.get! k := (get_at s k h).symm
  have h1 := decode_high s k h (by rw [e]; exact hb)
  refine ⟨h1.1, h1.2, ?_⟩
  have e0 : k + 0 = k := rfl
  have two : ∀ j, k ≤ j → j < k + 1 → 128 ≤ (s.get! j).toNat := fun j a b => (show k = j by omega) ▸ hb
  have sp : ∀ (p : Bool) (a b : Nat × Nat), (bif p then a else b) = if p = true then a else b := fun p a b => by cases p <;> rfl
  have nb : ∀ m, (s.get! (k + m)).toNat / 64 = 2 → 128 ≤ (s.get! (k + m)).toNat := fun m hm => by omega
  have main : (Utf8.decode s k).2 = 1 ∨ (((Utf8.decode s k).2 = 2 ∧ k + 1 < s.size ∧ (s.get! (k + 1)).toNat / 64 = 2)) ∨ ((Utf8.decode s k).2 = 3 ∧ k + 2 < s.size ∧ (s.get! (k + 1)).toNat / 64 = 2 ∧ (s.get! (k + 2)).toNat / 64 = 2) ∨ ((Utf8.decode s k).2 = 4 ∧ k + 3 < s.size ∧ (s.get! (k + 1)).toNat / 64 = 2 ∧ (s.get! (k + 2)).toNat / 64 = 2 ∧ (s.get! (k + 3)).toNat / 64 = 2) := by
    simp only [Utf8.decode]
    split
    · exact .inl rfl
    split
    · rename_i h2
      simp only [Bool.and_eq_true, decide_eq_true_eq, beq_iff_eq] at h2
      split
      · exact .inr (.inl ⟨rfl, h2.2.1, h2.2.2⟩)
      · exact .inl rfl
    split
    · rename_i h2
      simp only [Bool.and_eq_true, decide_eq_true_eq, beq_iff_eq] at h2
      split
      · exact .inr (.inr (.inl ⟨rfl, h2.2.1, h2.1.2.2, h2.2.2⟩))
      · exact .inl rfl
    split
    · rename_i h2
      simp only [Bool.and_eq_true, decide_eq_true_eq, beq_iff_eq] at h2
      split
      · exact .inr (.inr (.inr ⟨rfl, h2.2.1, h2.1.1.2.2, h2.1.2.2, h2.2.2⟩))
      · exact .inl rfl
    · exact .inl rfl
  rcases main with h2 | ⟨h2, hz, ha⟩ | ⟨h2, hz, ha, hb'⟩ | ⟨h2, hz, ha, hb', hc⟩
  · rw [h2]; exact ⟨by omega, two⟩
  · rw [h2]; exact ⟨by omega, fun j a b => by
      rcases (by omega : j = k ∨ j = k + 1) with rfl | rfl
      · exact hb
      · exact nb 1 ha⟩
  · rw [h2]; exact ⟨by omega, fun j a b => by
      rcases (by omega : j = k ∨ j = k + 1 ∨ j = k + 2) with rfl | rfl | rfl
      · exact hb
      · exact nb 1 ha
      · exact nb 2 hb'⟩
  · rw [h2]; exact ⟨by omega, fun j a b => by
      rcases (by omega : j = k ∨ j = k + 1 ∨ j = k + 2 ∨ j = k + 3) with rfl | rfl | rfl | rfl
      · exact hb
      · exact nb 1 ha
      · exact nb 2 hb'
      · exact nb 3 hc⟩
theorem ofNat_hi {n : Nat} (h1 : 128 ≤ n) (h2 : n < 256) : 128 ≤ (UInt8.ofNat n).toNat := by rw [UInt8.toNat_ofNat']; omega
/-- A letter beyond ASCII is two bytes or more, the last one of them beyond ASCII. -/
theorem encode_hi {r : Int} (h : 128 ≤ r) : 2 ≤ (Utf8.encode r).size ∧ (Utf8.encode r).size ≤ 4 ∧ 128 ≤ ((Utf8.encode r).get! ((Utf8.encode r).size - 1)).toNat := by
  unfold Utf8.encode
  have hc : 128 ≤ (if Utf8.valid r then r.toNat else Utf8.runeError) := by
    split
    · omega
    · decide
  generalize (if Utf8.valid r then r.toNat else Utf8.runeError) = c at hc
  simp only []
  rw [if_neg (by omega)]
  split
  · exact ⟨Nat.le_refl 2, show 2 ≤ 4 by decide, ofNat_hi (by omega) (by omega)⟩
  split
  · exact ⟨show 2 ≤ 3 by decide, show 3 ≤ 4 by decide, ofNat_hi (by omega) (by omega)⟩
  · exact ⟨show 2 ≤ 4 by decide, Nat.le_refl 4, ofNat_hi (by omega) (by omega)⟩
theorem indexByte_nil (s : ByteArray) (c : Int) (w : World) (h : s.size = 0) : Calls Tryz.prog 56 #[.string s, .int .u8 c] w fun e w' => e = .returned (.int .i64 (-1)) ∧ Below w.heap.size w w' := by
  refine (Any.strings_IndexByte layIB s c w).mono ?_
  rintro e w' ⟨rfl, rfl⟩
  have hn : s.data.toList = [] := List.length_eq_zero_iff.1 (by rw [← size_list]; exact h)
  rw [hn]
  exact ⟨rfl, Below.refl _ _⟩
section
variable {P : Program} {w : World} {o : Oper} {a : Act} {t t' : TypeId} {x : Operand}
theorem yl_runeS {u : ByteArray} {r : Int} (hu : u = Utf8.encode r) (ho : o.op = .convert t t' x) (hx : a.eval x = .int .i32 r) (ht : P.underlying t = some (.int .i32)) (ht' : P.underlying t' = some .string) : Yl P w o a (.string u) := by
  subst hu
  unfold Yl execOp
  simp only [ho, hx]
  simp [convert, go_sem, run_underlying ht w, run_underlying ht' w, Conv.intToString]
end

theorem indexRune_hi (c : ByteArray) (r : Int) (w0 : World) (hr : 128 ≤ r) (hc : c.size = 2) (hb : ∀ j, j < 2 → (c.get! j).toNat < 128) : Calls Tryz.prog 42 #[.string c, .int .i32 r] w0 fun e w' => e = .returned (.int .i64 (-1)) ∧ Below w0.heap.size w0 w' := by
 obtain ⟨u, hu⟩ : ∃ u, u = Utf8.encode r := ⟨_, rfl⟩
 have hen := encode_hi hr; rw [← hu] at hen
 have HS := Bx.mk (St.start w0)
 refine wc_enter Tryz.func42 rfl Tryz.ntmps42 [(0, .string c), (1, .int .i32 r)] ⟨rfl, rfl, trivial⟩ rfl ?_; intro a HF
 refine wp_sr ?_
 refine wl_as HF rfl rfl rfl rfl rfl ?_; clear HF a; intro a HF
 refine wl_ne ?_
 refine wp_block ?_
 refine wp_sr ?_
 refine wl_mv HF rfl rfl rfl rfl rfl ?_; clear HF a; intro a HF
 refine wl_y rfl HF rfl rfl (yl_leqI rfl (HF.ev rfl) (HF.ev rfl)) ?_; clear HF a; intro a HF
 refine wl_mv HF rfl rfl rfl rfl rfl ?_; clear HF a; intro a HF
 refine HF.cases 163 rfl (fun cc1 HF1 => ?_) (fun cc1 HF1 => ?_)
 ·clear HF; have HF := HF1; clear HF1
  have dcc1 := of_decide_eq_true cc1
  refine wl_yg HF rfl rfl rfl rfl rfl (yl_move rfl (HF.ev rfl)) ?_; clear HF a; intro a HF
  refine wl_yg HF rfl rfl rfl rfl rfl (yl_lssI rfl (HF.ev rfl) (HF.ev rfl)) ?_; clear HF a; intro a HF
  refine wl_y rfl HF rfl rfl (yl_pick_t rfl (HF.ev rfl) (HF.ev rfl)) ?_; clear HF a; intro a HF
  refine wl_as HF rfl rfl rfl rfl rfl ?_; clear HF a; intro a HF
  refine wl_ne ?_
  refine HF.cases 160 rfl (fun cc2 HF1 => ?_) (fun cc2 HF1 => ?_)
  ·clear HF; have HF := HF1; clear HF1
   have dcc2 := of_decide_eq_true cc2
   omega
  ·clear HF; have HF := HF1; clear HF1
   have dcc2 := of_decide_eq_false cc2
   refine wc_false HF rfl ?_
   refine wp_sr ?_
   refine wl_mv HF rfl rfl rfl rfl rfl ?_; clear HF a; intro a HF
   refine wl_y rfl HF rfl rfl (yl_eqlI rfl (HF.ev rfl) (HF.ev rfl)) ?_; clear HF a; intro a HF
   refine wl_as HF rfl rfl rfl rfl rfl ?_; clear HF a; intro a HF
   refine wl_ne ?_
   refine HF.cases 171 rfl (fun cc3 HF1 => ?_) (fun cc3 HF1 => ?_)
   ·clear HF; have HF := HF1; clear HF1
    have dcc3 := eq_of_beq cc3
    refine wc_true HF rfl ?_
    refine wp_seq ?_
    refine wp_sr ?_
    refine wl_mv HF rfl rfl rfl rfl rfl ?_; clear HF a; intro a HF
    refine wl_rangeS rfl HF rfl (t' := c) (HF.ev rfl) Tryz.underlying9 rfl rfl HS.out ?_; clear HF HS a; intro a w1 b1 HF HS; replace HS := Bx.mk HS
    refine wl_ne ?_
    refine wp_block ?_
    refine wc_loop (ι := Nat) (fun k a w => (k ≤ 2) ∧ Fr 187 a [(0, .string c), (1, .int .i32 r), (175, .pointer (some ⟨b1, 0, none⟩))] ∧ St w0 ([objA b1 (.stringIter c k)]) w) (fun k => 2 - k) 0 ⟨Nat.zero_le _, HF.less _ ⟨rfl, rfl, rfl, trivial⟩, HS.out⟩ ?_
    clear HF HS; clear a
    rintro k a w2 ⟨hk, HF, HS⟩
    replace HS := Bx.mk HS
    refine wp_sr ?_
    refine wl_nextS rfl HF rfl (HF.ev rfl) rfl rfl HS.out 0 rfl (fun hpos a1 HF1 => ?_) (fun hpos a1 w3 HF1 HS1 => ?_)
    ·skip
     clear HF; clear a; rename Act => a; have HF := HF1; clear HF1
     refine wl_y rfl HF rfl rfl (yl_extract rfl (HF.ev rfl) rfl) ?_; clear HF a; intro a HF
     refine wl_ne ?_
     refine wp_seq ?_
     refine wc_false HF rfl ?_
     refine wp_exit ?_
     refine ex_then_exit ?_
     refine ex_then_exit ?_
     refine ex_block_hit ?_
     refine ex_then ?_
     refine wp_sr ?_
     refine wl_as HF rfl rfl rfl rfl rfl ?_; clear HF a; intro a HF
     refine wl_ne ?_
     refine wp_ret ?_
     refine ex_block_ret ?_
     refine bp_ret1 HF Tryz.results42 (HF.res rfl) ?_
     exact ⟨rfl, HS.out.bel⟩
    ·skip
     clear HF HS a; rename Act => a; have HF := HF1; have HS := Bx.mk HS1; clear HF1 HS1
     have hdl := decode_lo hpos (hb k (by omega)); rw [hdl.1] at HF; rw [hdl.2] at HS
     replace HS : Bx (St w0 ([objA b1 (.stringIter c (k + 1))]) _) := ⟨HS.out⟩
     refine wl_y rfl HF rfl rfl (yl_extract rfl (HF.ev rfl) rfl) ?_; clear HF a; intro a HF
     refine wl_ne ?_
     refine wp_seq ?_
     refine wc_true HF rfl ?_
     refine wp_skip ?_
     refine ex_then ?_
     refine wp_block ?_
     refine wp_sr ?_
     refine wl_y rfl HF rfl rfl (yl_extract rfl (HF.ev rfl) rfl) ?_; clear HF a; intro a HF
     refine wl_y rfl HF rfl rfl (yl_extract rfl (HF.ev rfl) rfl) ?_; clear HF a; intro a HF
     refine wl_as HF rfl rfl rfl rfl rfl ?_; clear HF a; intro a HF
     refine wl_as HF rfl rfl rfl rfl rfl ?_; clear HF a; intro a HF
     refine wl_ne ?_
     refine wp_sr ?_
     refine wl_mv HF rfl rfl rfl rfl rfl ?_; clear HF a; intro a HF
     refine wl_y rfl HF rfl rfl (yl_eqlI rfl (HF.ev rfl) (HF.ev rfl)) ?_; clear HF a; intro a HF
     refine wl_ne ?_
     refine HF.cases 181 rfl (fun cc4 HF1 => ?_) (fun cc4 HF1 => ?_)
     ·clear HF; have HF := HF1; clear HF1
      have dcc4 := eq_of_beq cc4
      have := hb k (by omega); omega
     ·clear HF; have HF := HF1; clear HF1
      have dcc4 := ne_of_beq_false cc4
      refine wc_false HF rfl ?_
      refine wp_skip ?_
      refine ex_block ?_
      refine ex_then ?_
      exact ⟨k + 1, ⟨by omega, HF.less _ ⟨rfl, rfl, rfl, trivial⟩, HS.out⟩, (by omega)⟩
   ·clear HF; have HF := HF1; clear HF1
    have dcc3 := ne_of_beq_false cc3
    refine wc_false HF rfl ?_
    refine wp_sr ?_
    refine wl_mv HF rfl rfl rfl rfl rfl ?_; clear HF a; intro a HF
    refine wl_callB rfl HF rfl (enter_of Tryz.func57 (by kernel_rfl) rfl) (args := #[.int .i32 r]) rfl (v := .bool (Go.Lib.validRune r)) (((Any.utf8_ValidRune layVR r _).mono fun _ _ h => ⟨h.1, h.2.symm ▸ Below.refl _ _⟩)) rfl rfl HS.out ?_; clear HF HS a; intro w4 a HS HF; replace HS := Bx.mk HS
    refine wl_y rfl HF rfl rfl (yl_not rfl (HF.ev rfl)) ?_; clear HF a; intro a HF
    refine wl_as HF rfl rfl rfl rfl rfl ?_; clear HF a; intro a HF
    refine wl_ne ?_
    refine HF.cases 183 rfl (fun cc5 HF1 => ?_) (fun cc5 HF1 => ?_)
    ·clear HF; have HF := HF1; clear HF1
     refine wc_true HF rfl ?_
     refine wp_sr ?_
     refine wl_as HF rfl rfl rfl rfl rfl ?_; clear HF a; intro a HF
     refine wl_ne ?_
     refine wp_ret ?_
     refine ex_block_ret ?_
     refine bp_ret1 HF Tryz.results42 (HF.res rfl) ?_
     exact ⟨rfl, HS.out.bel⟩
    ·clear HF; have HF := HF1; clear HF1
     refine wc_false HF rfl ?_
     refine wc_scope ?_
     refine wp_sr ?_
     refine wl_mv HF rfl rfl rfl rfl rfl ?_; clear HF a; intro a HF
     refine wl_y rfl HF rfl rfl (yl_runeS hu rfl (HF.ev rfl) (by kernel_rfl) (by kernel_rfl)) ?_; clear HF a; intro a HF
     refine wl_as HF rfl rfl rfl rfl rfl ?_; clear HF a; intro a HF
     refine wl_ne ?_
     refine wp_sr ?_
     refine wl_mv HF rfl rfl rfl rfl rfl ?_; clear HF a; intro a HF
     refine wl_y rfl HF rfl rfl (yl_lenS rfl (HF.ev rfl) (by kernel_rfl)) ?_; clear HF a; intro a HF
     refine wl_y rfl HF rfl rfl (yl_subI (r := ((u.size - 1 : Nat) : Int)) rfl (HF.ev rfl) (HF.ev rfl) ((i64w (by omega)).trans (by omega))) ?_; clear HF a; intro a HF
     refine wl_as HF rfl rfl rfl rfl rfl ?_; clear HF a; intro a HF
     refine wl_ne ?_
     refine wp_sr ?_
     refine wl_mv HF rfl rfl rfl rfl rfl ?_; clear HF a; intro a HF
     refine wl_as HF rfl rfl rfl rfl rfl ?_; clear HF a; intro a HF
     refine wl_ne ?_
     refine wp_sr ?_
     refine wl_as HF rfl rfl rfl rfl rfl ?_; clear HF a; intro a HF
     refine wl_ne ?_
     refine wp_seq ?_
     refine wp_block ?_
     refine wc_loop (ι := Nat) (fun k a w => (True) ∧ Fr 187 a [(0, .string c), (1, .int .i32 r), (7, .string u), (8, .int .i64 ((u.size - 1 : Nat) : Int)), (9, .int .i64 ((u.size - 1 : Nat) : Int)), (10, .int .i64 0)] ∧ St w0 ([]) w) (fun k => 0) 0 ⟨trivial, HF.less _ ⟨rfl, rfl, rfl, rfl, rfl, rfl, trivial⟩, HS.out⟩ ?_
     clear HF HS; clear a
     rintro k a w5 ⟨_, HF, HS⟩
     replace HS := Bx.mk HS
     refine wp_seq ?_
     refine wp_sr ?_
     refine wl_mv HF rfl rfl rfl rfl rfl ?_; clear HF a; intro a HF
     refine wl_mv HF rfl rfl rfl rfl rfl ?_; clear HF a; intro a HF
     refine wl_y rfl HF rfl rfl (yl_lenS rfl (HF.ev rfl) (by kernel_rfl)) ?_; clear HF a; intro a HF
     refine wl_y rfl HF rfl rfl (yl_lssI rfl (HF.ev rfl) (HF.ev rfl)) ?_; clear HF a; intro a HF
     refine wl_ne ?_
     refine HF.cases 26 rfl (fun cc6 HF1 => ?_) (fun cc6 HF1 => ?_)
     ·clear HF; have HF := HF1; clear HF1
      have dcc6 := of_decide_eq_true cc6
      refine wc_true HF rfl ?_
      refine wp_skip ?_
      refine ex_then ?_
      refine wp_block ?_
      refine wc_scope ?_
      refine wp_seq ?_
      refine wp_seq ?_
      refine wr_quiet (by kernel_rfl) (by kernel_rfl) HS.out ?_
      refine wq_y rfl HF rfl rfl (fun _ HS => (yl_move rfl (HF.ev rfl))) ?_; clear HF a; intro a HF
      refine wq_y rfl HF rfl rfl (fun _ HS => (yl_move rfl (HF.ev rfl))) ?_; clear HF a; intro a HF
      refine wq_y rfl HF rfl rfl (fun _ HS => (yl_indexS (i := u.size - 1) rfl (HF.ev rfl) (HF.ev rfl) (by kernel_rfl) (by omega) (by omega))) ?_; clear HF a; intro a HF
      refine wq_y rfl HF rfl rfl (fun _ HS => (yl_move rfl (HF.ev rfl))) ?_; clear HF a; intro a HF
      refine wq_y rfl HF rfl rfl (fun _ HS => (yl_move rfl (HF.ev rfl))) ?_; clear HF a; intro a HF
      refine wq_y rfl HF rfl rfl (fun _ HS => (yl_indexS (i := u.size - 1) rfl (HF.ev rfl) (HF.ev rfl) (by kernel_rfl) (by omega) (by omega))) ?_; clear HF a; intro a HF
      refine wq_y rfl HF rfl rfl (fun _ HS => (yl_neqI rfl (HF.ev rfl) (HF.ev rfl))) ?_; clear HF a; intro a HF
      refine wpQuiet_nil ?_; intro w6 HS; replace HS := Bx.mk HS
      refine ex_then ?_
      refine HF.cases 33 rfl (fun cc7 HF1 => ?_) (fun cc7 HF1 => ?_)
      ·clear HF; have HF := HF1; clear HF1
       have dcc7 := bne_iff_ne.1 cc7
       refine wc_true HF rfl ?_
       refine wp_seq ?_
       refine wr_quiet (by kernel_rfl) (by kernel_rfl) HS.out ?_
       refine wq_y rfl HF rfl rfl (fun _ HS => (yl_move rfl (HF.ev rfl))) ?_; clear HF a; intro a HF
       refine wq_y rfl HF rfl rfl (fun _ HS => (yl_move rfl (HF.ev rfl))) ?_; clear HF a; intro a HF
       refine wq_y rfl HF rfl rfl (fun _ HS => (yl_addI rfl (HF.ev rfl) (HF.ev rfl) (i64w (by omega)))) ?_; clear HF a; intro a HF
       refine wq_y rfl HF rfl rfl (fun _ HS => (yl_sliceSl (k := (u.size - 1) + 1) rfl (HF.ev rfl) (HF.ev rfl) (by kernel_rfl) (by omega) (by omega))) ?_; clear HF a; intro a HF
       refine wq_y rfl HF rfl rfl (fun _ HS => (yl_move rfl (HF.ev rfl))) ?_; clear HF a; intro a HF
       refine wq_y rfl HF rfl rfl (fun _ HS => (yl_move rfl (HF.ev rfl))) ?_; clear HF a; intro a HF
       refine wq_y rfl HF rfl rfl (fun _ HS => (yl_indexS (i := u.size - 1) rfl (HF.ev rfl) (HF.ev rfl) (by kernel_rfl) (by omega) (by omega))) ?_; clear HF a; intro a HF
       refine wq_call rfl HF rfl (enter_of Tryz.func56 (by kernel_rfl) rfl) (args := #[.string (c.extract ((u.size - 1) + 1) c.size), .int .u8 ((u.get! (u.size - 1)).toNat : Int)]) rfl (v := .int .i64 (-1)) (fun _ HS => indexByte_nil (c.extract ((u.size - 1) + 1) c.size) ((u.get! (u.size - 1)).toNat : Int) _ (by rw [ByteArray.size_extract]; omega)) rfl rfl ?_; clear HF a; intro a HF
       refine wq_y rfl HF rfl rfl (fun _ HS => (yl_assign rfl (HF.ev rfl))) ?_; clear HF a; intro a HF
       refine wpQuiet_nil ?_; intro w7 HS; replace HS := Bx.mk HS
       refine ex_then ?_
       refine wp_seq ?_
       refine wp_sr ?_
       refine wl_mv HF rfl rfl rfl rfl rfl ?_; clear HF a; intro a HF
       refine wl_y rfl HF rfl rfl (yl_lssI rfl (HF.ev rfl) (HF.ev rfl)) ?_; clear HF a; intro a HF
       refine wl_ne ?_
       replace HF := HF.know (k := 43) (c := true) rfl (by decide)
       refine wc_true HF rfl ?_
       refine wp_sr ?_
       refine wl_as HF rfl rfl rfl rfl rfl ?_; clear HF a; intro a HF
       refine wl_ne ?_
       refine wp_ret ?_
       refine ex_then_ret ?_
       refine ex_then_ret ?_
       refine ex_scope_ret ?_
       refine ex_block_ret ?_
       refine ex_then_ret ?_
       refine ex_block_ret ?_
       refine ex_then_ret ?_
       refine ex_scope_ret ?_
       refine ex_block_ret ?_
       refine bp_ret1 HF Tryz.results42 (HF.res rfl) ?_
       exact ⟨rfl, HS.out.bel⟩
      ·clear HF; have HF := HF1; clear HF1
       have dcc7 := bne_eq_false_iff_eq.1 cc7
       have := hb (u.size - 1) (by omega); omega
     ·clear HF; have HF := HF1; clear HF1
      have dcc6 := of_decide_eq_false cc6
      refine wc_false HF rfl ?_
      refine wp_exit ?_
      refine ex_then_exit ?_
      refine ex_then_exit ?_
      refine ex_block_hit ?_
      refine ex_then ?_
      refine wp_seq ?_
      refine wp_sr ?_
      refine wl_as HF rfl rfl rfl rfl rfl ?_; clear HF a; intro a HF
      refine wl_ne ?_
      refine wp_ret ?_
      refine ex_then_ret ?_
      refine ex_scope_ret ?_
      refine ex_block_ret ?_
      refine bp_ret1 HF Tryz.results42 (HF.res rfl) ?_
      exact ⟨rfl, HS.out.bel⟩
 ·clear HF; have HF := HF1; clear HF1
  have dcc1 := of_decide_eq_false cc1
  omega

theorem noAny_hi {s c : ByteArray} {k n : Nat} (h : Go.Lib.NoAny s.data.toList c.data.toList k) (hlow : ∀ b, b ∈ c.data.toList → b.toNat < 128) (hd : ∀ j, k ≤ j → j < k + n → 128 ≤ (s.get! j).toNat) : Go.Lib.NoAny s.data.toList c.data.toList (k + n) := fun j b hj hb => by
  rcases Nat.lt_or_ge j k with h1 | h1
  · exact h j b h1 hb
  · cases hc : c.data.toList.contains b with
    | false => rfl
    | true =>
      have h2 := hlow b (by simpa using hc)
      have h3 := hd j h1 hj
      have hlt : j < s.size := by rw [size_list]; exact (List.getElem?_eq_some_iff.1 hb).1
      rw [get_q hlt] at hb
      rw [Option.some.inj hb] at h3
      omega

theorem indexAny_small (s c : ByteArray) (w0 : World) (hs : s.size ≤ 8) (hc : c.size = 2) (hb : ∀ j, j < 2 → (c.get! j).toNat < 128) (hlow : ∀ b, b ∈ c.data.toList → b.toNat < 128) : Calls Tryz.prog 30 #[.string s, .string c] w0 fun e w' => e = .returned (.int .i64 (Go.Lib.indexAny s.data.toList c.data.toList)) ∧ Below w0.heap.size w0 w' := by
 have HS := Bx.mk (St.start w0)
 refine wc_enter Tryz.func30 rfl Tryz.ntmps30 [(0, .string s), (1, .string c)] ⟨rfl, rfl, trivial⟩ rfl ?_; intro a HF
 refine wp_sr ?_
 refine wl_as HF rfl rfl rfl rfl rfl ?_; clear HF a; intro a HF
 refine wl_ne ?_
 refine wp_seq ?_
 refine wp_sr ?_
 refine wl_mv HF rfl rfl rfl rfl rfl ?_; clear HF a; intro a HF
 refine wl_y rfl HF rfl rfl (yl_eqlS rfl (HF.ev rfl) (HF.ev rfl)) ?_; clear HF a; intro a HF
 refine wl_ne ?_
 refine HF.cases 12 rfl (fun cc1 HF1 => ?_) (fun cc1 HF1 => ?_)
 ·clear HF; have HF := HF1; clear HF1
  have := congrArg ByteArray.size (bytes_toList cc1); rw [hc] at this; exact absurd this (by decide)
 ·clear HF; have HF := HF1; clear HF1
  refine wc_false HF rfl ?_
  refine wp_skip ?_
  refine ex_then ?_
  refine wp_seq ?_
  refine wp_sr ?_
  refine wl_mv HF rfl rfl rfl rfl rfl ?_; clear HF a; intro a HF
  refine wl_y rfl HF rfl rfl (yl_lenS rfl (HF.ev rfl) (by kernel_rfl)) ?_; clear HF a; intro a HF
  refine wl_y rfl HF rfl rfl (yl_eqlI rfl (HF.ev rfl) (HF.ev rfl)) ?_; clear HF a; intro a HF
  refine wl_ne ?_
  refine HF.cases 15 rfl (fun cc2 HF1 => ?_) (fun cc2 HF1 => ?_)
  ·clear HF; have HF := HF1; clear HF1
   have dcc2 := eq_of_beq cc2
   omega
  ·clear HF; have HF := HF1; clear HF1
   have dcc2 := ne_of_beq_false cc2
   refine wc_false HF rfl ?_
   refine wp_skip ?_
   refine ex_then ?_
   refine wp_seq ?_
   refine wp_sr ?_
   refine wl_mv HF rfl rfl rfl rfl rfl ?_; clear HF a; intro a HF
   refine wl_y rfl HF rfl rfl (yl_lenS rfl (HF.ev rfl) (by kernel_rfl)) ?_; clear HF a; intro a HF
   refine wl_callB rfl HF rfl (enter_of Tryz.func43 (by kernel_rfl) rfl) (args := #[.int .i64 (s.size : Int)]) rfl (v := .bool (decide ((8 : Int) < (s.size : Int)))) (((Any.strings_shouldUseASCIISet laySA (s.size : Int) _).mono fun _ _ h => ⟨h.1, h.2.symm ▸ Below.refl _ _⟩)) rfl rfl HS.out ?_; clear HF HS a; intro w1 a HS HF; replace HS := Bx.mk HS
   refine wl_ne ?_
   refine HF.cases 26 rfl (fun cc3 HF1 => ?_) (fun cc3 HF1 => ?_)
   ·clear HF; have HF := HF1; clear HF1
    have dcc3 := of_decide_eq_true cc3
    omega
   ·clear HF; have HF := HF1; clear HF1
    have dcc3 := of_decide_eq_false cc3
    refine wc_false HF rfl ?_
    refine wp_skip ?_
    refine ex_then ?_
    refine wp_seq ?_
    refine wp_sr ?_
    refine wl_mv HF rfl rfl rfl rfl rfl ?_; clear HF a; intro a HF
    refine wl_rangeS rfl HF rfl (t' := s) (HF.ev rfl) Tryz.underlying9 rfl rfl HS.out ?_; clear HF HS a; intro a w2 b1 HF HS; replace HS := Bx.mk HS
    refine wl_ne ?_
    refine wp_block ?_
    refine wc_loop (ι := Nat) (fun k a w => (k ≤ s.size ∧ Go.Lib.NoAny s.data.toList c.data.toList k) ∧ Fr 55 a [(0, .string s), (1, .string c), (45, .pointer (some ⟨b1, 0, none⟩))] ∧ St w0 ([objA b1 (.stringIter s k)]) w) (fun k => s.size - k) 0 ⟨⟨Nat.zero_le _, Go.Lib.NoAny.zero _ _⟩, HF.less _ ⟨rfl, rfl, rfl, trivial⟩, HS.out⟩ ?_
    clear HF HS; clear a
    rintro k a w3 ⟨⟨hk, hno⟩, HF, HS⟩
    replace HS := Bx.mk HS
    refine wp_sr ?_
    refine wl_nextS rfl HF rfl (HF.ev rfl) rfl rfl HS.out 0 rfl (fun hpos a1 HF1 => ?_) (fun hpos a1 w4 HF1 HS1 => ?_)
    ·skip
     clear HF; clear a; rename Act => a; have HF := HF1; clear HF1
     refine wl_y rfl HF rfl rfl (yl_extract rfl (HF.ev rfl) rfl) ?_; clear HF a; intro a HF
     refine wl_ne ?_
     refine wp_seq ?_
     refine wc_false HF rfl ?_
     refine wp_exit ?_
     refine ex_then_exit ?_
     refine ex_then_exit ?_
     refine ex_block_hit ?_
     refine ex_then ?_
     refine wp_sr ?_
     refine wl_as HF rfl rfl rfl rfl rfl ?_; clear HF a; intro a HF
     refine wl_ne ?_
     refine wp_ret ?_
     refine bp_ret1 HF Tryz.results30 (HF.res rfl) ?_
     exact ⟨by rw [Go.Lib.indexAny_none (by rw [show s.data.toList.length = k from by rw [← size_list]; omega]; exact hno)], HS.out.bel⟩
    ·skip
     clear HF HS a; rename Act => a; have HF := HF1; have HS := Bx.mk HS1; clear HF1 HS1
     rcases Nat.lt_or_ge (s.get! k).toNat 128 with hlo | hhi
     ·skip
      have hdl := decode_lo hpos (hlo); rw [hdl.1] at HF; rw [hdl.2] at HS
      replace HS : Bx (St w0 ([objA b1 (.stringIter s (k + 1))]) _) := ⟨HS.out⟩
      refine wl_y rfl HF rfl rfl (yl_extract rfl (HF.ev rfl) rfl) ?_; clear HF a; intro a HF
      refine wl_ne ?_
      refine wp_seq ?_
      refine wc_true HF rfl ?_
      refine wp_skip ?_
      refine ex_then ?_
      refine wp_block ?_
      refine wp_sr ?_
      refine wl_y rfl HF rfl rfl (yl_extract rfl (HF.ev rfl) rfl) ?_; clear HF a; intro a HF
      refine wl_y rfl HF rfl rfl (yl_extract rfl (HF.ev rfl) rfl) ?_; clear HF a; intro a HF
      refine wl_as HF rfl rfl rfl rfl rfl ?_; clear HF a; intro a HF
      refine wl_as HF rfl rfl rfl rfl rfl ?_; clear HF a; intro a HF
      refine wl_ne ?_
      refine wp_sr ?_
      refine wl_mv HF rfl rfl rfl rfl rfl ?_; clear HF a; intro a HF
      refine wl_mv HF rfl rfl rfl rfl rfl ?_; clear HF a; intro a HF
      refine wl_callB rfl HF rfl (enter_of Tryz.func42 (by kernel_rfl) rfl) (args := #[.string c, .int .i32 ((s.get! k).toNat : Int)]) rfl (v := .int .i64 (Go.Lib.indexByte c.data.toList (s.get! k))) (((Any.strings_IndexRune_ascii layIR c ((s.get! k).toNat : Int) _ (by omega) (by omega)).mono fun _ _ h => ⟨h.1.trans (by rw [show (((s.get! k).toNat : Int)).toNat.toUInt8 = s.get! k from by simp]), h.2 ▸ Below.refl _ _⟩)) rfl rfl HS.out ?_; clear HF HS a; intro w5 a HS HF; replace HS := Bx.mk HS
      refine wl_y rfl HF rfl rfl (yl_geqI rfl (HF.ev rfl) (HF.ev rfl)) ?_; clear HF a; intro a HF
      refine wl_ne ?_
      refine HF.cases 53 rfl (fun cc4 HF1 => ?_) (fun cc4 HF1 => ?_)
      ·clear HF; have HF := HF1; clear HF1
       have dcc4 := of_decide_eq_true cc4
       refine wc_true HF rfl ?_
       refine wp_sr ?_
       refine wl_mv HF rfl rfl rfl rfl rfl ?_; clear HF a; intro a HF
       refine wl_as HF rfl rfl rfl rfl rfl ?_; clear HF a; intro a HF
       refine wl_ne ?_
       refine wp_ret ?_
       refine ex_block_ret ?_
       refine ex_then_ret ?_
       refine ex_block_ret ?_
       refine ex_then_ret ?_
       refine bp_ret1 HF Tryz.results30 (HF.res rfl) ?_
       have hcon := Go.Lib.contains_iff_indexByte c.data.toList (s.get! k); rw [decide_eq_true (by omega)] at hcon; exact ⟨by rw [Go.Lib.indexAny_hit hno (get_q hpos) hcon]; rfl, HS.out.bel⟩
      ·clear HF; have HF := HF1; clear HF1
       have dcc4 := of_decide_eq_false cc4
       refine wc_false HF rfl ?_
       refine wp_skip ?_
       refine ex_block ?_
       refine ex_then ?_
       have hcon := Go.Lib.contains_iff_indexByte c.data.toList (s.get! k); rw [decide_eq_false (by omega)] at hcon
       have hnx := hno.succ (get_q hpos) hcon
       exact ⟨k + 1, ⟨⟨by omega, hnx⟩, HF.less _ ⟨rfl, rfl, rfl, trivial⟩, HS.out⟩, (by omega)⟩
     ·skip
      have hdh := decode_hi hpos hhi
      refine wl_y rfl HF rfl rfl (yl_extract rfl (HF.ev rfl) rfl) ?_; clear HF a; intro a HF
      refine wl_ne ?_
      refine wp_seq ?_
      refine wc_true HF rfl ?_
      refine wp_skip ?_
      refine ex_then ?_
      refine wp_block ?_
      refine wp_sr ?_
      refine wl_y rfl HF rfl rfl (yl_extract rfl (HF.ev rfl) rfl) ?_; clear HF a; intro a HF
      refine wl_y rfl HF rfl rfl (yl_extract rfl (HF.ev rfl) rfl) ?_; clear HF a; intro a HF
      refine wl_as HF rfl rfl rfl rfl rfl ?_; clear HF a; intro a HF
      refine wl_as HF rfl rfl rfl rfl rfl ?_; clear HF a; intro a HF
      refine wl_ne ?_
      refine wp_sr ?_
      refine wl_mv HF rfl rfl rfl rfl rfl ?_; clear HF a; intro a HF
      refine wl_mv HF rfl rfl rfl rfl rfl ?_; clear HF a; intro a HF
      refine wl_callB rfl HF rfl (enter_of Tryz.func42 (by kernel_rfl) rfl) (args := #[.string c, .int .i32 ((Utf8.decode s k).1 : Int)]) rfl (v := .int .i64 (-1)) (indexRune_hi c ((Utf8.decode s k).1 : Int) _ (by omega) hc hb) rfl rfl HS.out ?_; clear HF HS a; intro w6 a HS HF; replace HS := Bx.mk HS
      refine wl_y rfl HF rfl rfl (yl_geqI rfl (HF.ev rfl) (HF.ev rfl)) ?_; clear HF a; intro a HF
      refine wl_ne ?_
      replace HF := HF.know (k := 53) (c := false) rfl (by decide)
      refine wc_false HF rfl ?_
      refine wp_skip ?_
      refine ex_block ?_
      refine ex_then ?_
      have hnx := noAny_hi hno hlow hdh.2.2.2
      exact ⟨k + (Utf8.decode s k).2, ⟨⟨by omega, hnx⟩, HF.less _ ⟨rfl, rfl, rfl, trivial⟩, HS.out⟩, (by omega)⟩

theorem indexAny_any (s c : ByteArray) (w0 : World) (hs : s.size ≤ 4294967280) (hc : c.size = 2) (hb : ∀ j, j < 2 → (c.get! j).toNat < 128) (hlow : ∀ b, b ∈ c.data.toList → b.toNat < 128) : Calls Tryz.prog 30 #[.string s, .string c] w0 fun e w' => e = .returned (.int .i64 (Go.Lib.indexAny s.data.toList c.data.toList)) ∧ Below w0.heap.size w0 w' := by
  rcases Nat.lt_or_ge 8 s.size with h8 | h8
  · have hz := zero_of_info (show (Tryz.prog.info? 67).map (fun i => (i.zero, i.size)) = some (some (.agg (Array.replicate 256 (.bool false))), 256) by kernel_rfl)
    refine (Any.strings_IndexAny_long layIA hz.1 hz.2 s c w0 (by omega) h8 (by omega) (by omega) (fun j b h => hlow b (List.mem_of_getElem? h))).mono ?_
    rintro e w' ⟨rfl, rfl⟩
    exact ⟨rfl, ((Below.refl _ _).alloc (Nat.le_refl _) _).alloc (by rw [sz_alloc]; omega) _⟩
  · exact indexAny_small s c w0 h8 hc hb hlow

theorem containsAny_any (s c : ByteArray) (w0 : World) (hs : s.size ≤ 4294967280) (hc : c.size = 2) (hb : ∀ j, j < 2 → (c.get! j).toNat < 128) (hlow : ∀ b, b ∈ c.data.toList → b.toNat < 128) : Calls Tryz.prog 14 #[.string s, .string c] w0 fun e w' => e = .returned (.bool (Go.Lib.containsAny s.data.toList c.data.toList)) ∧ Below w0.heap.size w0 w' := by
 have HS := Bx.mk (St.start w0)
 refine wc_enter Tryz.func14 rfl Tryz.ntmps14 [(0, .string s), (1, .string c)] ⟨rfl, rfl, trivial⟩ rfl ?_; intro a HF
 refine wp_sr ?_
 refine wl_as HF rfl rfl rfl rfl rfl ?_; clear HF a; intro a HF
 refine wl_ne ?_
 refine wp_sr ?_
 refine wl_mv HF rfl rfl rfl rfl rfl ?_; clear HF a; intro a HF
 refine wl_mv HF rfl rfl rfl rfl rfl ?_; clear HF a; intro a HF
 refine wl_callB rfl HF rfl (enter_of Tryz.func30 (by kernel_rfl) rfl) (args := #[.string s, .string c]) rfl (v := .int .i64 (Go.Lib.indexAny s.data.toList c.data.toList)) (indexAny_any s c _ hs hc hb hlow) rfl rfl HS.out ?_; clear HF HS a; intro w1 a HS HF; replace HS := Bx.mk HS
 refine wl_y rfl HF rfl rfl (yl_geqI rfl (HF.ev rfl) (HF.ev rfl)) ?_; clear HF a; intro a HF
 refine wl_as HF rfl rfl rfl rfl rfl ?_; clear HF a; intro a HF
 refine wl_ne ?_
 refine wp_ret ?_
 refine bp_ret1 HF Tryz.results14 (HF.res rfl) ?_
 exact ⟨rfl, HS.out.bel⟩

end Go.Proofs.YtnikdicehddehaaGreatDoor
