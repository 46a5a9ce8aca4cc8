/- A call's own boxes: blocks that are known whole, by the value that they hold. No program in sight. -/
import Derived.Test.YtkgmilobmbeplaaMem
import Derived.Test.YtkgmilobmbeplaaClone
namespace Go.Proofs.Ytkgmilobmbeplaa
open Go.RowKit

theorem Outside.set {B B1 : Nat} {w w' : World} (h : Outside B B1 w w') {p : Addr} (hp : B ≤ p.block ∧ p.block < B1) (u : Value) : Outside B B1 w (w'.setCell p u) :=
  h.trans ⟨rfl, rfl, rfl, by rw [sz_set]; exact Nat.le_refl _, fun k _ ho => Below.heap_setCell w' p u k (by omega)⟩

/-- Block b is a box of type t that holds the value, of n cells. -/
structure Box (w : World) (b n : Nat) (t : TypeId) (v : Value) : Prop where
  ex : ∃ cs : List Value, v = .agg cs.toArray ∧ cs.length = n ∧ (∀ u ∈ cs, u.oneCell' = true) ∧ w.heap[b]? = some (.cells cs.toArray t (0, 0))
/-- A value of n cells. -/
structure Cells (n : Nat) (v : Value) : Prop where
  ex : ∃ cs : List Value, v = .agg cs.toArray ∧ cs.length = n ∧ (∀ u ∈ cs, u.oneCell' = true)
theorem Box.cells {w : World} {b n : Nat} {t : TypeId} {v : Value} (h : Box w b n t v) : Cells n v := by
  obtain ⟨cs, e, hl, h1, _⟩ := h
  exact ⟨cs, e, hl, h1⟩
theorem Box.lt {w : World} {b n : Nat} {t : TypeId} {v : Value} (h : Box w b n t v) : b < w.heap.size := by
  obtain ⟨cs, _, _, _, hh⟩ := h
  exact blk_lt hh
theorem Box.below {w w' : World} {C b n : Nat} {t : TypeId} {v : Value} (h : Box w b n t v) (hb : Below C w w') (hC : w.heap.size ≤ C) : Box w' b n t v := by
  obtain ⟨cs, e, hl, h1, hh⟩ := h
  exact ⟨cs, e, hl, h1, blk_below hh hb hC⟩
theorem Box.outside {w w' : World} {B B1 b n : Nat} {t : TypeId} {v : Value} (h : Box w b n t v) (hb : Outside B B1 w w') (hr : b < B ∨ B1 ≤ b) : Box w' b n t v := by
  obtain ⟨cs, e, hl, h1, hh⟩ := h
  exact ⟨cs, e, hl, h1, blk_outside hh hb hr⟩
theorem Box.all {w w' : World} {vs : List Value} {b n : Nat} {t : TypeId} {v : Value} (h : Box w b n t v) (hb : GrownAll vs w w') (hv : ∀ v ∈ vs, Value.rowBlock v ≠ some b) : Box w' b n t v := by
  obtain ⟨cs, e, hl, h1, hh⟩ := h
  exact ⟨cs, e, hl, h1, blk_all hh hb hv⟩
theorem Box.alloc {w : World} {b n : Nat} {t : TypeId} {v : Value} (h : Box w b n t v) (o : Obj) : Box (w.alloc o) b n t v := h.below ((Below.refl _ _).alloc (Nat.le_refl _) o) (Nat.le_refl _)
theorem Box.setCell {w : World} {b n : Nat} {t : TypeId} {v : Value} (h : Box w b n t v) {p : Addr} (hp : b ≠ p.block) (u : Value) : Box (w.setCell p u) b n t v := by
  obtain ⟨cs, e, hl, h1, hh⟩ := h
  exact ⟨cs, e, hl, h1, blk_set_other hh hp u⟩
theorem Box.new (w : World) (cs : List Value) (t : TypeId) (h1 : (cs.all fun u => u.oneCell') = true) {b : Nat} (hb : b = w.heap.size) : Box (w.alloc (.cells cs.toArray t)) b cs.length t (.agg cs.toArray) :=
  ⟨cs, rfl, rfl, fun u hu => List.all_eq_true.1 h1 u hu, blk_new w _ b hb⟩
theorem Box.range {w : World} {b n : Nat} {t : TypeId} {v : Value} (h : Box w b n t v) : ∃ cs : List Value, v = .agg cs.toArray ∧ cs.length = n ∧ w.rangeAt b 0 cs := by
  obtain ⟨cs, e, hl, h1, hh⟩ := h
  exact ⟨cs, e, hl, fun j u hu => by rw [blk_cell hh]; simpa using hu⟩
/-- One cell of a box. -/
theorem Box.cell {w : World} {b n : Nat} {t : TypeId} {l : Array Value} (h : Box w b n t (.agg l)) (i : Nat) : w.cell? ⟨b, i, none⟩ = l[i]? := by
  obtain ⟨cs, e, hl, h1, hh⟩ := h
  obtain rfl : l = cs.toArray := by simpa using e
  exact blk_cell hh i
theorem Box.frozen {w : World} {b n : Nat} {t : TypeId} {v : Value} (h : Box w b n t v) (i : Nat) : w.frozen? ⟨b, i, none⟩ = false := by
  obtain ⟨cs, e, hl, h1, hh⟩ := h
  exact blk_frozen hh i
theorem Box.block {w : World} {b n : Nat} {t : TypeId} {l : Array Value} (h : Box w b n t (.agg l)) : w.heap[b]? = some (.cells l t (0, 0)) := by
  obtain ⟨cs, e, hl, h1, hh⟩ := h
  obtain rfl : l = cs.toArray := by simpa using e
  exact hh
theorem Box.of_block {w : World} {b : Nat} {t : TypeId} {cs : List Value} (hh : w.heap[b]? = some (.cells cs.toArray t (0, 0))) (h1 : (cs.all fun u => u.oneCell') = true) : Box w b cs.length t (.agg cs.toArray) :=
  ⟨cs, rfl, rfl, fun u hu => List.all_eq_true.1 h1 u hu, hh⟩

/-! ### A whole value stored into a box -/
theorem blk_setCells {b : Nat} {t : TypeId} : ∀ (vs : List Value) (o : Nat) (w : World) (cs : List Value), w.heap[b]? = some (.cells cs.toArray t (0, 0)) → o + vs.length ≤ cs.length →
    (w.setCells b o vs).heap[b]? = some (.cells (splice cs o vs).toArray t (0, 0)) ∧ Outside b (b + 1) w (w.setCells b o vs) ∧ (w.setCells b o vs).heap.size = w.heap.size
  | [], o, w, cs, h, _ => by
    refine ⟨?_, Outside.refl _ _ _, rfl⟩
    have : splice cs o [] = cs := by unfold splice; simp
    rw [this]; exact h
  | v :: vs, o, w, cs, h, hl => by
    simp only [List.length_cons] at hl
    have h0 : (w.setCell ⟨b, o, none⟩ v).heap[b]? = some (.cells (cs.set o v).toArray t (0, 0)) := by
      have := blk_set (i := o) h v
      simpa using this
    obtain ⟨h1, h2, h3⟩ := blk_setCells vs (o + 1) _ (cs.set o v) h0 (by simp; omega)
    rw [splice_cons cs o v vs hl] at h1
    exact ⟨h1, ((Outside.refl b (b + 1) w).set ⟨Nat.le_refl _, Nat.lt_succ_self _⟩ v).trans h2, h3.trans (sz_set _ _ _)⟩
theorem Box.put {w : World} {b n : Nat} {t : TypeId} {u v : Value} (h : Box w b n t u) (hv : Cells n v) : ∃ cells : Array Value, v = .agg cells ∧ cells.size = n ∧ cells.all (·.oneCell') = true ∧ w.there b 0 n ∧
    Box (w.setCells b 0 cells.toList) b n t v ∧ Outside b (b + 1) w (w.setCells b 0 cells.toList) ∧ (w.setCells b 0 cells.toList).heap.size = w.heap.size := by
  obtain ⟨cs, rfl, hl, h1, hh⟩ := h
  obtain ⟨ds, rfl, hd, g1⟩ := hv
  obtain ⟨k1, k2, k3⟩ := blk_setCells ds 0 w cs hh (by omega)
  have hs : splice cs 0 ds = ds := by
    unfold splice
    rw [List.drop_of_length_le (by omega)]
    simp
  rw [hs] at k1
  refine ⟨ds.toArray, rfl, by simpa using hd, all_oneCell_toArray g1, fun j hj => ⟨by rw [blk_cell hh]; simp; omega, blk_frozen hh _⟩, ⟨ds, rfl, hd, g1, k1⟩, k2, k3⟩

theorem below_put {w w' : World} {o : Obj} (hO : Outside w.heap.size (w.heap.size + 1) (w.alloc o) w') : Below w.heap.size w w' := ((Below.refl _ _).alloc (Nat.le_refl _) o).trans (hO.below (by rw [sz_alloc]; omega))
theorem Outside.row {b : Nat} {w w' : World} (h : Outside b (b + 1) w w') : w.grownBy w' (some b) := ⟨h.os, h.tape, h.output, h.size, fun k hk hne => h.block k hk (by have : k ≠ b := fun e => hne (by rw [e]); omega)⟩
theorem RowO.box {α : Type} {enc : α → List Value} {size : Nat} {e : TypeId} {w w' : World} {B B1 : Nat} {v : Value} {xs : List α} (h : RowO enc size e w B B1 v xs) {b : Nat} (hO : Outside b (b + 1) w w') (hne : ∀ g, Value.rowBlock v = some g → g < b) : RowO enc size e w' B B1 v xs :=
  h.grown hO.row (by
    cases hr : Value.rowBlock v with
    | none => exact .inl rfl
    | some g => exact .inr (fun e => by have := hne g hr; have := Option.some.inj e; omega))
theorem GrownAll.box {vs : List Value} {w w2 w3 : World} (h : GrownAll vs w w2) {b : Nat} (hO : Outside b (b + 1) w2 w3) (hb : w.heap.size ≤ b) : GrownAll vs w w3 :=
  ⟨hO.os.trans h.os, hO.tape.trans h.tape, hO.output.trans h.output, Nat.le_trans h.size hO.size, fun k hk hne => (hO.block k (Nat.lt_of_lt_of_le hk h.size) (by omega)).trans (h.block k hk hne)⟩
theorem Box.putField {w : World} {b n : Nat} {t : TypeId} {l : Array Value} (h : Box w b n t (.agg l)) (i : Nat) {u : Value} (hu : u.oneCell' = true) : Box (w.setCell ⟨b, i, none⟩ u) b n t (.agg (l.setIfInBounds i u)) := by
  obtain ⟨cs, e, hl, h1, hh⟩ := h
  obtain rfl : l = cs.toArray := by simpa using e
  refine ⟨cs.set i u, by simp, by simp [hl], fun x hx => ?_, by have := blk_set (i := i) hh u; simpa using this⟩
  rcases List.mem_or_eq_of_mem_set hx with h | h
  · exact h1 x h
  · rw [h]; exact hu

section
variable {P : Program}
theorem run_loadVar_box {w : World} {b n : Nat} {t : TypeId} {v : Value} (hb : Box w b n t v) (ty : TypeId) (d : TypeDesc) (hu : P.underlying ty = some d) (hd : d.isRow = true) (hi : (P.info? ty).map (·.size) = some n) : (loadVar ty ⟨b, 0, none⟩).run P w = .ok v w := by
  obtain ⟨cs, rfl, rfl, hr⟩ := hb.range
  exact run_loadVar_mid w b 0 ty cs d hr hu hd hi
theorem run_loadAt_box {w : World} {b n : Nat} {t : TypeId} {v : Value} (hb : Box w b n t v) (ty : TypeId) (d : TypeDesc) (hu : P.underlying ty = some d) (hd : d.isRow = true) (hi : (P.info? ty).map (·.size) = some n) : (Instr.loadAt ty (.pointer (some ⟨b, 0, none⟩))).run P w = .ok v w := by
  obtain ⟨cs, rfl, rfl, hr⟩ := hb.range
  exact run_loadAt_mid w b 0 ty cs d hr hu hd hi
theorem wp_load_box {op : Oper} {a : Act} {w : World} {K : Act → World → Prop} {Q : Exit → Act → World → Prop} (ty : TypeId) (x : Operand) (ho : op.op = .load ty x)
    (b n : Nat) (t : TypeId) (v : Value) (hx : a.eval x = .pointer (some ⟨b, 0, none⟩)) (hb : Box w b n t v) (d : TypeDesc)
    (hu : P.underlying ty = some d) (hd : d.isRow = true) (hi : (P.info? ty).map (·.size) = some n)
    (h : K (a.put op.dst v) w) : op.wp P a w K Q := by
  obtain ⟨cs, rfl, rfl, hr⟩ := hb.range
  exact wp_load_mid ty x ho b 0 hx cs d hr hu hd hi h
theorem wpList_load_box {ops : Array Oper} {rest : List Oper} {op : Oper} {a : Act} {w : World} {Q : Exit → Act → World → Prop} (hgd : op.guard = none) (ty : TypeId) (x : Operand) (ho : op.op = .load ty x)
    (b n : Nat) (t : TypeId) (v : Value) (hx : a.eval x = .pointer (some ⟨b, 0, none⟩)) (hb : Box w b n t v) (d : TypeDesc)
    (hu : P.underlying ty = some d) (hd : d.isRow = true) (hi : (P.info? ty).map (·.size) = some n)
    (h : wpList P ops Q rest (a.put op.dst v) w) : wpList P ops Q (op :: rest) a w := by
  obtain ⟨cs, rfl, rfl, hr⟩ := hb.range
  exact wpList_load_mid hgd ty x ho b 0 hx cs d hr hu hd hi h
/-- The same of an operation whose guard says yes. -/
theorem wpList_load_boxg {ops : Array Oper} {rest : List Oper} {op : Oper} {a : Act} {w : World} {Q : Exit → Act → World → Prop} (ty : TypeId) (x : Operand) (ho : op.op = .load ty x) (hw : Region.wanted op (yielded ops a.tmps) = true)
    (b n : Nat) (t : TypeId) (v : Value) (hx : a.eval x = .pointer (some ⟨b, 0, none⟩)) (hb : Box w b n t v) (d : TypeDesc)
    (hu : P.underlying ty = some d) (hd : d.isRow = true) (hi : (P.info? ty).map (·.size) = some n)
    (h : wpList P ops Q rest (a.put op.dst v) w) : wpList P ops Q (op :: rest) a w :=
  BigFrame.wpList_want hw fun _ hK => wp_load_box ty x ho b n t v hx hb d hu hd hi (hK _ _ h)
theorem wpList_store_box {ops : Array Oper} {rest : List Oper} {op : Oper} {a : Act} {w : World} {Q : Exit → Act → World → Prop} (hgd : op.guard = none) (ty : TypeId) (x y : Operand) (ho : op.op = .store ty x y)
    (b n : Nat) (t : TypeId) (u v : Value) (hx : a.eval x = .pointer (some ⟨b, 0, none⟩)) (hy : a.eval y = v) (hb : Box w b n t u) (hv : Cells n v)
    (hi : (P.info? ty).map (·.size) = some n)
    (h : ∀ w', Box w' b n t v → Outside b (b + 1) w w' → w'.heap.size = w.heap.size → wpList P ops Q rest (a.put op.dst undef) w') : wpList P ops Q (op :: rest) a w := by
  obtain ⟨cells, rfl, rfl, h1, ht, k1, k2, k3⟩ := hb.put hv
  exact wpList_store_mid hgd ty x y ho b 0 cells hx hy ht hi h1 (h _ k1 k2 k3)
end
end Go.Proofs.Ytkgmilobmbeplaa
