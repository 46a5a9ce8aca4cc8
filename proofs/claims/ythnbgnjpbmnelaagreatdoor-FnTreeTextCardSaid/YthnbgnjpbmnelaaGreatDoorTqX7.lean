/- A part of the proof in YthnbgnjpbmnelaaGreatDoorTqX34. -/
import Derived.Deep.AppendLies
import Derived.Test.YthnbgnjpbmnelaaGreatDoorTqX6
namespace Go.Proofs.YthnbgnjpbmnelaaGreatDoor
set_option linter.unusedVariables false
set_option linter.unusedSimpArgs false
set_option maxHeartbeats 1000000
set_option maxRecDepth 100000
open Go.RowKit
section
variable {W w w' : World} {s : List Asr} {α : Type} {enc : α → List Value} {size : Nat} {e : TypeId}
theorem St.rowBlk (hS : St W s w) (i : Nat) {ao : Option Addr} {n cap : Nat} {xs : List α} (hi : s[i]? = some (Zg enc size e (.slice ao n cap) xs)) :
  n = xs.length ∧ ((cap = 0 ∧ xs = []) ∨ (cap ≠ 0 ∧ ∃ g cur, ao = some ⟨g, 0, none⟩ ∧ w.heap[g]? = some (.cells cur e (0, 0)) ∧ n ≤ cap ∧ cap ≤ maxLen ∧ cur.size = cap * size ∧ cur.toList.take (n * size) = xs.flatMap enc ∧ W.heap.size ≤ g)) := by
 obtain ⟨ao', cap', hv, hc, _⟩ := hS.row i hi;simp only [Value.slice.injEq] at hv;obtain ⟨rfl, rfl, rfl⟩ := hv;refine ⟨rfl, ?_⟩
 by_cases h0 : cap = 0
 ·rcases hc with h | ho
  ·exact .inl h
  ·obtain ⟨_, _, hv, hle, _⟩ := XE ho
   simp only [Value.slice.injEq, true_and] at hv;obtain ⟨rfl, rfl⟩ := hv;exact .inl ⟨h0, List.length_eq_zero_iff.1 (by omega)⟩
 ·refine .inr ⟨h0, ?_⟩
  rcases hc with h | ho
  ·exact absurd h.1 h0
  ·rcases ho.2 with ⟨hv, _⟩ | ⟨g, cap', cur, hv, hB, hg, h1, h2, h3, h4⟩
   ·simp only [Value.slice.injEq] at hv
    exact absurd hv.2.2 h0
   ·simp only [Value.slice.injEq, true_and] at hv
    obtain ⟨rfl, rfl⟩ := hv;exact ⟨g, cur, rfl, hg, h1, h2, h3, h4, hB⟩
theorem St.rowNew (hS : St W s w) {g cap : Nat} {cur : Array Value} {ys : List α} (hb : Below w.heap.size w w') (hg : w'.heap[g]? = some (.cells cur e (0, 0))) (hw : w.heap.size ≤ g) (hz : cur.size = cap * size) (hl : ys.length ≤ cap) (hm : cap ≤ maxLen)
  (ht : cur.toList.take (ys.length * size) = ys.flatMap enc) : St W (Zg enc size e (.slice (some ⟨g, 0, none⟩) ys.length cap) ys :: s) w' := by
 refine hS.add (ns := [_]) (St.ofRow (B1 := w'.heap.size) ⟨_, cap, rfl, .inr ⟨?_, .inr ⟨g, cap, cur, rfl, hw, hg, hl, hm, hz, ht⟩⟩, fun g' h => ?_⟩ hb)
 ·rw [← ht, List.length_take]; have : ys.length * size ≤ cap * size := Nat.mul_le_mul_right size hl; simp; omega
 ·simp only [Value.rowBlock] at h
  split at h
  ·cases h
  ·obtain rfl := Option.some.inj h; exact Vm hg
end
section
variable {P : Program} {w : World} {α : Type}
theorem Zc1 (t ty e : TypeId) (i : TypeInfo) (ht : P.underlying t = some (.slice e)) (hi : P.info? e = some i) (ao : Option Addr) (n cap : Nat) (hn : n ≤ cap) (ao2 : Option Addr) (c2 : Nat) :
  (Builtin.append_ #[t, t] ty #[.slice ao n cap, .slice ao2 0 c2]).run P w = .ok (.slice ao n cap) w := by
 have hfc : (Builtin.firstCells i.size 0 (.slice ao2 0 c2)).run P w = .ok #[] w := by
  cases ao2 with
  | none => simp [Builtin.firstCells]
  | some ad => exact run_firstCells_some (P := P) w i.size 0 ad 0 c2 [] (by simp) (by simp)
 cases ao <;> simp [Builtin.append_, run_underlying ht, sizeOf, typeInfo, hi, Builtin.lenOf, hfc, storeCells, hn]
theorem Zlj (t ty e : TypeId) (i : TypeInfo) (z : Value) (size bytes : Nat) (ht : P.underlying t = some (.slice e)) (hi : P.info? e = some i) (hz : i.zero = some z)
  (hsize : i.size = size) (hby : i.bytes = bytes) (hzs : z.cells.size = size) (hsz : 0 < size)
  {enc : α → List Value} (he : ∀ x, (enc x).length = size) {B B1 : Nat} {v : Value} {xs : List α} (h : RowO enc size e w B B1 v xs) (hB : B ≤ w.heap.size) (ao2 : Option Addr) (c2 : Nat) (ys : List α)
  (hr : Rd enc size w ao2 ys.length ys) (h1 : ∀ u ∈ ys.flatMap enc, u.oneCell' = true) (h63 : xs.length + ys.length ≤ maxLen) (hbytes : (xs.length + ys.length) * bytes ≤ 140737488355328) :
  ∃ ao cap w', (Builtin.append_ #[t, t] ty #[v, .slice ao2 ys.length c2]).run P w = .ok (.slice ao (xs.length + ys.length) cap) w' ∧ RowO enc size e w' B w'.heap.size (.slice ao (xs.length + ys.length) cap) (xs ++ ys) ∧
   w.grownBy w' (Value.rowBlock v) ∧ ∀ g, Value.rowBlock (.slice ao (xs.length + ys.length) cap) = some g → Value.rowBlock v = some g ∨ w.heap.size ≤ g := by
 by_cases hy : ys = []
 ·subst hy
  obtain ⟨ao, cap, rfl, ho, hg⟩ := h;have hle : xs.length ≤ cap := by
   rcases ho with ho | ho
   ·rw [ho.2]; exact Nat.zero_le _
   ·obtain ⟨_, _, hv, hle, _⟩ := XE ho
    simp only [Value.slice.injEq, true_and] at hv;obtain ⟨rfl, rfl⟩ := hv;exact hle
  refine ⟨ao, cap, w, Zc1 t ty e i ht hi ao _ cap hle ao2 c2, ?_, ⟨rfl, rfl, rfl, Nat.le_refl _, fun _ _ _ => rfl⟩, fun g hg => .inl hg⟩;have hlt := RowO.lt (show RowO enc size e w B B1 (.slice ao xs.length cap) xs from ⟨ao, cap, rfl, ho, hg⟩);rw [List.append_nil];exact ⟨ao, cap, rfl, ho, fun g hg => (hlt g hg).2.2⟩
 ·have hpos : 0 < ys.length := List.length_pos_iff.2 hy
  obtain ⟨ad, rfl⟩ : ∃ ad, ao2 = some ad := by
   cases ao2 with
   | none => exact absurd (Zk4 hr) hy
   | some ad => exact ⟨ad, rfl⟩
  have hnews := hr.news he hsz;have hnl := Vl _ _ he ys;obtain ⟨ao, cap, rfl, ho, hg⟩ := h;have hle : (xs ++ ys).length = xs.length + ys.length := by simp
  have hfl : (xs ++ ys).flatMap enc = xs.flatMap enc ++ ys.flatMap enc := by simp
  have mkR : ∀ {w' : World} {C C1 : Nat} {v' : Value}, w'.ownsRow C e size v' (xs.length + ys.length) (xs.flatMap enc ++ ys.flatMap enc) → (∀ g, v'.ownBlock = some g → g < C1) → RowO enc size e w' C C1 v' (xs ++ ys) := fun h k => RowO.mk (by rw [hle, hfl]; exact h) k
  by_cases h0 : cap = 0
  ·have hx : xs = [] := by
    rcases ho with ho | ho
    ·exact ho.2
    ·obtain ⟨_, _, hv, hle, _⟩ := XE ho
     simp only [Value.slice.injEq, true_and] at hv;obtain ⟨rfl, rfl⟩ := hv;exact List.length_eq_zero_iff.1 (by omega)
   subst hx;subst h0;rw [QU]
   cases ao with
   | none =>
    obtain ⟨g, cap, w', hrun, hown, hgr, _, hlt⟩ := run_append_lies (P := P) (w := w) t ty w.heap.size e i z size bytes ht hi hz hsize hby hzs hsz (.slice none 0 0) 0 [] ⟨by simp, .inl ⟨rfl, rfl⟩⟩ ad ys.length c2 (ys.flatMap enc) hnl hnews h1 hpos h63 hbytes (Nat.le_refl _) w.heap.size rfl;refine ⟨some ⟨g, 0, none⟩, cap, w', hrun, ?_, hgr, fun g' h => ?_⟩
    ·refine (mkR (by simpa using hown) (fun g' h => ?_)).mono hB (Nat.le_refl _)
     simp only [Value.ownBlock, Option.some.injEq] at h
     omega
    ·right
     have := (hown.lt g' (XO h)).1;exact this
   | some a0 =>
    obtain ⟨v', w', hrun, hown, hgr⟩ := run_append_arg_grows (P := P) (w := w) t ty e i z size bytes ht hi hz hsize hby hzs hsz a0 0 0 [] (by simp) (by simp) ad ys.length c2 (ys.flatMap enc) hnl hnews (by omega) h63 hbytes;obtain ⟨ao', cap', rfl, _⟩ := XE hown;refine ⟨ao', cap', w', hrun, ?_, hgr, fun g' h => ?_⟩
    ·refine (mkR (by simpa using hown) (fun g' h => (hown.lt g' h).2)).mono hB (Nat.le_refl _)
    ·right
     exact (hown.lt g' (XO h)).1
  ·have ho' : w.ownsRow B e size (.slice ao xs.length cap) xs.length (xs.flatMap enc) := by
    rcases ho with ho | ho
    ·exact absurd ho.1 h0
    ·exact ho
   obtain ⟨g, cap', w', hrun, hown, hgr, hor, hlt⟩ := run_append_lies (P := P) (w := w) t ty B e i z size bytes ht hi hz hsize hby hzs hsz _ xs.length _ ho' ad ys.length c2 (ys.flatMap enc) hnl hnews h1 hpos h63 hbytes hB w.heap.size rfl;rw [Jd h0];refine ⟨some ⟨g, 0, none⟩, cap', w', hrun, ?_, hgr, fun g' h => ?_⟩
   ·refine mkR hown (fun g' h => ?_)
    simp only [Value.ownBlock, Option.some.injEq] at h
    omega
   ·have := XO h
    simp only [Value.ownBlock, Option.some.injEq] at this;subst this;rcases hor with h | h
    ·exact .inl h
    ·exact .inr (by omega)
end
section
variable {W w : World} {s : List Asr} {α : Type} {enc : α → List Value} {size : Nat} {e : TypeId}
theorem St.capLe (hS : St W s w) (i : Nat) {ao : Option Addr} {n cap : Nat} {xs : List α} (hi : s[i]? = some (Zg enc size e (.slice ao n cap) xs)) : xs.length ≤ cap := by
 obtain ⟨rfl, ⟨rfl, rfl⟩ | ⟨h0, g, cur, rfl, hg, h1, _⟩⟩ := hS.rowBlk i hi
 ·exact Nat.le_refl _
 ·exact h1
theorem Rd.take {ao : Option Addr} {n : Nat} {xs : List α} (h : Rd enc size w ao n xs) {k : Nat} (hk : k ≤ xs.length) : Rd enc size w ao k (xs.take k) := by
 refine ⟨by rw [List.length_take]; omega, fun i hi => ?_⟩;rw [List.length_take] at hi;have := h.2 i (by omega);rw [List.getElem?_take, if_pos (by omega)];exact this
theorem St.rdN (h : St W s w) (he : ∀ x, (enc x).length = size) (i : Nat) {ao : Option Addr} {n cap : Nat} {xs : List α} (hi : s[i]? = some (Zg enc size e (.slice ao n cap) xs)) : Rd enc size w ao n xs := by
 obtain ⟨rfl, _⟩ := h.rowBlk i hi;exact h.rdOf he i hi
theorem V2 (enc : α → List Value) (size : Nat) (w : World) (ao : Option Addr) : Rd enc size w ao 0 [] := ⟨rfl, fun i hi => absurd hi (Nat.not_lt_zero _)⟩
end
structure Ur (P : Program) (t e : TypeId) (size bytes : Nat) : Prop where
  ht : P.underlying t = some (.slice e)
  info : ∃ i z, P.info? e = some i ∧ i.zero = some z ∧ i.size = size ∧ i.bytes = bytes ∧ z.cells.size = size
  pos : 0 < size
section
variable {P : Program} {ops : Array Oper} {Q : Exit → Act → World → Prop} {rest : List Oper} {o : Oper} {a : Act} {w W : World} {N : Nat} {l : List (Nat × Value)} {s : List Asr} {α : Type} {enc : α → List Value} {size : Nat} {e : TypeId}
theorem St.appL (hS : St W s w) {t : TypeId} {bytes : Nat} (hT : Ur P t e size bytes) (ty : TypeId) (he : ∀ x, (enc x).length = size) (i : Nat) {v : Value} {xs : List α} (hi : s[i]? = some (Zg enc size e v xs)) {ao2 : Option Addr} {n c2 : Nat} {ys : List α} (hr : Rd enc size w ao2 n ys) (h1 : ∀ u ∈ ys.flatMap enc, u.oneCell' = true)
  (h63 : xs.length + ys.length ≤ maxLen) (hbytes : (xs.length + ys.length) * bytes ≤ 140737488355328) :
  ∃ ao cap w', (Builtin.append_ #[t, t] ty #[v, .slice ao2 n c2]).run P w = .ok (.slice ao (xs.length + ys.length) cap) w' ∧ St W (s.set i (Zg enc size e (.slice ao (xs.length + ys.length) cap) (xs ++ ys))) w' := by
 obtain ⟨i0, z, hi0, hz0, k1, k2, k3⟩ := hT.info;obtain rfl : n = ys.length := hr.1.symm;obtain ⟨ao, cap, w', hrun, hrow, hgr, hor⟩ := Zlj (P := P) t ty e i0 z size bytes hT.ht hi0 hz0 k1 k2 k3 hT.pos he (hS.row i hi) hS.bel.size ao2 c2 ys hr h1 h63 hbytes;exact ⟨ao, cap, w', hrun, hS.mutRow i hi hrow hgr hor⟩
theorem Zi8 {t : TypeId} {x y : Operand} (ho : o.op = .call { callee := .builtin .append, args := #[x, y], argTypes := #[t, t] }) {u v r : Value} (hx : a.eval x = u) (hy : a.eval y = v) {w' : World} (h : (Builtin.append_ #[t, t] o.type #[u, v]).run P w = .ok r w') : (execOp a.eval o).run P w = .ok (.value r) w' := by
 unfold execOp;simp only [ho, resolve, invoke, builtin, Sem.run_bind, Sem.run_pure, Result.andThen_ok, List.map_toArray, List.map_cons, List.map_nil, hx, hy, h]
theorem Xo (hg : o.guard = none) (hF : Fr N a l) {t : TypeId} {x y : Operand} (ho : o.op = .call { callee := .builtin .append, args := #[x, y], argTypes := #[t, t] }) {d : Nat} (hd : o.dst = some d) (hN : Nat.blt d N = true) {v : Value} {ao2 : Option Addr} {n c2 : Nat} (hx : a.eval x = v) (hy : a.eval y = .slice ao2 n c2)
  {bytes : Nat} (hT : Ur P t e size bytes) (he : ∀ x, (enc x).length = size) (hS : St W s w) (i : Nat) {xs : List α} (hi : s[i]? = some (Zg enc size e v xs)) {ys : List α} (hr : Rd enc size w ao2 n ys) (h1 : ∀ u ∈ ys.flatMap enc, u.oneCell' = true)
  (h63 : xs.length + ys.length ≤ maxLen) (hbytes : (xs.length + ys.length) * bytes ≤ 140737488355328)
  (h : ∀ ao cap w' a', Fr N a' ((d, .slice ao (xs.length + ys.length) cap) :: l) → St W (s.set i (Zg enc size e (.slice ao (xs.length + ys.length) cap) (xs ++ ys))) w' → wpList P ops Q rest a' w') : wpList P ops Q (o :: rest) a w := by
 obtain ⟨ao, cap, w', hrun, hS'⟩ := hS.appL hT o.type he i hi (c2 := c2) hr h1 h63 hbytes;refine wpList_plain hg fun K hK => ?_;unfold Oper.wp;rw [Zi8 ho hx hy hrun];exact hK _ _ (hd ▸ h _ _ _ _ (hF.put (Nat.le_of_ble_eq_true hN) _) hS')
theorem Xp {i0 : Nat} {K : Act → World → Prop} (hi0 : ops[i0]? = some o) (hg : o.guard = none) (hF : Fr N a l) {t : TypeId} {x y : Operand} (ho : o.op = .call { callee := .builtin .append, args := #[x, y], argTypes := #[t, t] }) {d : Nat} (hd : o.dst = some d) (hN : Nat.blt d N = true) {v : Value} {ao2 : Option Addr} {n c2 : Nat} (hx : a.eval x = v) (hy : a.eval y = .slice ao2 n c2)
  {bytes : Nat} (hT : Ur P t e size bytes) (he : ∀ x, (enc x).length = size) (hS : St W s w) (i : Nat) {xs : List α} (hi : s[i]? = some (Zg enc size e v xs)) {ys : List α} (hr : Rd enc size w ao2 n ys) (h1 : ∀ u ∈ ys.flatMap enc, u.oneCell' = true)
  (h63 : xs.length + ys.length ≤ maxLen) (hbytes : (xs.length + ys.length) * bytes ≤ 140737488355328)
  (h : ∀ ao cap w' a', Fr N a' ((d, .slice ao (xs.length + ys.length) cap) :: l) → St W (s.set i (Zg enc size e (.slice ao (xs.length + ys.length) cap) (xs ++ ys))) w' → K a' w') : wpOp P ops Q i0 K a w := by
 obtain ⟨ao, cap, w', hrun, hS'⟩ := hS.appL hT o.type he i hi (c2 := c2) hr h1 h63 hbytes;refine Vg hi0 hg ?_;unfold Oper.wp;rw [Zi8 ho hx hy hrun];exact (show K (a.put o.dst _) w' by rw [hd]; exact h _ _ _ _ (hF.put (Nat.le_of_ble_eq_true hN) _) hS')
theorem Zlk {i0 : Nat} {K : Act → World → Prop} (hi0 : ops[i0]? = some o) (hg : o.guard = none) (hF : Fr N a l) {t : TypeId} (ho : o.op = .buildSlice t 0 #[]) {d : Nat} (hd : o.dst = some d) (hN : Nat.blt d N = true) (hu : Yv P t = some (e, size)) {s2 : List Asr} (hS2 : St W s2 w) (hS : St W s w)
  (h : ∀ a' w' b, Fr N a' ((d, .slice (some ⟨b, 0, none⟩) 0 0) :: l) → St W s2 w' → St W s w' → K a' w') : wpOp P ops Q i0 K a w := by
 unfold Yv at hu
 split at hu
 ·rename_i e' hu'
  split at hu
  ·rename_i inf hq
   refine Vg hi0 hg ?_;have hr : (execOp a.eval o).run P w = .ok (.value (.slice (some ⟨w.heap.size, 0, none⟩) 0 0)) (w.alloc (.cells #[] e')) := by
    unfold execOp;simp only [ho, Instr.buildSlice, Sem.run_bind, run_underlying hu' w, Result.andThen_ok, Jw hq w];simp [Instr.fill, newRow, go_sem]
   unfold Oper.wp;rw [hr];exact (show K (a.put o.dst _) _ by rw [hd]; exact h _ _ _ (hF.put (Nat.le_of_ble_eq_true hN) _) (hS2.later ((Below.refl _ _).alloc (Nat.le_refl _) _)) (hS.later ((Below.refl _ _).alloc (Nat.le_refl _) _)))
  ·cases hu
 ·cases hu
theorem Jy {t : TypeId} {x y : Operand} (ho : o.op = .slice t x none (some y) none) {ao : Option Addr} {n cap : Nat} (hx : a.eval x = .slice ao n cap) {kk : IntKind} {m : Int} (hy : a.eval y = .int kk m) {size : Nat} (hu : Yv P t = some (e, size)) {k : Nat} (hm : m = (k : Int)) (hk : k ≤ cap) : Yl P w o a (.slice ao k cap) := by
 unfold Yv at hu
 split at hu
 ·rename_i e' hu'
  split at hu
  ·rename_i inf hq
   subst hm;have h2 : ((k : Int) ≤ (cap : Int)) := by omega
   unfold Yl execOp;simp only [ho, hx, hy, Option.map_some, Option.map_none, Instr.sliceAt, Instr.slice, Sem.run_bind, run_underlying hu' w, Result.andThen_ok];simp [Instr.slice, Instr.sliceBounds, Instr.sliceBound, asIntOf, go_sem, run_underlying hu' w, sizeOf, typeInfo, hq, h2];intro hlt; omega
  ·cases hu
 ·cases hu
theorem Zi9 {x y : Operand} {tt : Array TypeId} (ho : o.op = .call { callee := .builtin .min, args := #[x, y], argTypes := tt }) {k : IntKind} {m n : Int} (hx : a.eval x = .int k m) (hy : a.eval y = .int k n) : Yl P w o a (.int k (min m n)) := by
 unfold Yl execOp;simp only [ho, resolve, invoke, builtin, Sem.run_bind, Sem.run_pure, Result.andThen_ok, List.map_toArray, List.map_cons, List.map_nil, hx, hy];simp only [Builtin.min_, List.foldlM_cons, List.foldlM_nil, Builtin.min2];simp [go_sem, Int.min_def]
 split <;> split <;> omega
theorem ZfP {x y : Operand} {tt : Array TypeId} (ho : o.op = .call { callee := .builtin .max, args := #[x, y], argTypes := tt }) {k : IntKind} {m n : Int} (hx : a.eval x = .int k m) (hy : a.eval y = .int k n) : Yl P w o a (.int k (max m n)) := by
 unfold Yl execOp;simp only [ho, resolve, invoke, builtin, Sem.run_bind, Sem.run_pure, Result.andThen_ok, List.map_toArray, List.map_cons, List.map_nil, hx, hy];simp only [Builtin.max_, List.foldlM_cons, List.foldlM_nil, Builtin.max2];simp [go_sem, Int.max_def]
 split <;> split <;> omega
theorem Fr.skipU (h : Fr N a l) {g d : Nat} {b : Bool} (ho : o.guard = some (g, b)) (hg : (ops[g]?).bind (·.dst) = some d) (hb : lk l d = some undef) : Region.wanted o (yielded ops a.tmps) = false := by
 simp [Region.wanted, ho, yielded, hg, h.at_ d _ hb, undef]
theorem Zll (hF : Fr N a l) {g dg d : Nat} {b : Bool} (hgd : o.guard = some (g, b)) (hgo : (ops[g]?).bind (·.dst) = some dg) (hgv : lk l dg = some (.bool b)) {f : FuncId} {xs : Array Operand} {ts : Array TypeId} (ho : o.op = .call { callee := .value (.func f), args := xs, argTypes := ts }) (hc : ∀ (args : Array Value) (w : World), (callFunc f args).run P w = .ok (.enter f args) w)
  {args : Array Value} (hx : xs.toList.mapM (evO l) = some args.toList) {R : Ending → World → Prop} (hR : Calls P f args w R) (hd : o.dst = some d) (hN : Nat.blt d N = true)
  (h : ∀ e w', R e w' → ∃ v, e = .returned v ∧ ∀ a', Fr N a' ((d, v) :: l) → wpList P ops Q rest a' w') : wpList P ops Q (o :: rest) a w := by
 refine wpList_step fun K hK => ?_;rw [if_pos (hF.want hgd hgo hgv)];refine UW f xs ts ho hc ?_;rw [Zbe hF hx];refine hR.mono fun e w' hr => ?_;obtain ⟨v, hv, hk⟩ := h e w' hr;exact ⟨v, hv, hK _ _ (hd ▸ hk _ (hF.put (Nat.le_of_ble_eq_true hN) v))⟩
theorem ZgI (hF : Fr N a l) {ps0 : Array (Nat × Operand)} {ps : List (Nat × Value)} (hp : ps0.toList.mapM (fun p => (evO l p.2).map fun v => (p.1, v)) = some ps) : (ps0.map fun (i, x) => (i, a.eval x)).toList = ps := by
 rw [Array.toList_map];have key : ∀ (ys : List (Nat × Operand)) (vs : List (Nat × Value)), ys.mapM (fun p => (evO l p.2).map fun v => (p.1, v)) = some vs → ys.map (fun (i, x) => (i, a.eval x)) = vs := by
  intro ys
  induction ys with
  | nil => intro vs hv; simpa using hv
  | cons y r ih =>
   obtain ⟨yi, yx⟩ := y;intro vs hv;rw [List.mapM_cons] at hv
   cases h1 : evO l yx with
   | none => rw [h1] at hv; cases hv
   | some v =>
    rw [h1] at hv
    cases h2 : r.mapM (fun p => (evO l p.2).map fun v => (p.1, v)) with
    | none => rw [h2] at hv; cases hv
    | some us =>
     rw [h2] at hv;obtain rfl : (yi, v) :: us = vs := by simpa using hv
     rw [List.map_cons, ih us h2];show (yi, a.eval yx) :: us = _;rw [hF.ev h1]
 exact key _ _ hp
def Zbf (P : Program) (t : TypeId) (len : Nat) (parts : List (Nat × Value)) : Option (TypeId × Nat × List Value) :=
 match P.underlying t with
 | some (.slice e) => match P.info? e with
  | some inf => match inf.zero with
   | some z => if 2 ^ 24 < len * inf.size then none else if len * inf.size = 0 then none else
    match Instr.fill (fun i => some (i * inf.size, inf.size)) ((Array.range (len * inf.size)).map (z.cells[· % z.cells.size]!)) parts with
    | some cells => some (e, inf.size, cells.toList)
    | none => none
   | none => none
  | none => none
 | _ => none
theorem ZjR (hg : o.guard = none) (hF : Fr N a l) {t : TypeId} {len : Nat} {ps0 : Array (Nat × Operand)} (ho : o.op = .buildSlice t len ps0) {d : Nat} (hd : o.dst = some d) (hN : Nat.blt d N = true) {ps : List (Nat × Value)} (hp : ps0.toList.mapM (fun p => (evO l p.2).map fun v => (p.1, v)) = some ps)
  {cells : List Value} (hb : Zbf P t len ps = some (e, size, cells)) (xs : List α) (hl : xs.length = len) (hx : xs.flatMap enc = cells) (hm : len ≤ maxLen) (hc : cells.length = len * size) (hS : St W s w)
  (h : ∀ b a' w', Fr N a' ((d, .slice (some ⟨b, 0, none⟩) len len) :: l) → St W (Zg enc size e (.slice (some ⟨b, 0, none⟩) len len) xs :: s) w' → wpList P ops Q rest a' w') : wpList P ops Q (o :: rest) a w := by
 have hps := ZgI hF hp;unfold Zbf at hb
 split at hb
 ·rename_i e' hu
  split at hb
  ·rename_i inf hq
   split at hb
   ·rename_i z hz
    split at hb
    ·cases hb
    ·rename_i hbig
     split at hb
     ·cases hb
     ·rename_i hnz
      split at hb
      ·rename_i cs hf
       simp only [Option.some.injEq, Prod.mk.injEq] at hb;obtain ⟨rfl, rfl, rfl⟩ := hb;refine wpList_plain hg fun K hK => ?_;have hr : (execOp a.eval o).run P w = .ok (.value (.slice (some ⟨w.heap.size, 0, none⟩) len len)) (w.alloc (.cells cs e')) := by
        unfold execOp;simp only [ho, Instr.buildSlice, Sem.run_bind, run_underlying hu w, Result.andThen_ok, Jw hq w, hps];simp only [if_neg hbig, if_neg hnz, Sem.run_bind, Sem.run_pure, Result.andThen_ok, Zdj hq hz w, hf];simp [newRow, go_sem]
       unfold Oper.wp;rw [hr];refine hK _ _ (hd ▸ h _ _ _ (hF.put (Nat.le_of_ble_eq_true hN) _) ?_);have hn := hS.rowNew (w' := w.alloc (.cells cs e')) (enc := enc) (size := inf.size) (ys := xs) (cap := len) ((Below.refl _ _).alloc (Nat.le_refl _) _) (XA w _ _ rfl) (Nat.le_refl _) (by simpa using hc) (by omega) hm (by rw [hx, hl, List.take_of_length_le (by omega)]);rw [hl] at hn;exact hn
      ·cases hb
   ·cases hb
  ·cases hb
 ·cases hb
theorem Z3 {i0 : Nat} {K : Act → World → Prop} (hi0 : ops[i0]? = some o) (hg : o.guard = none) (hF : Fr N a l) {t : TypeId} {len : Nat} {ps0 : Array (Nat × Operand)} (ho : o.op = .buildSlice t len ps0) {d : Nat} (hd : o.dst = some d) (hN : Nat.blt d N = true) {ps : List (Nat × Value)} (hp : ps0.toList.mapM (fun p => (evO l p.2).map fun v => (p.1, v)) = some ps)
  {cells : List Value} (hb : Zbf P t len ps = some (e, size, cells)) (xs : List α) (hl : xs.length = len) (hx : xs.flatMap enc = cells) (hm : len ≤ maxLen) (hc : cells.length = len * size) {s2 : List Asr} (hS2 : St W s2 w) (hS : St W s w)
  (h : ∀ b a' w', Fr N a' ((d, .slice (some ⟨b, 0, none⟩) len len) :: l) → St W (Zg enc size e (.slice (some ⟨b, 0, none⟩) len len) xs :: s2) w' → St W s w' → K a' w') : wpOp P ops Q i0 K a w := by
 have hps := ZgI hF hp;unfold Zbf at hb
 split at hb
 ·rename_i e' hu
  split at hb
  ·rename_i inf hq
   split at hb
   ·rename_i z hz
    split at hb
    ·cases hb
    ·rename_i hbig
     split at hb
     ·cases hb
     ·rename_i hnz
      split at hb
      ·rename_i cs hf
       simp only [Option.some.injEq, Prod.mk.injEq] at hb;obtain ⟨rfl, rfl, rfl⟩ := hb;refine Vg hi0 hg ?_;have hr : (execOp a.eval o).run P w = .ok (.value (.slice (some ⟨w.heap.size, 0, none⟩) len len)) (w.alloc (.cells cs e')) := by
        unfold execOp;simp only [ho, Instr.buildSlice, Sem.run_bind, run_underlying hu w, Result.andThen_ok, Jw hq w, hps];simp only [if_neg hbig, if_neg hnz, Sem.run_bind, Sem.run_pure, Result.andThen_ok, Zdj hq hz w, hf];simp [newRow, go_sem]
       unfold Oper.wp;rw [hr];have hn := hS2.rowNew (w' := w.alloc (.cells cs e')) (enc := enc) (size := inf.size) (ys := xs) (cap := len) ((Below.refl _ _).alloc (Nat.le_refl _) _) (XA w _ _ rfl) (Nat.le_refl _) (by simpa using hc) (by omega) hm (by rw [hx, hl, List.take_of_length_le (by omega)]);rw [hl] at hn;exact (show K (a.put o.dst _) _ by rw [hd]; exact h _ _ _ (hF.put (Nat.le_of_ble_eq_true hN) _) hn (hS.later ((Below.refl _ _).alloc (Nat.le_refl _) _)))
      ·cases hb
   ·cases hb
  ·cases hb
 ·cases hb
end
section
variable {P : Program} {ops : Array Oper} {Q : Exit → Act → World → Prop} {K : Act → World → Prop} {rest : List Oper} {o : Oper} {a : Act} {w : World} {N : Nat} {l : List (Nat × Value)}
theorem Zja {id : Nat} {l : List Oper} {y : Code} (h : wpList P l.toArray (Exit.then (y.wp P Q) Q) l a w) : (Code.seq (Code.region id l.toArray false) y).wp P Q a w := wp_seq (wp_region_lit h)
theorem Zbg (h : K a w) : wpList P ops (Exit.then K Q) [] a w := wpList_nil (YW h)
theorem ZoY (hF : Fr N a l) (hg : o.guard = none) {d : Nat} (hd : o.dst = some d) (hN : Nat.blt d N = true) {x : Operand} (ho : o.op = .assign x) {v : Value} (hx : evO l x = some v) (h : ∀ a', Fr N a' ((d, v) :: l) → wpList P ops Q rest a' w) : wpList P ops Q (o :: rest) a w := ZoW hg hF hd hN (ZeN ho (hF.ev hx)) h
theorem za (hF : Fr N a l) {d : Nat} {x : Operand} {v : Value} (h : ∀ a', Fr N a' ((d, v) :: l) → wpList P ops Q rest a' w) (hg : o.guard = none := by exact rfl) (hd : o.dst = some d := by exact rfl) (hN : Nat.blt d N = true := by exact rfl) (ho : o.op = .assign x := by exact rfl) (hx : evO l x = some v := by exact rfl) : wpList P ops Q (o :: rest) a w := ZoY hF hg hd hN ho hx h
theorem zy (hF : Fr N a l) {d : Nat} {v : Value} (hy : Yl P w o a v) (h : ∀ a', Fr N a' ((d, v) :: l) → wpList P ops Q rest a' w) (hg : o.guard = none := by exact rfl) (hd : o.dst = some d := by exact rfl) (hN : Nat.blt d N = true := by exact rfl) : wpList P ops Q (o :: rest) a w := ZoW hg hF hd hN hy h
theorem zg (hF : Fr N a l) {g dg d : Nat} {b : Bool} {v : Value} (hy : Yl P w o a v) (h : ∀ a', Fr N a' ((d, v) :: l) → wpList P ops Q rest a' w) (hgd : o.guard = some (g, b) := by exact rfl) (hgo : (ops[g]?).bind (·.dst) = some dg := by exact rfl) (hgv : lk l dg = some (.bool b) := by exact rfl) (hd : o.dst = some d := by exact rfl) (hN : Nat.blt d N = true := by exact rfl) : wpList P ops Q (o :: rest) a w := ZoX hF hgd hgo hgv hd hN hy h
section
variable {W : World} {s : List Asr} {Q : Act → Prop}
end
section
variable {W : World} {s : List Asr} {Q : Exit → Act → World → Prop} {fuel : Nat} {listed : Array Bool}
end
end
section
variable {P : Program} {w : World} {o : Oper} {a : Act} {x y z : Operand} {t t' : TypeId}
theorem ylo (ho : o.op = .load t x) {p : Addr} (hx : a.eval x = .pointer (some p)) {v : Value} (hc : w.cell? p = some v) (hs : Yx P t = true := by kernel_rfl) : Yl P w o a v := J3 ho hx hc hs
theorem ylr (ho : o.op = .load t x) {b k : Nat} (hx : a.eval x = .pointer (some ⟨b, k, none⟩)) {cs : List Value} (hc : w.rangeAt b k cs) (hs : XH P t cs.length = true := by kernel_rfl) : Yl P w o a (.agg cs.toArray) := Vq ho hx hc hs
theorem yfa (j : Nat) {i : Nat} (ho : o.op = .fieldAddr t x i) {b k : Nat} (hx : a.eval x = .pointer (some ⟨b, k, none⟩)) (hj : Jv P t i = some j := by kernel_rfl) : Yl P w o a (.pointer (some ⟨b, k + j, none⟩)) := Zbd ho hx hj
end
def Znb : List Value → Nat → Option Value
 | [], _ => none
 | v :: _, 0 => some v
 | _ :: r, i + 1 => Znb r i
theorem ZfQ : ∀ (xs : List Value) (i : Nat), Znb xs i = xs[i]?
 | [], _ => rfl
 | _ :: _, 0 => rfl
 | _ :: r, i + 1 => ZfQ r i
def ZoZ : BinOp → Int → Int → Option Value
 | .eql, m, n => some (.bool (m == n))
 | .neq, m, n => some (.bool (m != n))
 | .lss, m, n => some (.bool (decide (m < n)))
 | .leq, m, n => some (.bool (decide (m ≤ n)))
 | .gtr, m, n => some (.bool (decide (n < m)))
 | .geq, m, n => some (.bool (decide (n ≤ m)))
 | _, _, _ => none
def auV (l : List (Nat × Value)) : Op → Option Value
 | .move x => evO l x
 | .assign x => evO l x
 | .extract x i => match evO l x with
  | some (.tuple vs) => Znb vs.toList i
  | _ => none
 | .nilCheck x => match evO l x with
  | some (.pointer (some p)) => some (.pointer (some p))
  | _ => none
 | .unOp .not _ x => match evO l x with
  | some (.bool b) => some (.bool !b)
  | _ => none
 | .pick z x y => match evO l z with
  | some (.bool true) => evO l x
  | some (.bool false) => evO l y
  | _ => none
 | .binOp op _ x y _ => match evO l x with
  | some (.int k m) => match evO l y with
   | some (.int k' n) => match decide (k = k') with
    | true => ZoZ op m n
    | false => none
   | _ => none
  | _ => none
 | _ => none
theorem Zh9 {P : Program} {w : World} {o : Oper} {a : Act} {N : Nat} {l : List (Nat × Value)} (hF : Fr N a l) {p : Op} (ho : o.op = p) {v : Value} (h : auV l p = some v) : Yl P w o a v := by
 unfold auV at h
 split at h
 ·exact YV ho (hF.ev h)
 ·exact ZeN ho (hF.ev h)
 ·split at h
  ·rename_i hx
   exact Zh6 ho (hF.ev hx) (by rw [ZfQ] at h; simpa using h)
  ·cases h
 ·split at h
  ·rename_i hx
   obtain rfl := Option.some.inj h;exact Qh ho (hF.ev hx)
  ·cases h
 ·split at h
  ·rename_i hx
   obtain rfl := Option.some.inj h;exact Zol ho (hF.ev hx)
  ·cases h
 ·split at h
  ·rename_i hx
   exact ZjO ho (hF.ev hx) (hF.ev h)
  ·rename_i hx
   exact ZjP ho (hF.ev hx) (hF.ev h)
  ·cases h
 ·split at h
  ·rename_i hx
   split at h
   ·rename_i hy
    split at h
    ·rename_i hk
     obtain rfl := of_decide_eq_true hk;unfold ZoZ at h
     split at h
     ·obtain rfl := Option.some.inj h; exact Zm2 ho (hF.ev hx) (hF.ev hy)
     ·obtain rfl := Option.some.inj h; exact Zm3 ho (hF.ev hx) (hF.ev hy)
     ·obtain rfl := Option.some.inj h; exact Zm4 ho (hF.ev hx) (hF.ev hy)
     ·obtain rfl := Option.some.inj h; exact Zm5 ho (hF.ev hx) (hF.ev hy)
     ·obtain rfl := Option.some.inj h; exact Zm6 ho (hF.ev hx) (hF.ev hy)
     ·obtain rfl := Option.some.inj h; exact Zm7 ho (hF.ev hx) (hF.ev hy)
     ·cases h
    ·cases h
   ·cases h
  ·cases h
 ·cases h
def auG (ops : Array Oper) (l : List (Nat × Value)) (o : Oper) : Option Bool := match o.guard with
 | none => some true
 | some (g, b) => match (ops[g]?).bind (·.dst) with
  | none => none
  | some dg => match lk l dg with
   | some (.bool c) => some (c == b)
   | some (.tuple vs) => match vs.toList with
    | [] => some false
    | _ => none
   | _ => none
def auS (N : Nat) (ops : Array Oper) (l : List (Nat × Value)) (o : Oper) : Option (Nat × Value) := match o.dst with
 | none => none
 | some d => match Nat.blt d N with
  | false => none
  | true => match auG ops l o with
   | none => none
   | some false => some (d, undef)
   | some true => match auV l o.op with
    | some v => some (d, v)
    | none => none
def auR (N : Nat) (ops : Array Oper) : Nat → List Oper → List (Nat × Value) → Option (List Oper × List (Nat × Value))
 | 0, r, l => some (r, l)
 | _ + 1, [], _ => none
 | n + 1, o :: r, l => match auS N ops l o with
  | some (d, v) => auR N ops n r ((d, v) :: l)
  | none => none
theorem Vs {ops : Array Oper} {l : List (Nat × Value)} {o : Oper} {a : Act} {N : Nat} (hF : Fr N a l) {c : Bool} (h : auG ops l o = some c) : Region.wanted o (yielded ops a.tmps) = c := by
  unfold auG at h
  split at h
  · rename_i hg
    obtain rfl := Option.some.inj h;exact J1 hg
  · rename_i g b hg
    split at h
    · cases h
    · rename_i dg hd
      split at h
      · rename_i c' hl
        obtain rfl := Option.some.inj h
        cases hc : (c' == b) with
        | true => obtain rfl : c' = b := by simpa using hc
                  exact hF.want hg hd hl
        | false => exact hF.skip hg hd hl hc
      · rename_i vs hl
        split at h
        · rename_i hv
          obtain rfl := Option.some.inj h;have : vs = #[] := by simpa using hv
          subst this;exact hF.skipU hg hd hl
        · cases h
      · cases h
theorem zr (n : Nat) {P : Program} {ops : Array Oper} {Q : Exit → Act → World → Prop} {rest r : List Oper} {a : Act} {w : World} {N : Nat} {l l' : List (Nat × Value)} (hF : Fr N a l) (hr : auR N ops n rest l = some (r, l')) (h : ∀ a', Fr N a' l' → wpList P ops Q r a' w) : wpList P ops Q rest a w := by
 induction n generalizing rest l a with
 | zero =>
  simp only [auR, Option.some.injEq, Prod.mk.injEq] at hr;obtain ⟨rfl, rfl⟩ := hr;exact h a hF
 | succ n ih =>
  cases rest with
  | nil => cases hr
  | cons o rest =>
   unfold auR at hr
   split at hr
   ·rename_i d v hs
    unfold auS at hs
    split at hs
    ·cases hs
    ·rename_i d' hd
     split at hs
     ·cases hs
     ·rename_i hN
      split at hs
      ·cases hs
      ·rename_i hg
       simp only [Option.some.injEq, Prod.mk.injEq] at hs;obtain ⟨rfl, rfl⟩ := hs;refine wpList_step fun K hK => ?_;rw [if_neg (by rw [Vs hF hg]; simp)];exact hK _ _ (hd ▸ ih (hF.put (Nat.le_of_ble_eq_true hN) undef) hr)
      ·rename_i hg
       split at hs
       ·rename_i v' hv
        simp only [Option.some.injEq, Prod.mk.injEq] at hs;obtain ⟨rfl, rfl⟩ := hs;refine wpList_step fun K hK => ?_;rw [if_pos (Vs hF hg)];unfold Oper.wp;rw [show (execOp a.eval o).run P w = _ from Zh9 hF rfl hv];exact hK _ _ (hd ▸ ih (hF.put (Nat.le_of_ble_eq_true hN) _) hr)
       ·cases hs
   ·cases hr
theorem zrq (n : Nat) {P : Program} {ops : Array Oper} {W : World} {s : List Asr} {Q : Act → Prop} {rest r : List Oper} {a : Act} {N : Nat} {l l' : List (Nat × Value)} (hF : Fr N a l) (hr : auR N ops n rest l = some (r, l')) (h : ∀ a', Fr N a' l' → wpQuiet P ops (St W s) Q r a') : wpQuiet P ops (St W s) Q rest a := by
 induction n generalizing rest l a with
 | zero =>
  simp only [auR, Option.some.injEq, Prod.mk.injEq] at hr;obtain ⟨rfl, rfl⟩ := hr;exact h a hF
 | succ n ih =>
  cases rest with
  | nil => cases hr
  | cons o rest =>
   unfold auR at hr
   split at hr
   ·rename_i d v hs
    unfold auS at hs
    split at hs
    ·cases hs
    ·rename_i d' hd
     split at hs
     ·cases hs
     ·rename_i hN
      split at hs
      ·cases hs
      ·rename_i hg
       simp only [Option.some.injEq, Prod.mk.injEq] at hs;obtain ⟨rfl, rfl⟩ := hs;refine wpQuiet_step fun K hK => ?_;rw [if_neg (by rw [Vs hF hg]; simp)];exact hK _ (hd ▸ ih (hF.put (Nat.le_of_ble_eq_true hN) undef) hr)
      ·rename_i hg
       split at hs
       ·rename_i v' hv
        simp only [Option.some.injEq, Prod.mk.injEq] at hs;obtain ⟨rfl, rfl⟩ := hs;refine wpQuiet_step fun K hK => ?_;rw [if_pos (Vs hF hg)];refine ⟨_, fun w hw => ?_, hK _ (hd ▸ ih (hF.put (Nat.le_of_ble_eq_true hN) _) hr)⟩;unfold Oper.quietAt;rw [show (execOp a.eval o).run P w = _ from Zh9 hF rfl hv];exact ⟨rfl, rfl⟩
       ·cases hs
   ·cases hr
abbrev z5 : List Value := [.int .i64 0, .int .i64 0, .int .i64 0, .int .i64 0, .int .i64 0]
abbrev az5 : Value := .agg #[.int .i64 0, .int .i64 0, .int .i64 0, .int .i64 0, .int .i64 0]
abbrev z7 : List Value := [.int .i64 0, .int .i64 0, .int .i64 0, .int .i64 0, .int .i64 0, .int .i64 0, .int .i64 0]
abbrev az7 : Value := .agg #[.int .i64 0, .int .i64 0, .int .i64 0, .int .i64 0, .int .i64 0, .int .i64 0, .int .i64 0]
abbrev z10 : List Value := [.int .i64 0, .int .i64 0, .int .i64 0, .int .i64 0, .int .i64 0, .int .i64 0, .int .i64 0, .int .i64 0, .int .i64 0, .int .i64 0]
abbrev Znc : Value := .agg #[.int .i64 0, .int .i64 0, .int .i64 0, .int .i64 0, .int .i64 0, .int .i64 0, .int .i64 0, .int .i64 0, .int .i64 0, .int .i64 0]
abbrev z8 : List Value := [.slice none 0 0, .slice none 0 0, .slice none 0 0, .int .i64 0, .slice none 0 0, .int .i64 0, .slice none 0 0, .bool false]
abbrev az8 : Value := .agg #[.slice none 0 0, .slice none 0 0, .slice none 0 0, .int .i64 0, .slice none 0 0, .int .i64 0, .slice none 0 0, .bool false]
abbrev bE : ByteArray := ByteArray.empty
abbrev oPL (k : Int) (p q : ByteArray) (a : Int) (x : ByteArray) : List Value := [.int .i64 k, .string p, .string q, .int .i64 a, .string x]
abbrev oPV (k : Int) (p q : ByteArray) (a : Int) (x : ByteArray) : Value := .agg #[.int .i64 k, .string p, .string q, .int .i64 a, .string x]
section
variable {P : Program} {ops : Array Oper} {Q : Exit → Act → World → Prop} {rest r : List Oper} {o : Oper} {w W : World} {N : Nat} {l l' : List (Nat × Value)} {s : List Asr}
theorem xr (n : Nat) (hr : auR N ops n rest l = some (r, l')) (h : ∀ a, Fr N a l' → wpList P ops Q r a w) : ∀ a, Fr N a l → wpList P ops Q rest a w := fun _ hF => zr n hF hr h
theorem xqr (n : Nat) {Q : Act → Prop} (hr : auR N ops n rest l = some (r, l')) (h : ∀ a, Fr N a l' → wpQuiet P ops (St W s) Q r a) : ∀ a, Fr N a l → wpQuiet P ops (St W s) Q rest a := fun _ hF => zrq n hF hr h
def auD (N : Nat) (ops : Array Oper) (l : List (Nat × Value)) (o : Oper) : Option Nat := match o.dst with
 | none => none
 | some d => match Nat.blt d N with
  | false => none
  | true => match auG ops l o with
   | some true => some d
   | _ => none
theorem Zia {a : Act} (hF : Fr N a l) {d : Nat} (h : auD N ops l o = some d) : o.dst = some d ∧ Nat.blt d N = true ∧ Region.wanted o (yielded ops a.tmps) = true := by
 unfold auD at h
 split at h
 ·cases h
 ·rename_i d' hd
  split at h
  ·cases h
  ·rename_i hN
   split at h
   ·rename_i hg
    obtain rfl := Option.some.inj h;exact ⟨hd, hN, Vs hF hg⟩
   ·cases h
theorem xy {d : Nat} {v : Value} (hd : auD N ops l o = some d) (hy : ∀ a, Fr N a l → Yl P w o a v) (h : ∀ a, Fr N a ((d, v) :: l) → wpList P ops Q rest a w) : ∀ a, Fr N a l → wpList P ops Q (o :: rest) a w := fun a hF => by
 obtain ⟨h1, h2, h3⟩ := Zia hF hd;refine wpList_step fun K hK => ?_;rw [if_pos h3];unfold Oper.wp;rw [show (execOp a.eval o).run P w = _ from hy a hF];exact hK _ _ (h1 ▸ h _ (hF.put (Nat.le_of_ble_eq_true h2) _))
theorem xq {Q : Act → Prop} {d : Nat} {v : Value} (hd : auD N ops l o = some d) (hy : ∀ {w}, St W s w → ∀ a, Fr N a l → Yl P w o a v) (h : ∀ a, Fr N a ((d, v) :: l) → wpQuiet P ops (St W s) Q rest a) : ∀ a, Fr N a l → wpQuiet P ops (St W s) Q (o :: rest) a := fun a hF => by
 obtain ⟨h1, h2, h3⟩ := Zia hF hd;refine wpQuiet_step fun K hK => ?_;rw [if_pos h3];refine ⟨_, fun w hw => ?_, hK _ (h1 ▸ h _ (hF.put (Nat.le_of_ble_eq_true h2) _))⟩;unfold Oper.quietAt;rw [show (execOp a.eval o).run P w = _ from hy hw a hF];exact ⟨rfl, rfl⟩
theorem xct {k : Nat} {x y : Code} (hk : lk l k = some (.bool true)) (h : ∀ a, Fr N a l → x.wp P Q a w) : ∀ a, Fr N a l → (Code.cond (.tmp k) x y).wp P Q a w := fun a hF => UX hF hk (h a hF)
theorem xcf {k : Nat} {x y : Code} (hk : lk l k = some (.bool false)) (h : ∀ a, Fr N a l → y.wp P Q a w) : ∀ a, Fr N a l → (Code.cond (.tmp k) x y).wp P Q a w := fun a hF => Vr hF hk (h a hF)
theorem xb1 {fn : Func} {R : Ending → World → Prop} {k : Nat} {v : Value} (hr : fn.results = #[.tmp k]) (hk : lk l k = some v) (h : R (.returned v) w) : ∀ a, Fr N a l → bodyPost P fn R .ret a w := fun _ hF => ZA hF hr (hF.res hk) h
theorem xb2 {fn : Func} {R : Ending → World → Prop} {k k' : Nat} {v v' : Value} (hr : fn.results = #[.tmp k, .tmp k']) (hk : lk l k = some v) (hk' : lk l k' = some v') (h : R (.returned (.tuple #[v, v'])) w) : ∀ a, Fr N a l → bodyPost P fn R .ret a w := fun _ hF => Z7 hF hr (hF.res hk) (hF.res hk') h
theorem xne {K : Act → World → Prop} (h : ∀ a, Fr N a l → K a w) : ∀ a, Fr N a l → wpList P ops (Exit.then K Q) [] a w := fun a hF => Zbg (h a hF)
theorem xni (h : ∀ a, Fr N a l → Q .normal a w) : ∀ a, Fr N a l → wpList P ops Q [] a w := fun a hF => wpList_nil (h a hF)
theorem xsr {id : Nat} {m : List Oper} {y : Code} (h : ∀ a, Fr N a l → wpList P m.toArray (Exit.then (y.wp P Q) Q) m a w) : ∀ a, Fr N a l → (Code.seq (Code.region id m.toArray false) y).wp P Q a w := fun a hF => Zja (h a hF)
theorem xrl {id : Nat} {m : List Oper} (h : ∀ a, Fr N a l → wpList P m.toArray Q m a w) : ∀ a, Fr N a l → (Code.region id m.toArray false).wp P Q a w := fun a hF => wp_region_lit (h a hF)
theorem xsq {x y : Code} (h : ∀ a, Fr N a l → x.wp P (Exit.then (y.wp P Q) Q) a w) : ∀ a, Fr N a l → (Code.seq x y).wp P Q a w := fun a hF => wp_seq (h a hF)
theorem xbl {id : Nat} {c : Code} (h : ∀ a, Fr N a l → c.wp P (Exit.inBlock id Q) a w) : ∀ a, Fr N a l → (Code.block id c).wp P Q a w := fun a hF => wp_block (h a hF)
theorem xsk (h : ∀ a, Fr N a l → Q .normal a w) : ∀ a, Fr N a l → Code.skip.wp P Q a w := fun a hF => wp_skip (h a hF)
theorem xre (h : ∀ a, Fr N a l → Q .ret a w) : ∀ a, Fr N a l → Code.ret.wp P Q a w := fun a hF => wp_ret (h a hF)
theorem xex {id : Nat} (h : ∀ a, Fr N a l → Q (.exit id) a w) : ∀ a, Fr N a l → (Code.exit id).wp P Q a w := fun a hF => wp_exit (h a hF)
theorem xet {K : Act → World → Prop} (h : ∀ a, Fr N a l → K a w) : ∀ a, Fr N a l → Exit.then K Q .normal a w := h
theorem xtx {K : Act → World → Prop} {i : Nat} (h : ∀ a, Fr N a l → Q (.exit i) a w) : ∀ a, Fr N a l → Exit.then K Q (.exit i) a w := h
theorem xtr {K : Act → World → Prop} (h : ∀ a, Fr N a l → Q .ret a w) : ∀ a, Fr N a l → Exit.then K Q .ret a w := h
theorem xeb {i : Nat} (h : ∀ a, Fr N a l → Q .normal a w) : ∀ a, Fr N a l → Exit.inBlock i Q .normal a w := h
theorem xbr {i : Nat} (h : ∀ a, Fr N a l → Q .ret a w) : ∀ a, Fr N a l → Exit.inBlock i Q .ret a w := h
theorem xbh {i : Nat} (h : ∀ a, Fr N a l → Q .normal a w) : ∀ a, Fr N a l → Exit.inBlock i Q (.exit i) a w := fun a hF => ZfN (h a hF)
theorem xcs {G : Act → Prop} (k : Nat) {t : Bool} (hk : lk l k = some (.bool t)) (h1 : t = true → ∀ a, Fr N a ((k, .bool true) :: l) → G a) (h2 : t = false → ∀ a, Fr N a ((k, .bool false) :: l) → G a) : ∀ a, Fr N a l → G a := fun a hF => hF.cases k hk (fun c hF => h1 c a hF) (fun c hF => h2 c a hF)
theorem xhy {fuel : Nat} {listed : Array Bool} (i : Nat) {oi : Oper} {d : Nat} {v : Value} (hS : St W s w) (hi : ops[i]? = some oi) (hd : auD N ops l oi = some d) (hy : ∀ {w}, St W s w → ∀ a, Fr N a l → Yl P w oi a v) (h : ∀ a, Fr N a ((d, v) :: l) → wpAnyH P .any ops Q (St W s) fuel (listed.setIfInBounds i true) a w) (hs : Region.noSelect ops = true := by kernel_rfl) (hf : Region.free .any ops listed i = true := by kernel_rfl) (hr : (Region.ready .any ops listed).contains i = true := by kernel_rfl) (hQ : ∀ c a w, Q (.panic c) (a.put oi.dst v) w → Q (.panic c) a w := by exact fun _ _ _ h => h) : ∀ a, Fr N a l → wpAnyH P .any ops Q (St W s) (fuel + 1) listed a w := fun a hF => by
 obtain ⟨h1, h2, h3⟩ := Zia hF hd;exact wpAnyH_take hi hs hf hr hQ (.inl ⟨h3, fun _ hw => hy hw a hF⟩) hS (h1 ▸ h _ (hF.put (Nat.le_of_ble_eq_true h2) v))
theorem xh {fuel : Nat} {listed : Array Bool} (i : Nat) {oi : Oper} {d : Nat} {v : Value} (hS : St W s w) (hi : ops[i]? = some oi) (hd : auD N ops l oi = some d) (hv : auV l oi.op = some v) (h : ∀ a, Fr N a ((d, v) :: l) → wpAnyH P .any ops Q (St W s) fuel (listed.setIfInBounds i true) a w) (hs : Region.noSelect ops = true := by kernel_rfl) (hf : Region.free .any ops listed i = true := by kernel_rfl) (hr : (Region.ready .any ops listed).contains i = true := by kernel_rfl) (hQ : ∀ c a w, Q (.panic c) (a.put oi.dst v) w → Q (.panic c) a w := by exact fun _ _ _ h => h) : ∀ a, Fr N a l → wpAnyH P .any ops Q (St W s) (fuel + 1) listed a w := xhy i hS hi hd (fun _ _ hF => Zh9 hF rfl hv) h hs hf hr hQ
def Zlm : Nat → List Value → List Value
 | 0, l => l
 | _ + 1, [] => []
 | k + 1, _ :: l => Zlm k l
def ZgJ : Nat → List Value → Option (List Value)
 | 0, _ => some []
 | _ + 1, [] => none
 | n + 1, x :: l => match ZgJ n l with
  | some r => some (x :: r)
  | none => none
theorem ZgK : ∀ (k : Nat) (l : List Value), Zlm k l = l.drop k
 | 0, _ => rfl
 | _ + 1, [] => rfl
 | k + 1, _ :: l => ZgK k l
theorem ZgL : ∀ {n : Nat} {l cs : List Value}, ZgJ n l = some cs → l.take n = cs ∧ cs.length = n
 | 0, _, _, h => by obtain rfl := Option.some.inj h; exact ⟨rfl, rfl⟩
 | _ + 1, [], _, h => by cases h
 | n + 1, x :: l, cs, h => by
  have h : (match ZgJ n l with | some r => some (x :: r) | none => none) = some cs := h
  cases hq : ZgJ n l with
  | none => rw [hq] at h; cases h
  | some q =>
   rw [hq] at h;obtain rfl := Option.some.inj h;obtain ⟨h1, h2⟩ := ZgL hq;exact ⟨by rw [List.take_succ_cons, h1], by rw [List.length_cons, h2]⟩
def ZjS (l : List (Nat × Value)) (x : Operand) : Option (Nat × Nat) := match evO l x with
 | some (.pointer (some ⟨b, k, none⟩)) => some (b, k)
 | _ => none
theorem Zc9 {a : Act} (hF : Fr N a l) {x : Operand} {b k : Nat} (h : ZjS l x = some (b, k)) : a.eval x = .pointer (some ⟨b, k, none⟩) := by
 unfold ZjS at h
 split at h
 ·rename_i hx
  obtain ⟨rfl, rfl⟩ := Prod.mk.inj (Option.some.inj h);exact hF.ev hx
 ·cases h
def ldA (n : Nat) (A : Array Value) (l : List (Nat × Value)) : Op → Option (TypeId × Nat × List Value)
 | .load t x => match ZjS l x with
  | some (b, k) => match ZgJ n (Zlm k A.toList) with
   | some cs => some (t, b, cs)
   | none => none
  | none => none
 | _ => none
def ldS (A : Array Value) (l : List (Nat × Value)) : Op → Option (TypeId × Nat × Value)
 | .load t x => match ZjS l x with
  | some (b, k) => match Znb A.toList k with
   | some v => some (t, b, v)
   | none => none
  | none => none
 | _ => none
theorem vw (hS : St W s w) (i n : Nat) {t : TypeId} {b m : Nat} {T : TypeId} {A : Array Value} {cs : List Value} (hi : s[i]? = some (boxA b m T (.agg A))) (hc : ldA n A l o.op = some (t, b, cs)) (hs : XH P t n = true := by kernel_rfl) : ∀ a, Fr N a l → Yl P w o a (.agg cs.toArray) := fun a hF => by
 generalize ho : o.op = p at hc;unfold ldA at hc
 split at hc
 ·split at hc
  ·rename_i hp
   split at hc
   ·rename_i ht
    simp only [Option.some.injEq, Prod.mk.injEq] at hc;obtain ⟨rfl, rfl, rfl⟩ := hc;obtain ⟨h1, h2⟩ := ZgL ht;rw [ZgK] at h1;exact Vq ho (Zc9 hF hp) (h1 ▸ (hS.box i hi).sub _ n) (by rw [h2]; exact hs)
   ·cases hc
  ·cases hc
 ·cases hc
theorem vc (hS : St W s w) (i : Nat) {t : TypeId} {b m : Nat} {T : TypeId} {A : Array Value} {v : Value} (hi : s[i]? = some (boxA b m T (.agg A))) (hc : ldS A l o.op = some (t, b, v)) (hs : Yx P t = true := by kernel_rfl) : ∀ a, Fr N a l → Yl P w o a v := fun a hF => by
 generalize ho : o.op = p at hc;unfold ldS at hc
 split at hc
 ·split at hc
  ·rename_i hp
   split at hc
   ·rename_i ht
    simp only [Option.some.injEq, Prod.mk.injEq] at hc;obtain ⟨rfl, rfl, rfl⟩ := hc;rw [ZfQ] at ht;exact J3 ho (Zc9 hF hp) (((hS.box i hi).cell _).trans (by simpa using ht)) hs
   ·cases hc
  ·cases hc
 ·cases hc
def faO (l : List (Nat × Value)) : Op → Option (TypeId × Nat × Nat × Nat)
 | .fieldAddr t x i => match ZjS l x with
  | some (b, k) => some (t, i, b, k)
  | none => none
 | _ => none
theorem vf (j : Nat) {t : TypeId} {i b k : Nat} (hc : faO l o.op = some (t, i, b, k)) (hj : Jv P t i = some j := by kernel_rfl) : ∀ a, Fr N a l → Yl P w o a (.pointer (some ⟨b, k + j, none⟩)) := fun a hF => by
 generalize ho : o.op = p at hc;unfold faO at hc
 split at hc
 ·split at hc
  ·rename_i hp
   simp only [Option.some.injEq, Prod.mk.injEq] at hc;obtain ⟨rfl, rfl, rfl, rfl⟩ := hc;exact Zbd ho (Zc9 hF hp) hj
  ·cases hc
 ·cases hc
def ixO (l : List (Nat × Value)) : Op → Option (TypeId × Option Addr × Nat × Int)
 | .indexAddr t x y => match evO l x with
  | some (.slice ao len _) => match evO l y with
   | some (.int _ m) => some (t, ao, len, m)
   | _ => none
  | _ => none
 | _ => none
theorem vx (e i size : Nat) {t : TypeId} {g off len : Nat} {m : Int} (hc : ixO l o.op = some (t, some ⟨g, off, none⟩, len, m)) (hu : Yv P t = some (e, size) := by kernel_rfl) (hm : m = (i : Int) := by exact rfl) (hi : i < len := by omega) : ∀ a, Fr N a l → Yl P w o a (.pointer (some ⟨g, off + i * size, none⟩)) := fun a hF => by
 generalize ho : o.op = p at hc;unfold ixO at hc
 split at hc
 ·split at hc
  ·rename_i hx
   split at hc
   ·rename_i hy
    simp only [Option.some.injEq, Prod.mk.injEq] at hc;obtain ⟨rfl, rfl, rfl, rfl⟩ := hc;exact ZY ho (hF.ev hx) (hF.ev hy) hu hm hi
   ·cases hc
  ·cases hc
 ·cases hc
theorem vxr (e i size : Nat) {t : TypeId} {ao : Option Addr} {g off len : Nat} {m : Int} (hc : ixO l o.op = some (t, ao, len, m)) (hao : ao = some ⟨g, off, none⟩) (hu : Yv P t = some (e, size) := by kernel_rfl) (hm : m = (i : Int) := by exact rfl) (hi : i < len := by omega) : ∀ a, Fr N a l → Yl P w o a (.pointer (some ⟨g, off + i * size, none⟩)) := by
 subst hao;exact vx e i size hc hu hm hi
def Zo0 (l : List (Nat × Value)) : Op → Option (TypeId × Nat)
 | .call c => match c.callee with
  | .builtin .len => match c.args.toList with
   | [x] => match c.argTypes.toList with
    | [t] => match evO l x with
     | some (.slice _ n _) => some (t, n)
     | _ => none
    | _ => none
   | _ => none
  | _ => none
 | _ => none
theorem vn (e size : Nat) {t : TypeId} {n : Nat} (hc : Zo0 l o.op = some (t, n)) (hu : Yv P t = some (e, size) := by kernel_rfl) : ∀ a, Fr N a l → Yl P w o a (.int .i64 n) := fun a hF => by
 generalize ho : o.op = p at hc;unfold Zo0 at hc
 split at hc
 ·rename_i c
  obtain ⟨f, ⟨xs⟩, ⟨ts⟩⟩ := c;dsimp only at hc
  split at hc
  ·split at hc
   ·split at hc
    ·split at hc
     ·rename_i h1 _ h2 _ hx
      simp only [Option.some.injEq, Prod.mk.injEq] at hc;obtain ⟨rfl, rfl⟩ := hc;exact Zm8 ho (hF.ev hx) hu
     ·cases hc
    ·cases hc
   ·cases hc
  ·cases hc
 ·cases hc
def Zo1 (l : List (Nat × Value)) : Op → Option (Int × Int)
 | .binOp .add _ x y _ => match evO l x with
  | some (.int .i64 m) => match evO l y with
   | some (.int .i64 n) => some (m, n)
   | _ => none
  | _ => none
 | _ => none
theorem vad {m n : Int} (hc : Zo1 l o.op = some (m, n)) (hr : -9223372036854775808 ≤ m + n ∧ m + n ≤ 9223372036854775807 := by omega) : ∀ a, Fr N a l → Yl P w o a (.int .i64 (m + n)) := fun a hF => by
 generalize ho : o.op = p at hc;unfold Zo1 at hc
 split at hc
 ·split at hc
  ·rename_i hx
   split at hc
   ·rename_i hy
    simp only [Option.some.injEq, Prod.mk.injEq] at hc;obtain ⟨rfl, rfl⟩ := hc;exact YO ho (hF.ev hx) (hF.ev hy) (Yb hr)
   ·cases hc
  ·cases hc
 ·cases hc
def Zo2 (l : List (Nat × Value)) : Op → Option (TypeId × List (Nat × Value))
 | .build t ps0 => match ps0.toList.mapM (fun p => (evO l p.2).map fun v => (p.1, v)) with
  | some ps => some (t, ps)
  | none => none
 | _ => none
theorem vb (cs : List Value) {t : TypeId} {ps : List (Nat × Value)} (hc : Zo2 l o.op = some (t, ps)) (hb : Zh7 P t ps = some cs.toArray := by kernel_rfl) : ∀ a, Fr N a l → Yl P w o a (.agg cs.toArray) := fun a hF => by
 generalize ho : o.op = p at hc;unfold Zo2 at hc
 split at hc
 ·split at hc
  ·rename_i hp
   simp only [Option.some.injEq, Prod.mk.injEq] at hc;obtain ⟨rfl, rfl⟩ := hc;exact Zk7 hF ho hp hb
  ·cases hc
 ·cases hc
def ldP (l : List (Nat × Value)) : Op → Option (TypeId × Nat × Nat)
 | .load t x => match ZjS l x with
  | some (b, k) => some (t, b, k)
  | none => none
 | _ => none
theorem ve {α : Type} {enc : α → List Value} (he : ∀ x, (enc x).length = 1) (hS : St W s w) (i : Nat) (j : Nat) {t : TypeId} {e : TypeId} {g off n cap : Nat} {xs : List α} {x : α} {v : Value} (hi : s[i]? = some (Zg enc 1 e (.slice (some ⟨g, off, none⟩) n cap) xs)) (hx : xs[j]? = some x) (hv : enc x = [v]) (hc : ldP l o.op = some (t, g, off + j * 1)) (hs : Yx P t = true := by kernel_rfl) : ∀ a, Fr N a l → Yl P w o a v := fun a hF => by
 generalize ho : o.op = p at hc;unfold ldP at hc
 split at hc
 ·split at hc
  ·rename_i hp
   simp only [Option.some.injEq, Prod.mk.injEq] at hc;obtain ⟨rfl, rfl, rfl⟩ := hc;exact J3 ho (Zc9 hF hp) (hS.elem1 he i hi hx hv) hs
  ·cases hc
 ·cases hc
end
def setO : List Asr → Nat → Asr → Option (List Asr)
 | [], _, _ => none
 | _ :: r, 0, x => some (x :: r)
 | y :: r, i + 1, x => match setO r i x with
  | some r' => some (y :: r')
  | none => none
theorem V3 : ∀ {s : List Asr} {i : Nat} {x : Asr} {s' : List Asr}, setO s i x = some s' → s.set i x = s'
 | [], _, _, _, h => by cases h
 | _ :: r, 0, x, s', h => Option.some.inj h
 | y :: r, i + 1, x, s', h => by
  have h : (match setO r i x with | some r' => some (y :: r') | none => none) = some s' := h
  cases hq : setO r i x with
  | none => rw [hq] at h; cases h
  | some q => rw [hq] at h; obtain rfl := Option.some.inj h; rw [List.set_cons_succ, V3 hq]
structure OpI (N : Nat) (o : Oper) (p : Op) (d : Nat) : Prop where
  hg : o.guard = none
  ho : o.op = p
  hd : o.dst = some d
  hn : Nat.blt d N = true
structure OpG (N : Nat) (ops : Array Oper) (l : List (Nat × Value)) (o : Oper) (p : Op) (d g dg : Nat) (b : Bool) : Prop where
  hg : o.guard = some (g, b)
  he : (ops[g]?).bind (·.dst) = some dg
  hv : lk l dg = some (.bool b)
  ho : o.op = p
  hd : o.dst = some d
  hn : Nat.blt d N = true
structure OpE (o : Oper) (p : Op) : Prop where
  hg : o.guard = none
  ho : o.op = p
  hd : o.dst = none
section
variable {P : Program} {ops : Array Oper} {Q : Exit → Act → World → Prop} {rest : List Oper} {o : Oper} {w W : World} {N : Nat} {l : List (Nat × Value)} {s s' : List Asr} {d : Nat} {t : TypeId}
theorem yal (Z : List Value) (E : Bx (St W s w)) (h : ∀ w' b, Bx (St W (boxA b Z.length t (.agg Z.toArray) :: s) w') → ∀ a, Fr N a ((d, .pointer (some ⟨b, 0, none⟩)) :: l) → wpList P ops Q rest a w')
  (ho : OpI N o (.alloc t) d := by exact ⟨rfl, rfl, rfl, rfl⟩) (hZ : ZeP P t = some Z := by kernel_rfl) (h1 : (Z.all fun u => u.oneCell') = true := by exact rfl) : ∀ a, Fr N a l → wpList P ops Q (o :: rest) a w := fun _ hF =>
 Zk8 ho.hg hF ho.ho ho.hd ho.hn hZ h1 E.o fun a' w' b h1 h2 => h w' b ⟨h2⟩ a' h1
theorem ybx (E : Bx (St W s w)) {x : Operand} {A : Array Value} (h : ∀ w' b, Bx (St W (boxA b A.toList.length t (.agg A) :: s) w') → ∀ a, Fr N a ((d, .pointer (some ⟨b, 0, none⟩)) :: l) → wpList P ops Q rest a w')
  (ho : OpI N o (.box t x) d := by exact ⟨rfl, rfl, rfl, rfl⟩) (hx : evO l x = some (.agg A) := by exact rfl) (h1 : (A.toList.all fun u => u.oneCell') = true := by exact rfl) : ∀ a, Fr N a l → wpList P ops Q (o :: rest) a w := fun _ hF => by
 obtain ⟨Z⟩ := A;exact Zk9 ho.hg hF ho.ho (hF.ev hx) (Z := Z) rfl ho.hd ho.hn h1 E.o fun a' w' b h1 h2 => h w' b ⟨h2⟩ a' h1
theorem yst (E : Bx (St W s w)) (i : Nat) {x y : Operand} {b n : Nat} {T : TypeId} {u : Value} {A : Array Value} (h : ∀ w', Bx (St W s' w') → ∀ a, Fr N a l → wpList P ops Q rest a w')
  (ho : OpE o (.store t x y) := by exact ⟨rfl, rfl, rfl⟩) (hx : evO l x = some (.pointer (some ⟨b, 0, none⟩)) := by exact rfl) (hy : evO l y = some (.agg A) := by exact rfl) (hi : s[i]? = some (boxA b n T u) := by exact rfl) (h3 : setO s i (boxA b n T (.agg A)) = some s' := by exact rfl) (h1 : (A.toList.all fun u => u.oneCell') = true := by exact rfl) (hl : A.toList.length = n := by exact rfl) (hn : XH P t n = true := by kernel_rfl) : ∀ a, Fr N a l → wpList P ops Q (o :: rest) a w := fun a hF => by
 obtain ⟨Z⟩ := A;exact ZgF ho.hg hF ho.ho ho.hd (hF.ev hx) (hF.ev hy) E.o i hi (Zb2 Z h1 hl) hn fun w' h2 => h w' ⟨V3 h3 ▸ h2⟩ a hF
theorem yem (e size : Nat) (E : Bx (St W s w)) (h : ∀ w' b, Bx (St W s w') → ∀ a, Fr N a ((d, .slice (some ⟨b, 0, none⟩) 0 0) :: l) → wpList P ops Q rest a w')
  (ho : OpI N o (.buildSlice t 0 #[]) d := by exact ⟨rfl, rfl, rfl, rfl⟩) (hu : Yv P t = some (e, size) := by kernel_rfl) : ∀ a, Fr N a l → wpList P ops Q (o :: rest) a w := fun _ hF =>
 Zla ho.hg hF ho.ho ho.hd ho.hn hu E.o fun a' w' b h1 h2 => h w' b ⟨h2⟩ a' h1
theorem ybs {α : Type} (enc : α → List Value) (e size : Nat) (xs : List α) (E : Bx (St W s w)) {len : Nat} {ps0 : Array (Nat × Operand)} {ps : List (Nat × Value)} (h : ∀ b w', Bx (St W (Zg enc size e (.slice (some ⟨b, 0, none⟩) len len) xs :: s) w') → ∀ a, Fr N a ((d, .slice (some ⟨b, 0, none⟩) len len) :: l) → wpList P ops Q rest a w')
  (ho : OpI N o (.buildSlice t len ps0) d := by exact ⟨rfl, rfl, rfl, rfl⟩) (hp : ps0.toList.mapM (fun p => (evO l p.2).map fun v => (p.1, v)) = some ps := by exact rfl) (hb : Zbf P t len ps = some (e, size, xs.flatMap enc) := by kernel_rfl) (hl : xs.length = len := by exact rfl) (hm : len ≤ maxLen := by unfold maxLen; omega) (hc : (xs.flatMap enc).length = len * size := by exact rfl) : ∀ a, Fr N a l → wpList P ops Q (o :: rest) a w := fun _ hF =>
 ZjR ho.hg hF ho.ho ho.hd ho.hn hp hb xs hl rfl hm hc E.o fun b a' w' h1 h2 => h b w' ⟨h2⟩ a' h1
section
variable {f : FuncId} {args : Array Value} {fn : Func} {c : Code} {xs : Array Operand} {ts : Array TypeId}
theorem yc {R : Ending → World → Prop} (hR : Calls P f args w R) (hf : P.funcs[f]? = some fn) (h : ∀ e w', R e w' → ∃ v, e = .returned v ∧ ∀ a, Fr N a ((d, v) :: l) → wpList P ops Q rest a w')
  (ho : OpI N o (.call { callee := .value (.func f), args := xs, argTypes := ts }) d := by exact ⟨rfl, rfl, rfl, rfl⟩) (hx : xs.toList.mapM (evO l) = some args.toList := by exact rfl) (hn : (fn.name == "runtime.NumGoroutine") = false := by kernel_rfl) (hb : fn.body = some c := by exact rfl) : ∀ a, Fr N a l → wpList P ops Q (o :: rest) a w := fun _ hF =>
 Zi3 ho.hg hF ho.ho (Xs hf hn hb) hx hR ho.hd ho.hn h
theorem ycB {v : Value} (hR : Calls P f args w fun e w' => e = .returned v ∧ Below w.heap.size w w') (hf : P.funcs[f]? = some fn) (E : Bx (St W s w)) (h : ∀ w', Bx (St W s w') → ∀ a, Fr N a ((d, v) :: l) → wpList P ops Q rest a w')
  (ho : OpI N o (.call { callee := .value (.func f), args := xs, argTypes := ts }) d := by exact ⟨rfl, rfl, rfl, rfl⟩) (hx : xs.toList.mapM (evO l) = some args.toList := by exact rfl) (hn : (fn.name == "runtime.NumGoroutine") = false := by kernel_rfl) (hb : fn.body = some c := by exact rfl) : ∀ a, Fr N a l → wpList P ops Q (o :: rest) a w := fun _ hF =>
 ZgH ho.hg hF ho.ho (Xs hf hn hb) hx hR ho.hd ho.hn E.o fun w' a' h1 h2 => h w' ⟨h1⟩ a' h2
theorem Zb3 {g dg : Nat} {b : Bool} {v : Value} (hR : Calls P f args w fun e w' => e = .returned v ∧ Below w.heap.size w w') (hf : P.funcs[f]? = some fn) (E : Bx (St W s w)) (h : ∀ w', Bx (St W s w') → ∀ a, Fr N a ((d, v) :: l) → wpList P ops Q rest a w')
  (ho : OpG N ops l o (.call { callee := .value (.func f), args := xs, argTypes := ts }) d g dg b := by exact ⟨rfl, rfl, rfl, rfl, rfl, rfl⟩) (hx : xs.toList.mapM (evO l) = some args.toList := by exact rfl) (hn : (fn.name == "runtime.NumGoroutine") = false := by kernel_rfl) (hb : fn.body = some c := by exact rfl) : ∀ a, Fr N a l → wpList P ops Q (o :: rest) a w := fun _ hF =>
 V1 hF ho.hg ho.he ho.hv ho.ho (Xs hf hn hb) hx hR ho.hd ho.hn E.o fun w' a' h1 h2 => h w' ⟨h1⟩ a' h2
theorem yq {Q : Act → Prop} {v : Value} (hR : ∀ w, St W s w → Calls P f args w fun e w' => e = .returned v ∧ Below w.heap.size w w') (hf : P.funcs[f]? = some fn) (h : ∀ a, Fr N a ((d, v) :: l) → wpQuiet P ops (St W s) Q rest a)
  (ho : OpI N o (.call { callee := .value (.func f), args := xs, argTypes := ts }) d := by exact ⟨rfl, rfl, rfl, rfl⟩) (hx : xs.toList.mapM (evO l) = some args.toList := by exact rfl) (hn : (fn.name == "runtime.NumGoroutine") = false := by kernel_rfl) (hb : fn.body = some c := by exact rfl) : ∀ a, Fr N a l → wpQuiet P ops (St W s) Q (o :: rest) a := fun _ hF =>
 Zm9 ho.hg hF ho.ho (Xs hf hn hb) hx hR ho.hd ho.hn h
theorem yqg {Q : Act → Prop} {g dg : Nat} {b : Bool} {v : Value} (hR : ∀ w, St W s w → Calls P f args w fun e w' => e = .returned v ∧ Below w.heap.size w w') (hf : P.funcs[f]? = some fn) (h : ∀ a, Fr N a ((d, v) :: l) → wpQuiet P ops (St W s) Q rest a)
  (ho : OpG N ops l o (.call { callee := .value (.func f), args := xs, argTypes := ts }) d g dg b := by exact ⟨rfl, rfl, rfl, rfl, rfl, rfl⟩) (hx : xs.toList.mapM (evO l) = some args.toList := by exact rfl) (hn : (fn.name == "runtime.NumGoroutine") = false := by kernel_rfl) (hb : fn.body = some c := by exact rfl) : ∀ a, Fr N a l → wpQuiet P ops (St W s) Q (o :: rest) a := fun _ hF =>
 Zlf hF ho.hg ho.he ho.hv ho.ho (Xs hf hn hb) hx hR ho.hd ho.hn h
theorem yo {i : Nat} {K : Act → World → Prop} {R : Ending → World → Prop} (hR : Calls P f args w R) (hf : P.funcs[f]? = some fn) (h : ∀ e w', R e w' → ∃ v, e = .returned v ∧ ∀ a, Fr N a ((d, v) :: l) → K a w')
  (hi : ops[i]? = some o := by exact rfl) (ho : OpI N o (.call { callee := .value (.func f), args := xs, argTypes := ts }) d := by exact ⟨rfl, rfl, rfl, rfl⟩) (hx : xs.toList.mapM (evO l) = some args.toList := by exact rfl) (hn : (fn.name == "runtime.NumGoroutine") = false := by kernel_rfl) (hb : fn.body = some c := by exact rfl) : ∀ a, Fr N a l → wpOp P ops Q i K a w := fun _ hF =>
 Zi7 hi ho.hg hF ho.ho (Xs hf hn hb) hx hR ho.hd ho.hn h
theorem yoB {i : Nat} {K : Act → World → Prop} {v : Value} (hR : Calls P f args w fun e w' => e = .returned v ∧ Below w.heap.size w w') (hf : P.funcs[f]? = some fn) (h : ∀ w', Below w.heap.size w w' → ∀ a, Fr N a ((d, v) :: l) → K a w')
  (hi : ops[i]? = some o := by exact rfl) (ho : OpI N o (.call { callee := .value (.func f), args := xs, argTypes := ts }) d := by exact ⟨rfl, rfl, rfl, rfl⟩) (hx : xs.toList.mapM (evO l) = some args.toList := by exact rfl) (hn : (fn.name == "runtime.NumGoroutine") = false := by kernel_rfl) (hb : fn.body = some c := by exact rfl) : ∀ a, Fr N a l → wpOp P ops Q i K a w := fun _ hF =>
 Zli hi ho.hg hF ho.ho (Xs hf hn hb) hx hR ho.hd ho.hn h
end
section
variable {α : Type} {enc : α → List Value} {size e : Nat} {v : Value} {ao2 : Option Addr} {n c2 bytes : Nat} {t2 : TypeId} {x y : Operand} {xs ys : List α}
theorem yap {s9 : Option Addr → Nat → List Asr} (hT : Ur P t e size bytes) (he : ∀ x, (enc x).length = size) (E : Bx (St W s w)) (i : Nat) (hr : Rd enc size w ao2 n ys) (h1 : ∀ u ∈ ys.flatMap enc, u.oneCell' = true)
  (h : ∀ ao cap w', Bx (St W (s9 ao cap) w') → ∀ a, Fr N a ((d, .slice ao (xs.length + ys.length) cap) :: l) → wpList P ops Q rest a w')
  (ho : OpI N o (.call { callee := .builtin .append, args := #[x, y], argTypes := #[t, t] }) d := by exact ⟨rfl, rfl, rfl, rfl⟩) (hx : evO l x = some v := by exact rfl) (hy : evO l y = some (.slice ao2 n c2) := by exact rfl) (hi : s[i]? = some (Zg enc size e v xs) := by exact rfl) (h3 : ∀ ao cap, setO s i (Zg enc size e (.slice ao (xs.length + ys.length) cap) (xs ++ ys)) = some (s9 ao cap) := by exact fun _ _ => rfl)
  (h63 : xs.length + ys.length ≤ maxLen := by unfold maxLen; (try simp only [List.length_append, List.length_cons, List.length_nil, List.nil_append, List.length_map]); omega) (hbytes : (xs.length + ys.length) * bytes ≤ 140737488355328 := by (try simp only [List.length_append, List.length_cons, List.length_nil, List.nil_append, List.length_map]); omega) : ∀ a, Fr N a l → wpList P ops Q (o :: rest) a w := fun _ hF =>
 Xo ho.hg hF ho.ho ho.hd ho.hn (hF.ev hx) (hF.ev hy) hT he E.o i hi hr h1 h63 hbytes fun ao cap w' a' h1 h2 => h ao cap w' ⟨V3 (h3 ao cap) ▸ h2⟩ a' h1
end
end
def era : Nat → List Asr → Option (List Asr)
 | _, [] => none
 | 0, _ :: r => some r
 | n + 1, x :: r => match era n r with
  | some r' => some (x :: r')
  | none => none
theorem Zib : ∀ {n : Nat} {s s' : List Asr}, era n s = some s' → s.eraseIdx n = s'
 | n, [], _, h => by cases n <;> cases h
 | 0, _ :: _, _, h => Option.some.inj h
 | n + 1, x :: r, s', h => by
  have h : (match era n r with | some r' => some (x :: r') | none => none) = some s' := h
  cases hq : era n r with
  | none => rw [hq] at h; cases h
  | some q => rw [hq] at h; obtain rfl := Option.some.inj h; rw [List.eraseIdx_cons_succ, Zib hq]
def erL : List Nat → List Asr → Option (List Asr)
 | [], s => some s
 | n :: is, s => match era n s with
  | some s' => erL is s'
  | none => none
theorem St.erS {W w : World} : ∀ (is : List Nat) {s s' : List Asr}, St W s w → (hs : erL is s = some s' := by exact rfl) → St W s' w
 | [], _, _, h, hs => Option.some.inj hs ▸ h
 | n :: is, s, s', h, hs => by
  have hs : (match era n s with | some s' => erL is s' | none => none) = some s' := hs
  cases hq : era n s with
  | none => rw [hq] at hs; cases hs
  | some q => rw [hq] at hs; exact St.erS is (Zib hq ▸ h.erase n) hs
def pkL : List Nat → List Asr → Option (List Asr)
 | [], s => some s
 | n :: is, s => match s[n]? with
  | some a => match era n s with
   | some s' => pkL is (a :: s')
   | none => none
  | none => none
theorem St.pks {W w : World} : ∀ (is : List Nat) {s s' : List Asr}, St W s w → pkL is s = some s' → St W s' w
 | [], _, _, h, hs => Option.some.inj hs ▸ h
 | n :: is, s, s', h, hs => by
  have hs : (match s[n]? with | some a => (match era n s with | some s' => pkL is (a :: s') | none => none) | none => none) = some s' := hs
  cases ha : s[n]? with
  | none => rw [ha] at hs; cases hs
  | some x =>
   rw [ha] at hs
   cases hq : era n s with
   | none => simp only [hq] at hs; cases hs
   | some q => simp only [hq] at hs; exact St.pks is (Zib hq ▸ h.pick n ha) hs
def Bx.ers {W w : World} {s s' : List Asr} (is : List Nat) (h : Bx (St W s w)) (hs : erL is s = some s' := by exact rfl) : Bx (St W s' w) := ⟨h.out.erS is hs⟩
def Bx.pks {W w : World} {s s' : List Asr} (is : List Nat) (h : Bx (St W s w)) (hs : pkL is s = some s' := by exact rfl) : Bx (St W s' w) := ⟨h.out.pks is hs⟩
structure NmI (s s' : List Asr) : Prop where
  h : s = s'
def Bx.nm {W w : World} {s s' : List Asr} (h : Bx (St W s w)) (e : NmI s s' := by first | (dsimp only [List.cons_append, List.nil_append, List.eraseIdx, List.set]; exact ⟨rfl⟩) | exact ⟨rfl⟩) : Bx (St W s' w) := ⟨e.h ▸ h.out⟩
def Zln : List Asr → List Asr → Option (List Asr)
 | [], s => some s
 | x :: r, s => match Zln r s with
  | some t => some (x :: t)
  | none => none
theorem Zjb : ∀ {r s t : List Asr}, Zln r s = some t → r ++ s = t
 | [], _, _, h => Option.some.inj h
 | x :: r, s, t, h => by
  have h : (match Zln r s with | some t => some (x :: t) | none => none) = some t := h
  cases hq : Zln r s with
  | none => rw [hq] at h; cases h
  | some q => rw [hq] at h; obtain rfl := Option.some.inj h; rw [List.cons_append, Zjb hq]
def Bx.ad {W w w' : World} {s r s' : List Asr} (h : Bx (St W s w)) (k : St w r w') (e : Zln r s = some s' := by exact rfl) : Bx (St W s' w') := ⟨Zjb e ▸ h.out.add k⟩
def Zlo : Nat → List Value → Option (List (Nat × Value))
 | _, [] => some []
 | i, v :: r => match Zlo (i + 1) r with
  | some l => some ((i, v) :: l)
  | none => none
theorem Zjc : ∀ {i : Nat} {r l : List (Value)} {q : List (Nat × Value)} (p : List Value), p.length = i → p ++ r = l → Zlo i r = some q → ∀ x ∈ q, l[x.1]? = some x.2
 | i, [], l, q, p, _, _, h => by obtain rfl := Option.some.inj h; exact fun _ hx => nomatch hx
 | i, v :: r, l, q, p, hp, hl, h => by
  have h : (match Zlo (i + 1) r with | some l => some ((i, v) :: l) | none => none) = some q := h
  cases hq : Zlo (i + 1) r with
  | none => rw [hq] at h; cases h
  | some m =>
   rw [hq] at h;obtain rfl := Option.some.inj h;intro x hx;rcases List.mem_cons.1 hx with rfl | hx
   ·rw [← hl]; show (p ++ v :: r)[i]? = some v
    rw [← hp, List.getElem?_append_right (Nat.le_refl _), Nat.sub_self]; rfl
   ·exact Zjc (p ++ [v]) (by rw [List.length_append, List.length_singleton, hp]) (by rw [← hl, List.append_assoc]; rfl) hq x hx
theorem ent {P : Program} {w : World} {f : FuncId} {fn : Func} {c : Code} {args : Array Value} {R : Ending → World → Prop} (hf : P.funcs[f]? = some fn) {N : Nat} (hN : fn.ntmps = N) {l : List (Nat × Value)} (h : ∀ a, Fr N a l → c.wp P (bodyPost P fn R) a w) (hb : fn.body = some c := by exact rfl) (hl : Zlo 0 args.toList = some l := by exact rfl) (hs : Nat.ble args.size N = true := by exact rfl) : Calls P f args w R :=
 ZeR hf hb hN (fun p hp => by rw [← Array.getElem?_toList]; exact Zjc [] rfl rfl hl p hp) (Nat.le_of_ble_eq_true hs) h
theorem Fr.ls {N : Nat} {a : Act} {l : List (Nat × Value)} (h : Fr N a l) (l' : List (Nat × Value)) (hs : Zlc l l' := by (repeat refine ⟨rfl, ?_⟩); exact trivial) : Fr N a l' := h.less l' hs
section
variable {P : Program} {ops : Array Oper} {Q : Exit → Act → World → Prop} {K : Act → World → Prop} {rest : List Oper} {o oi : Oper} {a : Act} {w W : World} {N : Nat} {l : List (Nat × Value)} {s s' s2 s3 : List Asr} {d : Nat} {t : TypeId} {i : Nat} {fuel : Nat} {listed : Array Bool}
theorem hld (is : List Nat) {id : Nat} {m : List Oper} (E : Bx (St W s w)) (h : ∀ w', Bx (St W s' w') → Bx (St W s w') → ∀ a, Fr N a l → wpAnyH P .any m.toArray Q (St W s') m.length (Array.replicate m.length false) a w') (hs : erL is s = some s' := by exact rfl) (hm : P.follows .mixedOrders = true := by kernel_rfl) : ∀ a, Fr N a l → (Code.region id m.toArray true).wp P Q a w := fun a hF =>
 Zlg hm (St.drew (E.o.erS is hs)) (h _ ⟨St.drew (E.o.erS is hs)⟩ ⟨E.o.drew⟩ a hF)
abbrev Zbh (P : Program) (ops : Array Oper) (Q : Exit → Act → World → Prop) (W : World) (s : List Asr) (fuel : Nat) (listed : Array Bool) (i : Nat) : Act → World → Prop := fun a w => wpOp P ops Q i (fun a' w' => St W s w' ∧ wpAnyH P .any ops Q (St W s) fuel (listed.setIfInBounds i true) a' w') a w
theorem Zo (i : Nat) (h : ∀ a, Fr N a l → Zbh P ops Q W s fuel listed i a w) (hr : Region.ready .any ops listed = [i] := by kernel_rfl) : ∀ a, Fr N a l → wpAnyH P .any ops Q (St W s) (fuel + 1) listed a w := fun a hF => Zom i hr (h a hF)
theorem Zal (i k : Nat) (h : ∀ a, Fr N a l → Zbh P ops Q W s fuel listed i a w) (h2 : ∀ a, Fr N a l → Zbh P ops Q W s fuel listed k a w) (hr : Region.ready .any ops listed = [i, k] := by kernel_rfl) : ∀ a, Fr N a l → wpAnyH P .any ops Q (St W s) (fuel + 1) listed a w := fun a hF => Zon i k hr (h a hF) (h2 a hF)
theorem hdn (h : ∀ a, Fr N a l → Q .normal a w) (hr : Region.ready .any ops listed = [] := by kernel_rfl) : ∀ a, Fr N a l → wpAnyH P .any ops Q (St W s) fuel listed a w := fun a hF => Zna hr (h a hF)
theorem yos (j : Nat) (es : List Nat) {x y : Operand} {b n : Nat} {T : TypeId} {u : Value} {A : Array Value} (E : Bx (St W s2 w)) (h : ∀ w', Bx (St W s w') → Bx (St W s3 w') → ∀ a, Fr N a l → K a w')
  (hi : ops[i]? = some oi := by exact rfl) (ho : OpE oi (.store t x y) := by exact ⟨rfl, rfl, rfl⟩) (hx : evO l x = some (.pointer (some ⟨b, 0, none⟩)) := by exact rfl) (hy : evO l y = some (.agg A) := by exact rfl) (hj : s2[j]? = some (boxA b n T u) := by exact rfl) (h3 : setO s2 j (boxA b n T (.agg A)) = some s3 := by exact rfl) (he : erL es s3 = some s := by exact rfl) (h1 : (A.toList.all fun u => u.oneCell') = true := by exact rfl) (hl : A.toList.length = n := by exact rfl) (hn : XH P t n = true := by kernel_rfl) : ∀ a, Fr N a l → wpOp P ops Q i (fun a' w' => St W s w' ∧ K a' w') a w := fun a hF => by
 obtain ⟨Z⟩ := A;refine ZcD hi ho.hg ho.ho ho.hd (hF.ev hx) (hF.ev hy) E.o j hj (Zb2 Z h1 hl) hn fun w' h2 => ?_;rw [V3 h3] at h2;exact ⟨h2.erS es he, h w' ⟨h2.erS es he⟩ ⟨h2⟩ a hF⟩
def Zic : List Value → Nat → Value → Option (List Value)
 | [], _, _ => none
 | _ :: r, 0, x => some (x :: r)
 | y :: r, i + 1, x => match Zic r i x with
  | some r' => some (y :: r')
  | none => none
theorem Zbi : ∀ {s : List Value} {i : Nat} {x : Value} {s' : List Value}, Zic s i x = some s' → s.set i x = s' ∧ i < s.length
 | [], _, _, _, h => by cases h
 | _ :: r, 0, x, s', h => ⟨Option.some.inj h, by simp⟩
 | y :: r, i + 1, x, s', h => by
  have h : (match Zic r i x with | some r' => some (y :: r') | none => none) = some s' := h
  cases hq : Zic r i x with
  | none => rw [hq] at h; cases h
  | some q => rw [hq] at h; obtain rfl := Option.some.inj h; exact ⟨by rw [List.set_cons_succ, (Zbi hq).1], by simpa using (Zbi hq).2⟩
theorem yof (j : Nat) (es : List Nat) {x y : Operand} {b k n : Nat} {T : TypeId} {A : Array Value} {C : List Value} {v : Value} (E : Bx (St W s2 w)) (h : ∀ w', Bx (St W s w') → Bx (St W s3 w') → ∀ a, Fr N a l → K a w')
  (hi : ops[i]? = some oi := by exact rfl) (ho : OpE oi (.store t x y) := by exact ⟨rfl, rfl, rfl⟩) (hx : evO l x = some (.pointer (some ⟨b, k, none⟩)) := by exact rfl) (hy : evO l y = some v := by exact rfl) (hs : Yx P t = true := by kernel_rfl) (hj : s2[j]? = some (boxA b n T (.agg A)) := by exact rfl) (hv : v.oneCell' = true := by exact rfl) (hC : Zic A.toList k v = some C := by exact rfl) (h3 : setO s2 j (boxA b n T (.agg C.toArray)) = some s3 := by exact rfl) (he : erL es s3 = some s := by exact rfl) : ∀ a, Fr N a l → wpOp P ops Q i (fun a' w' => St W s w' ∧ K a' w') a w := fun a hF => by
 obtain ⟨Z⟩ := A;obtain ⟨e, hk⟩ := Zbi hC;refine ZeS hi ho.hg ho.ho ho.hd (hF.ev hx) (hF.ev hy) hs E.o j hj (Nat.ble_eq_true_of_le hk) hv fun w' h2 => ?_;rw [List.setIfInBounds_toArray, show Z.set k v = C from e, V3 h3] at h2;exact ⟨h2.erS es he, h w' ⟨h2.erS es he⟩ ⟨h2⟩ a hF⟩
theorem yoa (Z : List Value) (E : Bx (St W s w)) (M : Bx (St W s2 w)) (h : ∀ w' b, Bx (St W s w') → Bx (St W (boxA b Z.length t (.agg Z.toArray) :: s2) w') → ∀ a, Fr N a ((d, .pointer (some ⟨b, 0, none⟩)) :: l) → K a w')
  (hi : ops[i]? = some oi := by exact rfl) (ho : OpI N oi (.alloc t) d := by exact ⟨rfl, rfl, rfl, rfl⟩) (hZ : ZeP P t = some Z := by kernel_rfl) (h1 : (Z.all fun u => u.oneCell') = true := by exact rfl) : ∀ a, Fr N a l → wpOp P ops Q i (fun a' w' => St W s w' ∧ K a' w') a w := fun _ hF =>
 Zlh hi ho.hg hF ho.ho ho.hd ho.hn hZ h1 M.o E.o fun a' w' b h1 h2 h3 => ⟨h3, h w' b ⟨h3⟩ ⟨h2⟩ a' h1⟩
theorem yoe (e size : Nat) (E : Bx (St W s w)) (M : Bx (St W s2 w)) (h : ∀ w' b, Bx (St W s w') → Bx (St W s2 w') → ∀ a, Fr N a ((d, .slice (some ⟨b, 0, none⟩) 0 0) :: l) → K a w')
  (hi : ops[i]? = some oi := by exact rfl) (ho : OpI N oi (.buildSlice t 0 #[]) d := by exact ⟨rfl, rfl, rfl, rfl⟩) (hu : Yv P t = some (e, size) := by kernel_rfl) : ∀ a, Fr N a l → wpOp P ops Q i (fun a' w' => St W s w' ∧ K a' w') a w := fun _ hF =>
 Zlk hi ho.hg hF ho.ho ho.hd ho.hn hu M.o E.o fun a' w' b h1 h2 h3 => ⟨h3, h w' b ⟨h3⟩ ⟨h2⟩ a' h1⟩
theorem yoy {v : Value} (E : Bx (St W s w)) (hy : ∀ a, Fr N a l → Yl P w oi a v) (h : ∀ a, Fr N a ((d, v) :: l) → K a w) (hi : ops[i]? = some oi := by exact rfl) (hg : oi.guard = none := by exact rfl) (hd : oi.dst = some d := by exact rfl) (hN : Nat.blt d N = true := by exact rfl) : ∀ a, Fr N a l → wpOp P ops Q i (fun a' w' => St W s w' ∧ K a' w') a w := fun a hF => by
 refine Vg hi hg ?_;unfold Oper.wp;rw [show (execOp a.eval oi).run P w = _ from hy a hF];exact (show St W s w ∧ K (a.put oi.dst v) w by rw [hd]; exact ⟨E.o, h _ (hF.put (Nat.le_of_ble_eq_true hN) v)⟩)
theorem ysF (j : Nat) {x y : Operand} {b k n : Nat} {T : TypeId} {A : Array Value} {C : List Value} {v : Value} (E : Bx (St W s w)) (h : ∀ w', Bx (St W s' w') → ∀ a, Fr N a l → wpList P ops Q rest a w')
  (ho : OpE o (.store t x y) := by exact ⟨rfl, rfl, rfl⟩) (hx : evO l x = some (.pointer (some ⟨b, k, none⟩)) := by exact rfl) (hy : evO l y = some v := by exact rfl) (hs : Yx P t = true := by kernel_rfl) (hj : s[j]? = some (boxA b n T (.agg A)) := by exact rfl) (hv : v.oneCell' = true := by exact rfl) (hC : Zic A.toList k v = some C := by exact rfl) (h3 : setO s j (boxA b n T (.agg C.toArray)) = some s' := by exact rfl) : ∀ a, Fr N a l → wpList P ops Q (o :: rest) a w := fun a hF => by
 obtain ⟨Z⟩ := A;obtain ⟨e, hk⟩ := Zbi hC;refine ZjQ ho.hg ho.ho ho.hd (hF.ev hx) (hF.ev hy) hs E.o j hj (Nat.ble_eq_true_of_le hk) hv fun w' h2 => ?_;rw [List.setIfInBounds_toArray, show Z.set k v = C from e, V3 h3] at h2;exact h w' ⟨h2⟩ a hF
end
section
variable {P : Program} {ops : Array Oper} {Q : Exit → Act → World → Prop} {rest : List Oper} {o oi : Oper} {w W : World} {N : Nat} {l : List (Nat × Value)} {s : List Asr} {d b m : Nat} {t T : TypeId} {A : Array Value} {v : Value} {cs : List Value}
def ZcE {α : Type} (x : Option Nat) (y : Option α) : Option (Nat × α) := match x with
 | some d => match y with
  | some r => some (d, r)
  | none => none
 | none => none
theorem Xt {α : Type} {x : Option Nat} {y : Option α} {d : Nat} {r : α} (h : ZcE x y = some (d, r)) : x = some d ∧ y = some r := by
 unfold ZcE at h
 split at h
 ·split at h
  ·obtain ⟨rfl, rfl⟩ := Prod.mk.inj (Option.some.inj h); exact ⟨rfl, rfl⟩
  ·cases h
 ·cases h
theorem Xl (i : Nat) (E : Bx (St W s w)) (hi : s[i]? = some (boxA b m T (.agg A))) (hc : ZcE (auD N ops l o) (ldS A l o.op) = some (d, t, b, v)) (h : ∀ a, Fr N a ((d, v) :: l) → wpList P ops Q rest a w) (hs : Yx P t = true := by kernel_rfl) : ∀ a, Fr N a l → wpList P ops Q (o :: rest) a w :=
 xy (Xt hc).1 (vc E.o i hi (Xt hc).2 hs) h
theorem Xw (i n : Nat) (E : Bx (St W s w)) (hi : s[i]? = some (boxA b m T (.agg A))) (hc : ZcE (auD N ops l o) (ldA n A l o.op) = some (d, t, b, cs)) (h : ∀ a, Fr N a ((d, .agg cs.toArray) :: l) → wpList P ops Q rest a w) (hs : XH P t n = true := by kernel_rfl) : ∀ a, Fr N a l → wpList P ops Q (o :: rest) a w :=
 xy (Xt hc).1 (vw E.o i n hi (Xt hc).2 hs) h
theorem Xf (j : Nat) {i k : Nat} (hc : ZcE (auD N ops l o) (faO l o.op) = some (d, t, i, b, k)) (h : ∀ a, Fr N a ((d, .pointer (some ⟨b, k + j, none⟩)) :: l) → wpList P ops Q rest a w) (hj : Jv P t i = some j := by kernel_rfl) : ∀ a, Fr N a l → wpList P ops Q (o :: rest) a w :=
 xy (Xt hc).1 (vf j (Xt hc).2 hj) h
theorem Ql (i : Nat) {Q : Act → Prop} (hi : s[i]? = some (boxA b m T (.agg A))) (hc : ZcE (auD N ops l o) (ldS A l o.op) = some (d, t, b, v)) (h : ∀ a, Fr N a ((d, v) :: l) → wpQuiet P ops (St W s) Q rest a) (hs : Yx P t = true := by kernel_rfl) : ∀ a, Fr N a l → wpQuiet P ops (St W s) Q (o :: rest) a :=
 xq (Xt hc).1 (fun E => vc E i hi (Xt hc).2 hs) h
theorem Qw (i n : Nat) {Q : Act → Prop} (hi : s[i]? = some (boxA b m T (.agg A))) (hc : ZcE (auD N ops l o) (ldA n A l o.op) = some (d, t, b, cs)) (h : ∀ a, Fr N a ((d, .agg cs.toArray) :: l) → wpQuiet P ops (St W s) Q rest a) (hs : XH P t n = true := by kernel_rfl) : ∀ a, Fr N a l → wpQuiet P ops (St W s) Q (o :: rest) a :=
 xq (Xt hc).1 (fun E => vw E i n hi (Xt hc).2 hs) h
theorem Qf (j : Nat) {i k : Nat} {Q : Act → Prop} (hc : ZcE (auD N ops l o) (faO l o.op) = some (d, t, i, b, k)) (h : ∀ a, Fr N a ((d, .pointer (some ⟨b, k + j, none⟩)) :: l) → wpQuiet P ops (St W s) Q rest a) (hj : Jv P t i = some j := by kernel_rfl) : ∀ a, Fr N a l → wpQuiet P ops (St W s) Q (o :: rest) a :=
 xq (Xt hc).1 (fun _ => vf j (Xt hc).2 hj) h
section
variable {fuel : Nat} {listed : Array Bool}
def opX {α : Type} (N : Nat) (ops : Array Oper) (l : List (Nat × Value)) (k : Nat) (f : Op → Option α) : Option (Oper × Nat × α) := match ops[k]? with
 | some o => match auD N ops l o with
  | some d => match f o.op with
   | some r => some (o, d, r)
   | none => none
  | none => none
 | none => none
theorem Q7 {α : Type} {k : Nat} {f : Op → Option α} {r : α} (h : opX N ops l k f = some (oi, d, r)) : ops[k]? = some oi ∧ auD N ops l oi = some d ∧ f oi.op = some r := by
 unfold opX at h
 split at h
 ·rename_i h1
  split at h
  ·rename_i h2
   split at h
   ·rename_i h3
    simp only [Option.some.injEq, Prod.mk.injEq] at h;obtain ⟨rfl, rfl, rfl⟩ := h; exact ⟨h1, h2, h3⟩
   ·cases h
  ·cases h
 ·cases h
theorem Hp (k : Nat) (E : Bx (St W s w)) (hc : opX N ops l k (auV l) = some (oi, d, v)) (h : ∀ a, Fr N a ((d, v) :: l) → wpAnyH P .any ops Q (St W s) fuel (listed.setIfInBounds k true) a w) (hs : Region.noSelect ops = true := by kernel_rfl) (hf : Region.free .any ops listed k = true := by kernel_rfl) (hr : (Region.ready .any ops listed).contains k = true := by kernel_rfl) (hQ : ∀ c a w, Q (.panic c) (a.put oi.dst v) w → Q (.panic c) a w := by exact fun _ _ _ h => h) : ∀ a, Fr N a l → wpAnyH P .any ops Q (St W s) (fuel + 1) listed a w :=
 xh k E.o (Q7 hc).1 (Q7 hc).2.1 (Q7 hc).2.2 h hs hf hr hQ
theorem Hl (k i : Nat) (E : Bx (St W s w)) (hi : s[i]? = some (boxA b m T (.agg A))) (hc : opX N ops l k (ldS A l) = some (oi, d, t, b, v)) (h : ∀ a, Fr N a ((d, v) :: l) → wpAnyH P .any ops Q (St W s) fuel (listed.setIfInBounds k true) a w) (ht : Yx P t = true := by kernel_rfl) (hs : Region.noSelect ops = true := by kernel_rfl) (hf : Region.free .any ops listed k = true := by kernel_rfl) (hr : (Region.ready .any ops listed).contains k = true := by kernel_rfl) (hQ : ∀ c a w, Q (.panic c) (a.put oi.dst v) w → Q (.panic c) a w := by exact fun _ _ _ h => h) : ∀ a, Fr N a l → wpAnyH P .any ops Q (St W s) (fuel + 1) listed a w :=
 xhy k E.o (Q7 hc).1 (Q7 hc).2.1 (fun E => vc E i hi (Q7 hc).2.2 ht) h hs hf hr hQ
theorem Hw (k i n : Nat) (E : Bx (St W s w)) (hi : s[i]? = some (boxA b m T (.agg A))) (hc : opX N ops l k (ldA n A l) = some (oi, d, t, b, cs)) (h : ∀ a, Fr N a ((d, .agg cs.toArray) :: l) → wpAnyH P .any ops Q (St W s) fuel (listed.setIfInBounds k true) a w) (ht : XH P t n = true := by kernel_rfl) (hs : Region.noSelect ops = true := by kernel_rfl) (hf : Region.free .any ops listed k = true := by kernel_rfl) (hr : (Region.ready .any ops listed).contains k = true := by kernel_rfl) (hQ : ∀ c a w, Q (.panic c) (a.put oi.dst (.agg cs.toArray)) w → Q (.panic c) a w := by exact fun _ _ _ h => h) : ∀ a, Fr N a l → wpAnyH P .any ops Q (St W s) (fuel + 1) listed a w :=
 xhy k E.o (Q7 hc).1 (Q7 hc).2.1 (fun E => vw E i n hi (Q7 hc).2.2 ht) h hs hf hr hQ
theorem Hf (k j : Nat) {i f : Nat} (E : Bx (St W s w)) (hc : opX N ops l k (faO l) = some (oi, d, t, i, b, f)) (h : ∀ a, Fr N a ((d, .pointer (some ⟨b, f + j, none⟩)) :: l) → wpAnyH P .any ops Q (St W s) fuel (listed.setIfInBounds k true) a w) (hj : Jv P t i = some j := by kernel_rfl) (hs : Region.noSelect ops = true := by kernel_rfl) (hf : Region.free .any ops listed k = true := by kernel_rfl) (hr : (Region.ready .any ops listed).contains k = true := by kernel_rfl) (hQ : ∀ c a w, Q (.panic c) (a.put oi.dst (.pointer (some ⟨b, f + j, none⟩))) w → Q (.panic c) a w := by exact fun _ _ _ h => h) : ∀ a, Fr N a l → wpAnyH P .any ops Q (St W s) (fuel + 1) listed a w :=
 xhy k E.o (Q7 hc).1 (Q7 hc).2.1 (fun _ => vf j (Q7 hc).2.2 hj) h hs hf hr hQ
end
theorem xcd {G : Act → Prop} (k : Nat) {p : Prop} [Decidable p] (hk : lk l k = some (.bool (decide p))) (h1 : decide p = true → p → ∀ a, Fr N a ((k, .bool true) :: l) → G a) (h2 : decide p = false → ¬ p → ∀ a, Fr N a ((k, .bool false) :: l) → G a) : ∀ a, Fr N a l → G a := xcs k hk (fun c => h1 c (of_decide_eq_true c)) fun c => h2 c (of_decide_eq_false c)
theorem xce {G : Act → Prop} (k : Nat) {α : Type} [BEq α] [LawfulBEq α] {x y : α} (hk : lk l k = some (.bool (x == y))) (h1 : (x == y) = true → x = y → ∀ a, Fr N a ((k, .bool true) :: l) → G a) (h2 : (x == y) = false → x ≠ y → ∀ a, Fr N a ((k, .bool false) :: l) → G a) : ∀ a, Fr N a l → G a := xcs k hk (fun c => h1 c (eq_of_beq c)) fun c => h2 c (ne_of_beq_false c)
theorem xcn {G : Act → Prop} (k : Nat) {α : Type} [BEq α] [LawfulBEq α] {x y : α} (hk : lk l k = some (.bool (x != y))) (h1 : (x != y) = true → x ≠ y → ∀ a, Fr N a ((k, .bool true) :: l) → G a) (h2 : (x != y) = false → x = y → ∀ a, Fr N a ((k, .bool false) :: l) → G a) : ∀ a, Fr N a l → G a := xcs k hk (fun c => h1 c (bne_iff_ne.1 c)) fun c => h2 c (bne_eq_false_iff_eq.1 c)
end
inductive QX (x : Asr) : List Asr → List Asr → Prop
  | here (s : List Asr) : QX x (x :: s) s
  | there {y : Asr} {s r : List Asr} (h : QX x s r) : QX x (y :: s) (y :: r)
theorem QX.hereB {b n n' : Nat} {T : TypeId} {v v' : Value} {s : List Asr} (h : n = n') (k : v = v') : QX (boxA b n T v) (boxA b n' T v' :: s) s := by subst h k; exact QX.here s
theorem QX.hereR {α : Type} {enc : α → List Value} {size : Nat} {e : TypeId} {ao : Option Addr} {n n' c : Nat} {xs xs' : List α} {s : List Asr} (h : n = n') (k : xs = xs') : QX (Zg enc size e (.slice ao n c) xs) (Zg enc size e (.slice ao n' c) xs' :: s) s := by subst h k; exact QX.here s
theorem QX.perm {x : Asr} {s r : List Asr} (h : QX x s r) : s.Perm (x :: r) := by
 induction h with
 | here s => exact List.Perm.refl _
 | there _ ih => exact (ih.cons _).trans (List.Perm.swap _ _ _)
inductive Y7 : List Asr → List Asr → Prop
  | same (s : List Asr) : Y7 s s
  | keep {x : Asr} {s t : List Asr} (h : Y7 s t) : Y7 (x :: s) (x :: t)
  | drop {x : Asr} {s t : List Asr} (h : Y7 s t) : Y7 s (x :: t)
theorem Y7.keepB {b n n' : Nat} {T : TypeId} {v v' : Value} {s t : List Asr} (h : n = n') (k : v = v') (i : Y7 s t) : Y7 (boxA b n T v :: s) (boxA b n' T v' :: t) := by subst h k; exact i.keep
theorem Y7.keepR {α : Type} {enc : α → List Value} {size : Nat} {e : TypeId} {ao : Option Addr} {n n' c : Nat} {xs xs' : List α} {s t : List Asr} (h : n = n') (k : xs = xs') (i : Y7 s t) : Y7 (Zg enc size e (.slice ao n c) xs :: s) (Zg enc size e (.slice ao n' c) xs' :: t) := by subst h k; exact i.keep
theorem St.subA {W w : World} {s t : List Asr} (hs : Y7 s t) (r : List Asr) (h : St W (r ++ t) w) : St W (r ++ s) w := by
 induction hs generalizing r with
 | same s => exact h
 | @keep x s t _ ih => rw [List.append_cons] at h ⊢; exact ih _ h
 | @drop x s t _ ih => exact ih r ((h.perm List.perm_middle).tail)
inductive PmA : List Asr → List Asr → Prop
  | same (s : List Asr) : PmA s s
  | cons {x : Asr} {s r t : List Asr} (h : QX x s r) (k : PmA r t) : PmA s (x :: t)
theorem PmA.perm {s t : List Asr} (h : PmA s t) : s.Perm t := by
 induction h with
 | same s => exact List.Perm.refl _
 | cons h _ ih => exact h.perm.trans (ih.cons _)
inductive ZgM (b n : Nat) (T : TypeId) (v : Value) : List Asr → List Asr → Prop
  | here {u : Value} {s : List Asr} : ZgM b n T v (boxA b n T u :: s) (boxA b n T v :: s)
  | there {y : Asr} {s r : List Asr} (h : ZgM b n T v s r) : ZgM b n T v (y :: s) (y :: r)
theorem ZgM.is {b n : Nat} {T : TypeId} {v : Value} {s r : List Asr} (h : ZgM b n T v s r) : ∃ j u, s[j]? = some (boxA b n T u) ∧ s.set j (boxA b n T v) = r := by
 induction h with
 | @here u s => exact ⟨0, u, rfl, rfl⟩
 | there _ ih => obtain ⟨j, u, h1, h2⟩ := ih; exact ⟨j + 1, u, by simpa using h1, by rw [List.set_cons_succ, h2]⟩
inductive ZgN (b k : Nat) (v : Value) : List Asr → List Asr → Prop
  | here {n : Nat} {T : TypeId} {A : Array Value} {C : List Value} {s : List Asr} (h : Zic A.toList k v = some C) : ZgN b k v (boxA b n T (.agg A) :: s) (boxA b n T (.agg C.toArray) :: s)
  | there {y : Asr} {s r : List Asr} (h : ZgN b k v s r) : ZgN b k v (y :: s) (y :: r)
theorem ZgN.is {b k : Nat} {v : Value} {s r : List Asr} (h : ZgN b k v s r) : ∃ j n T A, s[j]? = some (boxA b n T (.agg A)) ∧ k < A.size ∧ s.set j (boxA b n T (.agg (A.setIfInBounds k v))) = r := by
 induction h with
 | @here n T A C s h =>
  obtain ⟨Z⟩ := A;obtain ⟨e, hk⟩ := Zbi h;exact ⟨0, n, T, _, rfl, hk, by rw [List.setIfInBounds_toArray, show Z.set k v = C from e]; rfl⟩
 | there _ ih => obtain ⟨j, n, T, A, h1, h2, h3⟩ := ih; exact ⟨j + 1, n, T, A, by simpa using h1, h2, by rw [List.set_cons_succ, h3]⟩
def Bx.lk (x : Asr) {W w : World} {s r : List Asr} (h : Bx (St W s w)) (hl : QX x s r := by repeat (first | with_reducible exact QX.here _ | ((with_reducible apply QX.hereB) <;> exact rfl) | ((with_reducible apply QX.hereR) <;> exact rfl) | apply QX.there)) : Bx (St W (x :: r) w) := ⟨h.out.perm hl.perm⟩
def Bx.upd {W w w' : World} {s s2 : List Asr} (_ : Bx (St W s w)) (h : Bx (St W s2 w')) (hs : Y7 s s2 := by repeat (first | with_reducible exact Y7.same _ | with_reducible refine Y7.keep ?_ | ((with_reducible apply Y7.keepB); exact rfl; exact rfl) | ((with_reducible apply Y7.keepR); exact rfl; exact rfl) | refine Y7.drop ?_)) : Bx (St W s w') := ⟨St.subA hs [] h.out⟩
theorem St.pmA {W w : World} {s t : List Asr} (h : St W s w) (hp : PmA s t := by repeat (first | with_reducible exact PmA.same _ | refine PmA.cons (by repeat (first | with_reducible exact QX.here _ | ((with_reducible apply QX.hereB) <;> exact rfl) | ((with_reducible apply QX.hereR) <;> exact rfl) | apply QX.there)) ?_)) : St W t w := h.perm hp.perm
section
variable {P : Program} {ops : Array Oper} {Q : Exit → Act → World → Prop} {K : Act → World → Prop} {oi : Oper} {a : Act} {w W : World} {N : Nat} {l : List (Nat × Value)} {s s2 s3 : List Asr} {d : Nat} {t : TypeId} {i : Nat} {fuel : Nat} {listed : Array Bool}
theorem YS {x y : Operand} {b n : Nat} {T : TypeId} {A : Array Value} (E : Bx (St W s2 w)) (h : ∀ w', Bx (St W s w') → Bx (St W s3 w') → ∀ a, Fr N a l → K a w')
  (hi : ops[i]? = some oi := by exact rfl) (ho : OpE oi (.store t x y) := by exact ⟨rfl, rfl, rfl⟩) (hx : evO l x = some (.pointer (some ⟨b, 0, none⟩)) := by exact rfl) (hy : evO l y = some (.agg A) := by exact rfl) (hj : ZgM b n T (.agg A) s2 s3 := by repeat (first | with_reducible exact ZgM.here | apply ZgM.there)) (he : Y7 s s3 := by repeat (first | with_reducible exact Y7.same _ | with_reducible refine Y7.keep ?_ | ((with_reducible apply Y7.keepB); exact rfl; exact rfl) | ((with_reducible apply Y7.keepR); exact rfl; exact rfl) | refine Y7.drop ?_)) (h1 : (A.toList.all fun u => u.oneCell') = true := by exact rfl) (hl : A.toList.length = n := by exact rfl) (hn : XH P t n = true := by kernel_rfl) : ∀ a, Fr N a l → wpOp P ops Q i (fun a' w' => St W s w' ∧ K a' w') a w := fun a hF => by
 obtain ⟨Z⟩ := A;obtain ⟨j, u, h5, h6⟩ := hj.is;refine ZcD hi ho.hg ho.ho ho.hd (hF.ev hx) (hF.ev hy) E.o j h5 (Zb2 Z h1 hl) hn fun w' h2 => ?_;rw [h6] at h2;exact ⟨St.subA he [] h2, h w' ⟨St.subA he [] h2⟩ ⟨h2⟩ a hF⟩
theorem YF {x y : Operand} {b k : Nat} {v : Value} (E : Bx (St W s2 w)) (h : ∀ w', Bx (St W s w') → Bx (St W s3 w') → ∀ a, Fr N a l → K a w')
  (hi : ops[i]? = some oi := by exact rfl) (ho : OpE oi (.store t x y) := by exact ⟨rfl, rfl, rfl⟩) (hx : evO l x = some (.pointer (some ⟨b, k, none⟩)) := by exact rfl) (hy : evO l y = some v := by exact rfl) (hs : Yx P t = true := by kernel_rfl) (hv : v.oneCell' = true := by exact rfl) (hj : ZgN b k v s2 s3 := by repeat (first | with_reducible exact ZgN.here rfl | apply ZgN.there)) (he : Y7 s s3 := by repeat (first | with_reducible exact Y7.same _ | with_reducible refine Y7.keep ?_ | ((with_reducible apply Y7.keepB); exact rfl; exact rfl) | ((with_reducible apply Y7.keepR); exact rfl; exact rfl) | refine Y7.drop ?_)) : ∀ a, Fr N a l → wpOp P ops Q i (fun a' w' => St W s w' ∧ K a' w') a w := fun a hF => by
 obtain ⟨j, n, T, A, h5, h7, h6⟩ := hj.is;refine ZeS hi ho.hg ho.ho ho.hd (hF.ev hx) (hF.ev hy) hs E.o j h5 (Nat.ble_eq_true_of_le h7) hv fun w' h2 => ?_;rw [h6] at h2;exact ⟨St.subA he [] h2, h w' ⟨St.subA he [] h2⟩ ⟨h2⟩ a hF⟩
end
inductive PdA : List Asr → List Asr → Prop
  | done {s t : List Asr} (h : Y7 t s) : PdA s t
  | cons {x : Asr} {s r t : List Asr} (h : QX x s r) (k : PdA r t) : PdA s (x :: t)
theorem St.pdB {W w : World} {s t : List Asr} (hp : PdA s t) : ∀ p : List Asr, St W (p ++ s) w → St W (p ++ t) w := by
 induction hp with
 | done h => exact fun p hs => St.subA h p hs
 | @cons x s r t h _ ih =>
  intro p hs;have h1 : St W ((p ++ [x]) ++ r) w := by
   rw [List.append_assoc];exact hs.perm (h.perm.append_left p)
  rw [List.append_cons];exact ih _ h1
theorem St.pdA {W w : World} {s t : List Asr} (h : St W s w) (hp : PdA s t := by (repeat refine PdA.cons (by repeat (first | with_reducible exact QX.here _ | ((with_reducible apply QX.hereB) <;> exact rfl) | ((with_reducible apply QX.hereR) <;> exact rfl) | apply QX.there)) ?_); exact PdA.done (by repeat (first | with_reducible exact Y7.same _ | with_reducible refine Y7.keep ?_ | ((with_reducible apply Y7.keepB); exact rfl; exact rfl) | ((with_reducible apply Y7.keepR); exact rfl; exact rfl) | refine Y7.drop ?_))) : St W t w := St.pdB hp [] h
section
variable {P : Program} {ops : Array Oper} {Q : Exit → Act → World → Prop} {a : Act} {w W : World} {s : List Asr} {fuel : Nat} {listed : Array Bool}
theorem rdy {N : Nat} {l : List (Nat × Value)} (k : Nat) (h : ∀ a, Fr N a l → wpAnyH P .any ops Q (St W s) fuel listed a w) (_ : (Region.ready .any ops listed).contains k = true := by decide +kernel) : ∀ a, Fr N a l → wpAnyH P .any ops Q (St W s) fuel listed a w := h
theorem Zo3 {N : Nat} {l : List (Nat × Value)} {m : List Nat} (hr : Region.ready .any ops listed = m) (hm : m ≠ []) (h : ∀ j ∈ m, ∀ a, Fr N a l → Zbh P ops Q W s fuel listed j a w) : ∀ a, Fr N a l → wpAnyH P .any ops Q (St W s) (fuel + 1) listed a w := fun a hF => wpAnyH_all hr hm fun j hj => h j hj a hF
section
variable {N : Nat} {l : List (Nat × Value)}
theorem Z0 (i : Nat) (h : ∀ a, Fr N a l → Zbh P ops Q W s fuel listed i a w) (hr : Region.ready .any ops listed = [i] := by decide +kernel) : ∀ a, Fr N a l → wpAnyH P .any ops Q (St W s) (fuel + 1) listed a w := Zo i h hr
theorem YB (i k : Nat) (h : ∀ a, Fr N a l → Zbh P ops Q W s fuel listed i a w) (h' : ∀ a, Fr N a l → Zbh P ops Q W s fuel listed k a w) (hr : Region.ready .any ops listed = [i, k] := by decide +kernel) : ∀ a, Fr N a l → wpAnyH P .any ops Q (St W s) (fuel + 1) listed a w := Zal i k h h' hr
theorem UZ (i k m : Nat) (h : ∀ a, Fr N a l → Zbh P ops Q W s fuel listed i a w) (h' : ∀ a, Fr N a l → Zbh P ops Q W s fuel listed k a w) (h'' : ∀ a, Fr N a l → Zbh P ops Q W s fuel listed m a w) (hr : Region.ready .any ops listed = [i, k, m] := by decide +kernel) : ∀ a, Fr N a l → wpAnyH P .any ops Q (St W s) (fuel + 1) listed a w := Zo3 hr (by simp) fun j hj => by
 rcases (by simpa using hj : j = i ∨ j = k ∨ j = m) with rfl | rfl | rfl
 ·exact h
 ·exact h'
 ·exact h''
theorem Zpf (i k m p : Nat) (h : ∀ a, Fr N a l → Zbh P ops Q W s fuel listed i a w) (h' : ∀ a, Fr N a l → Zbh P ops Q W s fuel listed k a w) (h'' : ∀ a, Fr N a l → Zbh P ops Q W s fuel listed m a w) (h5 : ∀ a, Fr N a l → Zbh P ops Q W s fuel listed p a w) (hr : Region.ready .any ops listed = [i, k, m, p] := by decide +kernel) : ∀ a, Fr N a l → wpAnyH P .any ops Q (St W s) (fuel + 1) listed a w := Zo3 hr (by simp) fun j hj => by
 rcases (by simpa using hj : j = i ∨ j = k ∨ j = m ∨ j = p) with rfl | rfl | rfl | rfl
 ·exact h
 ·exact h'
 ·exact h''
 ·exact h5
end
theorem gdn {N : Nat} {l : List (Nat × Value)} (h : ∀ a, Fr N a l → Q .normal a w) (hr : Region.ready .any ops listed = [] := by decide +kernel) : ∀ a, Fr N a l → wpAnyH P .any ops Q (St W s) fuel listed a w := hdn h hr
end
theorem upG {W w : World} {s s2 : List Asr} {G : Prop} (h : Bx (St W s2 w)) (k : Bx (St W s w) → G) (hs : Y7 s s2 := by repeat (first | with_reducible exact Y7.same _ | with_reducible refine Y7.keep ?_ | ((with_reducible apply Y7.keepB); exact rfl; exact rfl) | ((with_reducible apply Y7.keepR); exact rfl; exact rfl) | refine Y7.drop ?_)) : St W s w ∧ G := ⟨St.subA hs [] h.out, k ⟨St.subA hs [] h.out⟩⟩
theorem onb {N : Nat} {l : List (Nat × Value)} {G : Prop} {K : Act → Prop} (h : G) (k : ∀ a, Fr N a l → K a) : ∀ a, Fr N a l → G ∧ K a := fun a hF => ⟨h, k a hF⟩
end Go.Proofs.YthnbgnjpbmnelaaGreatDoor
