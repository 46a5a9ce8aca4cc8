/- A part of the proof in YtdlmlagcniifjaaGreatDoorFnZ32. -/
import Derived.Deep.AppendLies
import Derived.Test.YtdlmlagcniifjaaGreatDoorFnZ6
namespace Go.Proofs.YtdlmlagcniifjaaGreatDoor
set_option linter.unusedVariables false
set_option linter.unusedSimpArgs false
set_option maxHeartbeats 1000000
set_option maxRecDepth 100000
open Go.RowKit
section
variable {W w w' : World} {s : List Asr} {α : Type} {enc : α → List Value} {size : Nat} {e : TypeId}
theorem St.rowBlk (hS : St W s w) (i : Nat) {ao : Option Addr} {n cap : Nat} {xs : List α} (hi : s[i]? = some (rowA enc size e (.slice ao n cap) xs)) :
    n = xs.length ∧ ((cap = 0 ∧ xs = []) ∨ (cap ≠ 0 ∧ ∃ g cur, ao = some ⟨g, 0, none⟩ ∧ w.heap[g]? = some (.cells cur e (0, 0)) ∧ n ≤ cap ∧ cap ≤ maxLen ∧ cur.size = cap * size ∧ cur.toList.take (n * size) = xs.flatMap enc ∧ W.heap.size ≤ g)) := by
  obtain ⟨ao', cap', hv, hc, _⟩ := hS.row i hi
  simp only [Value.slice.injEq] at hv
  obtain ⟨rfl, rfl, rfl⟩ := hv
  refine ⟨rfl, ?_⟩
  by_cases h0 : cap = 0
  · rcases hc with h | ho
    · exact .inl h
    · obtain ⟨_, _, hv, hle, _⟩ := owns_slice ho
      simp only [Value.slice.injEq, true_and] at hv
      obtain ⟨rfl, rfl⟩ := hv
      exact .inl ⟨h0, List.length_eq_zero_iff.1 (by omega)⟩
  · refine .inr ⟨h0, ?_⟩
    rcases hc with h | ho
    · exact absurd h.1 h0
    · rcases ho.2 with ⟨hv, _⟩ | ⟨g, cap', cur, hv, hB, hg, h1, h2, h3, h4⟩
      · simp only [Value.slice.injEq] at hv
        exact absurd hv.2.2 h0
      · simp only [Value.slice.injEq, true_and] at hv
        obtain ⟨rfl, rfl⟩ := hv
        exact ⟨g, cur, rfl, hg, h1, h2, h3, h4, hB⟩
theorem St.rowNew (hS : St W s w) {g cap : Nat} {cur : Array Value} {ys : List α} (hb : Below w.heap.size w w') (hg : w'.heap[g]? = some (.cells cur e (0, 0))) (hw : w.heap.size ≤ g) (hz : cur.size = cap * size) (hl : ys.length ≤ cap) (hm : cap ≤ maxLen)
    (ht : cur.toList.take (ys.length * size) = ys.flatMap enc) : St W (rowA enc size e (.slice (some ⟨g, 0, none⟩) ys.length cap) ys :: s) w' := by
  refine hS.add (ns := [_]) (St.ofRow (B1 := w'.heap.size) ⟨_, cap, rfl, .inr ⟨?_, .inr ⟨g, cap, cur, rfl, hw, hg, hl, hm, hz, ht⟩⟩, fun g' h => ?_⟩ hb)
  · rw [← ht, List.length_take]; have : ys.length * size ≤ cap * size := Nat.mul_le_mul_right size hl; simp; omega
  · simp only [Value.rowBlock] at h
    split at h
    · cases h
    · obtain rfl := Option.some.inj h; exact blk_lt hg
end
open Go.RowKit
section
variable {P : Program} {w : World} {α : Type}
theorem run_append_zero (t ty e : TypeId) (i : TypeInfo) (ht : P.underlying t = some (.slice e)) (hi : P.info? e = some i) (ao : Option Addr) (n cap : Nat) (hn : n ≤ cap) (ao2 : Option Addr) (c2 : Nat) :
    (Builtin.append_ #[t, t] ty #[.slice ao n cap, .slice ao2 0 c2]).run P w = .ok (.slice ao n cap) w := by
  have hfc : (Builtin.firstCells i.size 0 (.slice ao2 0 c2)).run P w = .ok #[] w := by
    cases ao2 with
    | none => simp [Builtin.firstCells]
    | some ad => exact run_firstCells_some (P := P) w i.size 0 ad 0 c2 [] (by simp) (by simp)
  cases ao <;> simp [Builtin.append_, run_underlying ht, sizeOf, typeInfo, hi, Builtin.lenOf, hfc, storeCells, hn]
theorem run_appL (t ty e : TypeId) (i : TypeInfo) (z : Value) (size bytes : Nat) (ht : P.underlying t = some (.slice e)) (hi : P.info? e = some i) (hz : i.zero = some z)
    (hsize : i.size = size) (hby : i.bytes = bytes) (hzs : z.cells.size = size) (hsz : 0 < size)
    {enc : α → List Value} (he : ∀ x, (enc x).length = size) {B B1 : Nat} {v : Value} {xs : List α} (h : RowO enc size e w B B1 v xs) (hB : B ≤ w.heap.size) (ao2 : Option Addr) (c2 : Nat) (ys : List α)
    (hr : Rd enc size w ao2 ys.length ys) (h1 : ∀ u ∈ ys.flatMap enc, u.oneCell' = true) (h63 : xs.length + ys.length ≤ maxLen) (hbytes : (xs.length + ys.length) * bytes ≤ 140737488355328) :
    ∃ ao cap w', (Builtin.append_ #[t, t] ty #[v, .slice ao2 ys.length c2]).run P w = .ok (.slice ao (xs.length + ys.length) cap) w' ∧ RowO enc size e w' B w'.heap.size (.slice ao (xs.length + ys.length) cap) (xs ++ ys) ∧
      w.grownBy w' (Value.rowBlock v) ∧ ∀ g, Value.rowBlock (.slice ao (xs.length + ys.length) cap) = some g → Value.rowBlock v = some g ∨ w.heap.size ≤ g := by
  by_cases hy : ys = []
  · subst hy
    obtain ⟨ao, cap, rfl, ho, hg⟩ := h
    have hle : xs.length ≤ cap := by
      rcases ho with ho | ho
      · rw [ho.2]; exact Nat.zero_le _
      · obtain ⟨_, _, hv, hle, _⟩ := owns_slice ho
        simp only [Value.slice.injEq, true_and] at hv
        obtain ⟨rfl, rfl⟩ := hv
        exact hle
    refine ⟨ao, cap, w, run_append_zero t ty e i ht hi ao _ cap hle ao2 c2, ?_, ⟨rfl, rfl, rfl, Nat.le_refl _, fun _ _ _ => rfl⟩, fun g hg => .inl hg⟩
    have hlt := RowO.lt (show RowO enc size e w B B1 (.slice ao xs.length cap) xs from ⟨ao, cap, rfl, ho, hg⟩)
    rw [List.append_nil]
    exact ⟨ao, cap, rfl, ho, fun g hg => (hlt g hg).2.2⟩
  · have hpos : 0 < ys.length := List.length_pos_iff.2 hy
    obtain ⟨ad, rfl⟩ : ∃ ad, ao2 = some ad := by
      cases ao2 with
      | none => exact absurd (rd_nil hr) hy
      | some ad => exact ⟨ad, rfl⟩
    have hnews := hr.news he hsz
    have hnl := flat_len _ _ he ys
    obtain ⟨ao, cap, rfl, ho, hg⟩ := h
    have hle : (xs ++ ys).length = xs.length + ys.length := by simp
    have hfl : (xs ++ ys).flatMap enc = xs.flatMap enc ++ ys.flatMap enc := by simp
    have mkR : ∀ {w' : World} {C C1 : Nat} {v' : Value}, w'.ownsRow C e size v' (xs.length + ys.length) (xs.flatMap enc ++ ys.flatMap enc) → (∀ g, v'.ownBlock = some g → g < C1) → RowO enc size e w' C C1 v' (xs ++ ys) := fun h k => RowO.mk (by rw [hle, hfl]; exact h) k
    by_cases h0 : cap = 0
    · have hx : xs = [] := by
        rcases ho with ho | ho
        · exact ho.2
        · obtain ⟨_, _, hv, hle, _⟩ := owns_slice ho
          simp only [Value.slice.injEq, true_and] at hv
          obtain ⟨rfl, rfl⟩ := hv
          exact List.length_eq_zero_iff.1 (by omega)
      subst hx
      subst h0
      rw [rowBlock_zero]
      cases ao with
      | none =>
        obtain ⟨g, cap, w', hrun, hown, hgr, _, hlt⟩ := run_append_lies (P := P) (w := w) t ty w.heap.size e i z size bytes ht hi hz hsize hby hzs hsz (.slice none 0 0) 0 [] ⟨by simp, .inl ⟨rfl, rfl⟩⟩ ad ys.length c2 (ys.flatMap enc) hnl hnews h1 hpos h63 hbytes (Nat.le_refl _) w.heap.size rfl
        refine ⟨some ⟨g, 0, none⟩, cap, w', hrun, ?_, hgr, fun g' h => ?_⟩
        · refine (mkR (by simpa using hown) (fun g' h => ?_)).mono hB (Nat.le_refl _)
          simp only [Value.ownBlock, Option.some.injEq] at h
          omega
        · right
          have := (hown.lt g' (rowBlock_own h)).1
          exact this
      | some a0 =>
        obtain ⟨v', w', hrun, hown, hgr⟩ := run_append_arg_grows (P := P) (w := w) t ty e i z size bytes ht hi hz hsize hby hzs hsz a0 0 0 [] (by simp) (by simp) ad ys.length c2 (ys.flatMap enc) hnl hnews (by omega) h63 hbytes
        obtain ⟨ao', cap', rfl, _⟩ := owns_slice hown
        refine ⟨ao', cap', w', hrun, ?_, hgr, fun g' h => ?_⟩
        · refine (mkR (by simpa using hown) (fun g' h => (hown.lt g' h).2)).mono hB (Nat.le_refl _)
        · right
          exact (hown.lt g' (rowBlock_own h)).1
    · have ho' : w.ownsRow B e size (.slice ao xs.length cap) xs.length (xs.flatMap enc) := by
        rcases ho with ho | ho
        · exact absurd ho.1 h0
        · exact ho
      obtain ⟨g, cap', w', hrun, hown, hgr, hor, hlt⟩ := run_append_lies (P := P) (w := w) t ty B e i z size bytes ht hi hz hsize hby hzs hsz _ xs.length _ ho' ad ys.length c2 (ys.flatMap enc) hnl hnews h1 hpos h63 hbytes hB w.heap.size rfl
      rw [rowBlock_pos h0]
      refine ⟨some ⟨g, 0, none⟩, cap', w', hrun, ?_, hgr, fun g' h => ?_⟩
      · refine mkR hown (fun g' h => ?_)
        simp only [Value.ownBlock, Option.some.injEq] at h
        omega
      · have := rowBlock_own h
        simp only [Value.ownBlock, Option.some.injEq] at this
        subst this
        rcases hor with h | h
        · exact .inl h
        · exact .inr (by omega)
end
section
variable {W w : World} {s : List Asr} {α : Type} {enc : α → List Value} {size : Nat} {e : TypeId}
theorem St.capLe (hS : St W s w) (i : Nat) {ao : Option Addr} {n cap : Nat} {xs : List α} (hi : s[i]? = some (rowA enc size e (.slice ao n cap) xs)) : xs.length ≤ cap := by
  obtain ⟨rfl, ⟨rfl, rfl⟩ | ⟨h0, g, cur, rfl, hg, h1, _⟩⟩ := hS.rowBlk i hi
  · exact Nat.le_refl _
  · exact h1
theorem Rd.take {ao : Option Addr} {n : Nat} {xs : List α} (h : Rd enc size w ao n xs) {k : Nat} (hk : k ≤ xs.length) : Rd enc size w ao k (xs.take k) := by
  refine ⟨by rw [List.length_take]; omega, fun i hi => ?_⟩
  rw [List.length_take] at hi
  have := h.2 i (by omega)
  rw [List.getElem?_take, if_pos (by omega)]
  exact this
theorem St.rdN (h : St W s w) (he : ∀ x, (enc x).length = size) (i : Nat) {ao : Option Addr} {n cap : Nat} {xs : List α} (hi : s[i]? = some (rowA enc size e (.slice ao n cap) xs)) : Rd enc size w ao n xs := by
  obtain ⟨rfl, _⟩ := h.rowBlk i hi
  exact h.rdOf he i hi
theorem rd_of_nil (enc : α → List Value) (size : Nat) (w : World) (ao : Option Addr) : Rd enc size w ao 0 [] := ⟨rfl, fun i hi => absurd hi (Nat.not_lt_zero _)⟩
end
structure ElemT (P : Program) (t e : TypeId) (size bytes : Nat) : Prop where
  ht : P.underlying t = some (.slice e)
  info : ∃ i z, P.info? e = some i ∧ i.zero = some z ∧ i.size = size ∧ i.bytes = bytes ∧ z.cells.size = size
  pos : 0 < size
section
variable {P : Program} {ops : Array Oper} {Q : Exit → Act → World → Prop} {rest : List Oper} {o : Oper} {a : Act} {w W : World} {N : Nat} {l : List (Nat × Value)} {s : List Asr} {α : Type} {enc : α → List Value} {size : Nat} {e : TypeId}
theorem St.appL (hS : St W s w) {t : TypeId} {bytes : Nat} (hT : ElemT P t e size bytes) (ty : TypeId) (he : ∀ x, (enc x).length = size) (i : Nat) {v : Value} {xs : List α} (hi : s[i]? = some (rowA enc size e v xs)) {ao2 : Option Addr} {n c2 : Nat} {ys : List α} (hr : Rd enc size w ao2 n ys) (h1 : ∀ u ∈ ys.flatMap enc, u.oneCell' = true)
    (h63 : xs.length + ys.length ≤ maxLen) (hbytes : (xs.length + ys.length) * bytes ≤ 140737488355328) :
    ∃ ao cap w', (Builtin.append_ #[t, t] ty #[v, .slice ao2 n c2]).run P w = .ok (.slice ao (xs.length + ys.length) cap) w' ∧ St W (s.set i (rowA enc size e (.slice ao (xs.length + ys.length) cap) (xs ++ ys))) w' := by
  obtain ⟨i0, z, hi0, hz0, k1, k2, k3⟩ := hT.info
  obtain rfl : n = ys.length := hr.1.symm
  obtain ⟨ao, cap, w', hrun, hrow, hgr, hor⟩ := run_appL (P := P) t ty e i0 z size bytes hT.ht hi0 hz0 k1 k2 k3 hT.pos he (hS.row i hi) hS.bel.size ao2 c2 ys hr h1 h63 hbytes
  exact ⟨ao, cap, w', hrun, hS.mutRow i hi hrow hgr hor⟩
theorem run_app {t : TypeId} {x y : Operand} (ho : o.op = .call { callee := .builtin .append, args := #[x, y], argTypes := #[t, t] }) {u v r : Value} (hx : a.eval x = u) (hy : a.eval y = v) {w' : World} (h : (Builtin.append_ #[t, t] o.type #[u, v]).run P w = .ok r w') : (execOp a.eval o).run P w = .ok (.value r) w' := by
  unfold execOp
  simp only [ho, resolve, invoke, builtin, Sem.run_bind, Sem.run_pure, Result.andThen_ok, List.map_toArray, List.map_cons, List.map_nil, hx, hy, h]
theorem wl_appL (hg : o.guard = none) (hF : Fr N a l) {t : TypeId} {x y : Operand} (ho : o.op = .call { callee := .builtin .append, args := #[x, y], argTypes := #[t, t] }) {d : Nat} (hd : o.dst = some d) (hN : Nat.blt d N = true) {v : Value} {ao2 : Option Addr} {n c2 : Nat} (hx : a.eval x = v) (hy : a.eval y = .slice ao2 n c2)
    {bytes : Nat} (hT : ElemT P t e size bytes) (he : ∀ x, (enc x).length = size) (hS : St W s w) (i : Nat) {xs : List α} (hi : s[i]? = some (rowA enc size e v xs)) {ys : List α} (hr : Rd enc size w ao2 n ys) (h1 : ∀ u ∈ ys.flatMap enc, u.oneCell' = true)
    (h63 : xs.length + ys.length ≤ maxLen) (hbytes : (xs.length + ys.length) * bytes ≤ 140737488355328)
    (h : ∀ ao cap w' a', Fr N a' ((d, .slice ao (xs.length + ys.length) cap) :: l) → St W (s.set i (rowA enc size e (.slice ao (xs.length + ys.length) cap) (xs ++ ys))) w' → wpList P ops Q rest a' w') : wpList P ops Q (o :: rest) a w := by
  obtain ⟨ao, cap, w', hrun, hS'⟩ := hS.appL hT o.type he i hi (c2 := c2) hr h1 h63 hbytes
  refine wpList_plain hg fun K hK => ?_
  unfold Oper.wp
  rw [run_app ho hx hy hrun]
  exact hK _ _ (hd ▸ h _ _ _ _ (hF.put (Nat.le_of_ble_eq_true hN) _) hS')
theorem wo_appL {i0 : Nat} {K : Act → World → Prop} (hi0 : ops[i0]? = some o) (hg : o.guard = none) (hF : Fr N a l) {t : TypeId} {x y : Operand} (ho : o.op = .call { callee := .builtin .append, args := #[x, y], argTypes := #[t, t] }) {d : Nat} (hd : o.dst = some d) (hN : Nat.blt d N = true) {v : Value} {ao2 : Option Addr} {n c2 : Nat} (hx : a.eval x = v) (hy : a.eval y = .slice ao2 n c2)
    {bytes : Nat} (hT : ElemT P t e size bytes) (he : ∀ x, (enc x).length = size) (hS : St W s w) (i : Nat) {xs : List α} (hi : s[i]? = some (rowA enc size e v xs)) {ys : List α} (hr : Rd enc size w ao2 n ys) (h1 : ∀ u ∈ ys.flatMap enc, u.oneCell' = true)
    (h63 : xs.length + ys.length ≤ maxLen) (hbytes : (xs.length + ys.length) * bytes ≤ 140737488355328)
    (h : ∀ ao cap w' a', Fr N a' ((d, .slice ao (xs.length + ys.length) cap) :: l) → St W (s.set i (rowA enc size e (.slice ao (xs.length + ys.length) cap) (xs ++ ys))) w' → K a' w') : wpOp P ops Q i0 K a w := by
  obtain ⟨ao, cap, w', hrun, hS'⟩ := hS.appL hT o.type he i hi (c2 := c2) hr h1 h63 hbytes
  refine wo_of hi0 hg ?_
  unfold Oper.wp
  rw [run_app ho hx hy hrun]
  exact (show K (a.put o.dst _) w' by rw [hd]; exact h _ _ _ _ (hF.put (Nat.le_of_ble_eq_true hN) _) hS')
theorem yl_sliceHi {t : TypeId} {x y : Operand} (ho : o.op = .slice t x none (some y) none) {ao : Option Addr} {n cap : Nat} (hx : a.eval x = .slice ao n cap) {kk : IntKind} {m : Int} (hy : a.eval y = .int kk m) {size : Nat} (hu : elemOf? P t = some (e, size)) {k : Nat} (hm : m = (k : Int)) (hk : k ≤ cap) : Yl P w o a (.slice ao k cap) := by
  unfold elemOf? at hu
  split at hu
  · rename_i e' hu'
    split at hu
    · rename_i inf hq
      subst hm
      have h2 : ((k : Int) ≤ (cap : Int)) := by omega
      unfold Yl execOp
      simp only [ho, hx, hy, Option.map_some, Option.map_none, Instr.sliceAt, Instr.slice, Sem.run_bind, run_underlying hu' w, Result.andThen_ok]
      simp [Instr.slice, Instr.sliceBounds, Instr.sliceBound, asIntOf, go_sem, run_underlying hu' w, sizeOf, typeInfo, hq, h2]
      intro hlt; omega
    · cases hu
  · cases hu
theorem yl_maxI {x y : Operand} {tt : Array TypeId} (ho : o.op = .call { callee := .builtin .max, args := #[x, y], argTypes := tt }) {k : IntKind} {m n : Int} (hx : a.eval x = .int k m) (hy : a.eval y = .int k n) : Yl P w o a (.int k (max m n)) := by
  unfold Yl execOp
  simp only [ho, resolve, invoke, builtin, Sem.run_bind, Sem.run_pure, Result.andThen_ok, List.map_toArray, List.map_cons, List.map_nil, hx, hy]
  simp only [Builtin.max_, List.foldlM_cons, List.foldlM_nil, Builtin.max2]
  simp [go_sem, Int.max_def]
  split <;> split <;> omega
theorem Fr.skipU (h : Fr N a l) {g d : Nat} {b : Bool} (ho : o.guard = some (g, b)) (hg : (ops[g]?).bind (·.dst) = some d) (hb : lk l d = some undef) : Region.wanted o (yielded ops a.tmps) = false := by
  simp [Region.wanted, ho, yielded, hg, h.at_ d _ hb, undef]
theorem wl_skipU (hF : Fr N a l) {g dg : Nat} {b : Bool} (hgd : o.guard = some (g, b)) (hgo : (ops[g]?).bind (·.dst) = some dg) (hgv : lk l dg = some undef) {d : Nat} (hd : o.dst = some d) (hN : Nat.blt d N = true) (h : ∀ a', Fr N a' ((d, undef) :: l) → wpList P ops Q rest a' w) : wpList P ops Q (o :: rest) a w := by
  refine wpList_step fun K hK => ?_
  rw [if_neg (by rw [hF.skipU hgd hgo hgv]; simp)]
  exact hK _ _ (hd ▸ h _ (hF.put (Nat.le_of_ble_eq_true hN) undef))
theorem wq_skipU {Q : Act → Prop} (hF : Fr N a l) {g dg : Nat} {b : Bool} (hgd : o.guard = some (g, b)) (hgo : (ops[g]?).bind (·.dst) = some dg) (hgv : lk l dg = some undef) {d : Nat} (hd : o.dst = some d) (hN : Nat.blt d N = true) (h : ∀ a', Fr N a' ((d, undef) :: l) → wpQuiet P ops (St W s) Q rest a') : wpQuiet P ops (St W s) Q (o :: rest) a := by
  refine wpQuiet_step fun K hK => ?_
  rw [if_neg (by rw [hF.skipU hgd hgo hgv]; simp)]
  exact hK _ (hd ▸ h _ (hF.put (Nat.le_of_ble_eq_true hN) undef))
theorem parts_of (hF : Fr N a l) {ps0 : Array (Nat × Operand)} {ps : List (Nat × Value)} (hp : ps0.toList.mapM (fun p => (evO l p.2).map fun v => (p.1, v)) = some ps) : (ps0.map fun (i, x) => (i, a.eval x)).toList = ps := by
  rw [Array.toList_map]
  have key : ∀ (ys : List (Nat × Operand)) (vs : List (Nat × Value)), ys.mapM (fun p => (evO l p.2).map fun v => (p.1, v)) = some vs → ys.map (fun (i, x) => (i, a.eval x)) = vs := by
    intro ys
    induction ys with
    | nil => intro vs hv; simpa using hv
    | cons y r ih =>
      obtain ⟨yi, yx⟩ := y
      intro vs hv
      rw [List.mapM_cons] at hv
      cases h1 : evO l yx with
      | none => rw [h1] at hv; cases hv
      | some v =>
        rw [h1] at hv
        cases h2 : r.mapM (fun p => (evO l p.2).map fun v => (p.1, v)) with
        | none => rw [h2] at hv; cases hv
        | some us =>
          rw [h2] at hv
          obtain rfl : (yi, v) :: us = vs := by simpa using hv
          rw [List.map_cons, ih us h2]
          show (yi, a.eval yx) :: us = _
          rw [hF.ev h1]
  exact key _ _ hp
def builtS? (P : Program) (t : TypeId) (len : Nat) (parts : List (Nat × Value)) : Option (TypeId × Nat × List Value) :=
  match P.underlying t with
  | some (.slice e) => match P.info? e with
    | some inf => match inf.zero with
      | some z => if 2 ^ 24 < len * inf.size then none else if len * inf.size = 0 then none else
        match Instr.fill (fun i => some (i * inf.size, inf.size)) ((Array.range (len * inf.size)).map (z.cells[· % z.cells.size]!)) parts with
        | some cells => some (e, inf.size, cells.toList)
        | none => none
      | none => none
    | none => none
  | _ => none
theorem wl_buildS (hg : o.guard = none) (hF : Fr N a l) {t : TypeId} {len : Nat} {ps0 : Array (Nat × Operand)} (ho : o.op = .buildSlice t len ps0) {d : Nat} (hd : o.dst = some d) (hN : Nat.blt d N = true) {ps : List (Nat × Value)} (hp : ps0.toList.mapM (fun p => (evO l p.2).map fun v => (p.1, v)) = some ps)
    {cells : List Value} (hb : builtS? P t len ps = some (e, size, cells)) (xs : List α) (hl : xs.length = len) (hx : xs.flatMap enc = cells) (hm : len ≤ maxLen) (hc : cells.length = len * size) (hS : St W s w)
    (h : ∀ b a' w', Fr N a' ((d, .slice (some ⟨b, 0, none⟩) len len) :: l) → St W (rowA enc size e (.slice (some ⟨b, 0, none⟩) len len) xs :: s) w' → wpList P ops Q rest a' w') : wpList P ops Q (o :: rest) a w := by
  have hps := parts_of hF hp
  unfold builtS? at hb
  split at hb
  · rename_i e' hu
    split at hb
    · rename_i inf hq
      split at hb
      · rename_i z hz
        split at hb
        · cases hb
        · rename_i hbig
          split at hb
          · cases hb
          · rename_i hnz
            split at hb
            · rename_i cs hf
              simp only [Option.some.injEq, Prod.mk.injEq] at hb
              obtain ⟨rfl, rfl, rfl⟩ := hb
              refine wpList_plain hg fun K hK => ?_
              have hr : (execOp a.eval o).run P w = .ok (.value (.slice (some ⟨w.heap.size, 0, none⟩) len len)) (w.alloc (.cells cs e')) := by
                unfold execOp
                simp only [ho, Instr.buildSlice, Sem.run_bind, run_underlying hu w, Result.andThen_ok, run_sizeOf hq w, hps]
                simp only [if_neg hbig, if_neg hnz, Sem.run_bind, Sem.run_pure, Result.andThen_ok, run_zero hq hz w, hf]
                simp [newRow, go_sem]
              unfold Oper.wp
              rw [hr]
              refine hK _ _ (hd ▸ h _ _ _ (hF.put (Nat.le_of_ble_eq_true hN) _) ?_)
              have hn := hS.rowNew (w' := w.alloc (.cells cs e')) (enc := enc) (size := inf.size) (ys := xs) (cap := len) ((Below.refl _ _).alloc (Nat.le_refl _) _) (blk_new w _ _ rfl) (Nat.le_refl _) (by simpa using hc) (by omega) hm (by rw [hx, hl, List.take_of_length_le (by omega)])
              rw [hl] at hn
              exact hn
            · cases hb
      · cases hb
    · cases hb
  · cases hb
theorem wo_buildS {i0 : Nat} {K : Act → World → Prop} (hi0 : ops[i0]? = some o) (hg : o.guard = none) (hF : Fr N a l) {t : TypeId} {len : Nat} {ps0 : Array (Nat × Operand)} (ho : o.op = .buildSlice t len ps0) {d : Nat} (hd : o.dst = some d) (hN : Nat.blt d N = true) {ps : List (Nat × Value)} (hp : ps0.toList.mapM (fun p => (evO l p.2).map fun v => (p.1, v)) = some ps)
    {cells : List Value} (hb : builtS? P t len ps = some (e, size, cells)) (xs : List α) (hl : xs.length = len) (hx : xs.flatMap enc = cells) (hm : len ≤ maxLen) (hc : cells.length = len * size) {s2 : List Asr} (hS2 : St W s2 w) (hS : St W s w)
    (h : ∀ b a' w', Fr N a' ((d, .slice (some ⟨b, 0, none⟩) len len) :: l) → St W (rowA enc size e (.slice (some ⟨b, 0, none⟩) len len) xs :: s2) w' → St W s w' → K a' w') : wpOp P ops Q i0 K a w := by
  have hps := parts_of hF hp
  unfold builtS? at hb
  split at hb
  · rename_i e' hu
    split at hb
    · rename_i inf hq
      split at hb
      · rename_i z hz
        split at hb
        · cases hb
        · rename_i hbig
          split at hb
          · cases hb
          · rename_i hnz
            split at hb
            · rename_i cs hf
              simp only [Option.some.injEq, Prod.mk.injEq] at hb
              obtain ⟨rfl, rfl, rfl⟩ := hb
              refine wo_of hi0 hg ?_
              have hr : (execOp a.eval o).run P w = .ok (.value (.slice (some ⟨w.heap.size, 0, none⟩) len len)) (w.alloc (.cells cs e')) := by
                unfold execOp
                simp only [ho, Instr.buildSlice, Sem.run_bind, run_underlying hu w, Result.andThen_ok, run_sizeOf hq w, hps]
                simp only [if_neg hbig, if_neg hnz, Sem.run_bind, Sem.run_pure, Result.andThen_ok, run_zero hq hz w, hf]
                simp [newRow, go_sem]
              unfold Oper.wp
              rw [hr]
              have hn := hS2.rowNew (w' := w.alloc (.cells cs e')) (enc := enc) (size := inf.size) (ys := xs) (cap := len) ((Below.refl _ _).alloc (Nat.le_refl _) _) (blk_new w _ _ rfl) (Nat.le_refl _) (by simpa using hc) (by omega) hm (by rw [hx, hl, List.take_of_length_le (by omega)])
              rw [hl] at hn
              exact (show K (a.put o.dst _) _ by rw [hd]; exact h _ _ _ (hF.put (Nat.le_of_ble_eq_true hN) _) hn (hS.later ((Below.refl _ _).alloc (Nat.le_refl _) _)))
            · cases hb
      · cases hb
    · cases hb
  · cases hb
end
open Go.RowKit
section
variable {P : Program} {ops : Array Oper} {Q : Exit → Act → World → Prop} {K : Act → World → Prop} {rest : List Oper} {o : Oper} {a : Act} {w : World} {N : Nat} {l : List (Nat × Value)}
theorem wp_sr {id : Nat} {l : List Oper} {y : Code} (h : wpList P l.toArray (Exit.then (y.wp P Q) Q) l a w) : (Code.seq (Code.region id l.toArray false) y).wp P Q a w := wp_seq (wp_region_lit h)
theorem wl_ne (h : K a w) : wpList P ops (Exit.then K Q) [] a w := wpList_nil (ex_then h)
theorem wl_mv (hF : Fr N a l) (hg : o.guard = none) {d : Nat} (hd : o.dst = some d) (hN : Nat.blt d N = true) {x : Operand} (ho : o.op = .move x) {v : Value} (hx : evO l x = some v) (h : ∀ a', Fr N a' ((d, v) :: l) → wpList P ops Q rest a' w) : wpList P ops Q (o :: rest) a w := wl_y hg hF hd hN (yl_move ho (hF.ev hx)) h
theorem wl_as (hF : Fr N a l) (hg : o.guard = none) {d : Nat} (hd : o.dst = some d) (hN : Nat.blt d N = true) {x : Operand} (ho : o.op = .assign x) {v : Value} (hx : evO l x = some v) (h : ∀ a', Fr N a' ((d, v) :: l) → wpList P ops Q rest a' w) : wpList P ops Q (o :: rest) a w := wl_y hg hF hd hN (yl_assign ho (hF.ev hx)) h
theorem zm (hF : Fr N a l) {d : Nat} {x : Operand} {v : Value} (h : ∀ a', Fr N a' ((d, v) :: l) → wpList P ops Q rest a' w) (hg : o.guard = none := by exact rfl) (hd : o.dst = some d := by exact rfl) (hN : Nat.blt d N = true := by exact rfl) (ho : o.op = .move x := by exact rfl) (hx : evO l x = some v := by exact rfl) : wpList P ops Q (o :: rest) a w := wl_mv hF hg hd hN ho hx h
theorem za (hF : Fr N a l) {d : Nat} {x : Operand} {v : Value} (h : ∀ a', Fr N a' ((d, v) :: l) → wpList P ops Q rest a' w) (hg : o.guard = none := by exact rfl) (hd : o.dst = some d := by exact rfl) (hN : Nat.blt d N = true := by exact rfl) (ho : o.op = .assign x := by exact rfl) (hx : evO l x = some v := by exact rfl) : wpList P ops Q (o :: rest) a w := wl_as hF hg hd hN ho hx h
theorem zy (hF : Fr N a l) {d : Nat} {v : Value} (hy : Yl P w o a v) (h : ∀ a', Fr N a' ((d, v) :: l) → wpList P ops Q rest a' w) (hg : o.guard = none := by exact rfl) (hd : o.dst = some d := by exact rfl) (hN : Nat.blt d N = true := by exact rfl) : wpList P ops Q (o :: rest) a w := wl_y hg hF hd hN hy h
theorem zg (hF : Fr N a l) {g dg d : Nat} {b : Bool} {v : Value} (hy : Yl P w o a v) (h : ∀ a', Fr N a' ((d, v) :: l) → wpList P ops Q rest a' w) (hgd : o.guard = some (g, b) := by exact rfl) (hgo : (ops[g]?).bind (·.dst) = some dg := by exact rfl) (hgv : lk l dg = some (.bool b) := by exact rfl) (hd : o.dst = some d := by exact rfl) (hN : Nat.blt d N = true := by exact rfl) : wpList P ops Q (o :: rest) a w := wl_yg hF hgd hgo hgv hd hN hy h
theorem zk (hF : Fr N a l) {g dg d : Nat} {b c : Bool} (h : ∀ a', Fr N a' ((d, undef) :: l) → wpList P ops Q rest a' w) (hgd : o.guard = some (g, b) := by exact rfl) (hgo : (ops[g]?).bind (·.dst) = some dg := by exact rfl) (hgv : lk l dg = some (.bool c) := by exact rfl) (hc : (c == b) = false := by exact rfl) (hd : o.dst = some d := by exact rfl) (hN : Nat.blt d N = true := by exact rfl) : wpList P ops Q (o :: rest) a w := wl_skip hF hgd hgo hgv hc hd hN h
section
variable {W : World} {s : List Asr} {Q : Act → Prop}
theorem zq (hF : Fr N a l) {d : Nat} {v : Value} (hy : ∀ w, St W s w → Yl P w o a v) (h : ∀ a', Fr N a' ((d, v) :: l) → wpQuiet P ops (St W s) Q rest a') (hg : o.guard = none := by exact rfl) (hd : o.dst = some d := by exact rfl) (hN : Nat.blt d N = true := by exact rfl) : wpQuiet P ops (St W s) Q (o :: rest) a := wq_y hg hF hd hN hy h
theorem zqg (hF : Fr N a l) {g dg d : Nat} {b : Bool} {v : Value} (hy : ∀ w, St W s w → Yl P w o a v) (h : ∀ a', Fr N a' ((d, v) :: l) → wpQuiet P ops (St W s) Q rest a') (hgd : o.guard = some (g, b) := by exact rfl) (hgo : (ops[g]?).bind (·.dst) = some dg := by exact rfl) (hgv : lk l dg = some (.bool b) := by exact rfl) (hd : o.dst = some d := by exact rfl) (hN : Nat.blt d N = true := by exact rfl) : wpQuiet P ops (St W s) Q (o :: rest) a := wq_yg hF hgd hgo hgv hd hN hy h
end
section
variable {W : World} {s : List Asr} {Q : Exit → Act → World → Prop} {fuel : Nat} {listed : Array Bool}
theorem zh {oi : Oper} (i : Nat) (hi : ops[i]? = some oi) {v : Value} {d : Nat} (hF : Fr N a l) (hy : ∀ w, St W s w → Yl P w oi a v) (hS : St W s w) (h : ∀ a', Fr N a' ((d, v) :: l) → wpAnyH P .any ops Q (St W s) fuel (listed.setIfInBounds i true) a' w) (hs : Region.noSelect ops = true := by kernel_rfl) (hf : Region.free .any ops listed i = true := by kernel_rfl) (hr : (Region.ready .any ops listed).contains i = true := by kernel_rfl) (hQ : ∀ c a w, Q (.panic c) (a.put oi.dst v) w → Q (.panic c) a w := by exact fun _ _ _ h => h)
    (hg : oi.guard = none := by exact rfl) (hd : oi.dst = some d := by exact rfl) (hN : Nat.blt d N = true := by exact rfl) : wpAnyH P .any ops Q (St W s) (fuel + 1) listed a w := wh_y i hi hs hf hr hQ hg hF hd hN hy hS h
end
end
section
variable {P : Program} {w : World} {o : Oper} {a : Act} {x y z : Operand} {t t' : TypeId}
theorem ylo (ho : o.op = .load t x) {p : Addr} (hx : a.eval x = .pointer (some p)) {v : Value} (hc : w.cell? p = some v) (hs : scalar? P t = true := by kernel_rfl) : Yl P w o a v := yl_load ho hx hc hs
theorem ylr (ho : o.op = .load t x) {b k : Nat} (hx : a.eval x = .pointer (some ⟨b, k, none⟩)) {cs : List Value} (hc : w.rangeAt b k cs) (hs : rowOf? P t cs.length = true := by kernel_rfl) : Yl P w o a (.agg cs.toArray) := yl_loadR ho hx hc hs
theorem yfa (j : Nat) {i : Nat} (ho : o.op = .fieldAddr t x i) {b k : Nat} (hx : a.eval x = .pointer (some ⟨b, k, none⟩)) (hj : fieldAt? P t i = some j := by kernel_rfl) : Yl P w o a (.pointer (some ⟨b, k + j, none⟩)) := yl_fieldAddr ho hx hj
end
def nthV : List Value → Nat → Option Value
  | [], _ => none
  | v :: _, 0 => some v
  | _ :: r, i + 1 => nthV r i
theorem nthV_eq : ∀ (xs : List Value) (i : Nat), nthV xs i = xs[i]?
  | [], _ => rfl
  | _ :: _, 0 => rfl
  | _ :: r, i + 1 => nthV_eq r i
def cmpV : BinOp → Int → Int → Option Value
  | .eql, m, n => some (.bool (m == n))
  | .neq, m, n => some (.bool (m != n))
  | .lss, m, n => some (.bool (decide (m < n)))
  | .leq, m, n => some (.bool (decide (m ≤ n)))
  | .gtr, m, n => some (.bool (decide (n < m)))
  | .geq, m, n => some (.bool (decide (n ≤ m)))
  | _, _, _ => none
def auV (l : List (Nat × Value)) : Op → Option Value
  | .move x => evO l x
  | .assign x => evO l x
  | .extract x i => match evO l x with
    | some (.tuple vs) => nthV vs.toList i
    | _ => none
  | .nilCheck x => match evO l x with
    | some (.pointer (some p)) => some (.pointer (some p))
    | _ => none
  | .unOp .not _ x => match evO l x with
    | some (.bool b) => some (.bool !b)
    | _ => none
  | .pick z x y => match evO l z with
    | some (.bool true) => evO l x
    | some (.bool false) => evO l y
    | _ => none
  | .binOp op _ x y _ => match evO l x with
    | some (.int k m) => match evO l y with
      | some (.int k' n) => match decide (k = k') with
        | true => cmpV op m n
        | false => none
      | _ => none
    | _ => none
  | _ => none
theorem auV_yl {P : Program} {w : World} {o : Oper} {a : Act} {N : Nat} {l : List (Nat × Value)} (hF : Fr N a l) {p : Op} (ho : o.op = p) {v : Value} (h : auV l p = some v) : Yl P w o a v := by
  unfold auV at h
  split at h
  · exact yl_move ho (hF.ev h)
  · exact yl_assign ho (hF.ev h)
  · split at h
    · rename_i hx
      exact yl_extract ho (hF.ev hx) (by rw [nthV_eq] at h; simpa using h)
    · cases h
  · split at h
    · rename_i hx
      obtain rfl := Option.some.inj h
      exact yl_nilCheck ho (hF.ev hx)
    · cases h
  · split at h
    · rename_i hx
      obtain rfl := Option.some.inj h
      exact yl_not ho (hF.ev hx)
    · cases h
  · split at h
    · rename_i hx
      exact yl_pick_t ho (hF.ev hx) (hF.ev h)
    · rename_i hx
      exact yl_pick_f ho (hF.ev hx) (hF.ev h)
    · cases h
  · split at h
    · rename_i hx
      split at h
      · rename_i hy
        split at h
        · rename_i hk
          obtain rfl := of_decide_eq_true hk
          unfold cmpV at h
          split at h
          · obtain rfl := Option.some.inj h; exact yl_eqlI ho (hF.ev hx) (hF.ev hy)
          · obtain rfl := Option.some.inj h; exact yl_neqI ho (hF.ev hx) (hF.ev hy)
          · obtain rfl := Option.some.inj h; exact yl_lssI ho (hF.ev hx) (hF.ev hy)
          · obtain rfl := Option.some.inj h; exact yl_leqI ho (hF.ev hx) (hF.ev hy)
          · obtain rfl := Option.some.inj h; exact yl_gtrI ho (hF.ev hx) (hF.ev hy)
          · obtain rfl := Option.some.inj h; exact yl_geqI ho (hF.ev hx) (hF.ev hy)
          · cases h
        · cases h
      · cases h
    · cases h
  · cases h
def auG (ops : Array Oper) (l : List (Nat × Value)) (o : Oper) : Option Bool := match o.guard with
  | none => some true
  | some (g, b) => match (ops[g]?).bind (·.dst) with
    | none => none
    | some dg => match lk l dg with
      | some (.bool c) => some (c == b)
      | some (.tuple vs) => match vs.toList with
        | [] => some false
        | _ => none
      | _ => none
def auS (N : Nat) (ops : Array Oper) (l : List (Nat × Value)) (o : Oper) : Option (Nat × Value) := match o.dst with
  | none => none
  | some d => match Nat.blt d N with
    | false => none
    | true => match auG ops l o with
      | none => none
      | some false => some (d, undef)
      | some true => match auV l o.op with
        | some v => some (d, v)
        | none => none
def auR (N : Nat) (ops : Array Oper) : Nat → List Oper → List (Nat × Value) → Option (List Oper × List (Nat × Value))
  | 0, r, l => some (r, l)
  | _ + 1, [], _ => none
  | n + 1, o :: r, l => match auS N ops l o with
    | some (d, v) => auR N ops n r ((d, v) :: l)
    | none => none
theorem auG_true {ops : Array Oper} {l : List (Nat × Value)} {o : Oper} {a : Act} {N : Nat} (hF : Fr N a l) {c : Bool} (h : auG ops l o = some c) : Region.wanted o (yielded ops a.tmps) = c := by
  unfold auG at h
  split at h
  · rename_i hg
    obtain rfl := Option.some.inj h
    exact wanted_none hg
  · rename_i g b hg
    split at h
    · cases h
    · rename_i dg hd
      split at h
      · rename_i c' hl
        obtain rfl := Option.some.inj h
        cases hc : (c' == b) with
        | true => obtain rfl : c' = b := by simpa using hc
                  exact hF.want hg hd hl
        | false => exact hF.skip hg hd hl hc
      · rename_i vs hl
        split at h
        · rename_i hv
          obtain rfl := Option.some.inj h
          have : vs = #[] := by simpa using hv
          subst this
          exact hF.skipU hg hd hl
        · cases h
      · cases h
theorem zr (n : Nat) {P : Program} {ops : Array Oper} {Q : Exit → Act → World → Prop} {rest r : List Oper} {a : Act} {w : World} {N : Nat} {l l' : List (Nat × Value)} (hF : Fr N a l) (hr : auR N ops n rest l = some (r, l')) (h : ∀ a', Fr N a' l' → wpList P ops Q r a' w) : wpList P ops Q rest a w := by
  induction n generalizing rest l a with
  | zero =>
    simp only [auR, Option.some.injEq, Prod.mk.injEq] at hr
    obtain ⟨rfl, rfl⟩ := hr
    exact h a hF
  | succ n ih =>
    cases rest with
    | nil => cases hr
    | cons o rest =>
      unfold auR at hr
      split at hr
      · rename_i d v hs
        unfold auS at hs
        split at hs
        · cases hs
        · rename_i d' hd
          split at hs
          · cases hs
          · rename_i hN
            split at hs
            · cases hs
            · rename_i hg
              simp only [Option.some.injEq, Prod.mk.injEq] at hs
              obtain ⟨rfl, rfl⟩ := hs
              refine wpList_step fun K hK => ?_
              rw [if_neg (by rw [auG_true hF hg]; simp)]
              exact hK _ _ (hd ▸ ih (hF.put (Nat.le_of_ble_eq_true hN) undef) hr)
            · rename_i hg
              split at hs
              · rename_i v' hv
                simp only [Option.some.injEq, Prod.mk.injEq] at hs
                obtain ⟨rfl, rfl⟩ := hs
                refine wpList_step fun K hK => ?_
                rw [if_pos (auG_true hF hg)]
                unfold Oper.wp
                rw [show (execOp a.eval o).run P w = _ from auV_yl hF rfl hv]
                exact hK _ _ (hd ▸ ih (hF.put (Nat.le_of_ble_eq_true hN) _) hr)
              · cases hs
      · cases hr
theorem zrq (n : Nat) {P : Program} {ops : Array Oper} {W : World} {s : List Asr} {Q : Act → Prop} {rest r : List Oper} {a : Act} {N : Nat} {l l' : List (Nat × Value)} (hF : Fr N a l) (hr : auR N ops n rest l = some (r, l')) (h : ∀ a', Fr N a' l' → wpQuiet P ops (St W s) Q r a') : wpQuiet P ops (St W s) Q rest a := by
  induction n generalizing rest l a with
  | zero =>
    simp only [auR, Option.some.injEq, Prod.mk.injEq] at hr
    obtain ⟨rfl, rfl⟩ := hr
    exact h a hF
  | succ n ih =>
    cases rest with
    | nil => cases hr
    | cons o rest =>
      unfold auR at hr
      split at hr
      · rename_i d v hs
        unfold auS at hs
        split at hs
        · cases hs
        · rename_i d' hd
          split at hs
          · cases hs
          · rename_i hN
            split at hs
            · cases hs
            · rename_i hg
              simp only [Option.some.injEq, Prod.mk.injEq] at hs
              obtain ⟨rfl, rfl⟩ := hs
              refine wpQuiet_step fun K hK => ?_
              rw [if_neg (by rw [auG_true hF hg]; simp)]
              exact hK _ (hd ▸ ih (hF.put (Nat.le_of_ble_eq_true hN) undef) hr)
            · rename_i hg
              split at hs
              · rename_i v' hv
                simp only [Option.some.injEq, Prod.mk.injEq] at hs
                obtain ⟨rfl, rfl⟩ := hs
                refine wpQuiet_step fun K hK => ?_
                rw [if_pos (auG_true hF hg)]
                refine ⟨_, fun w hw => ?_, hK _ (hd ▸ ih (hF.put (Nat.le_of_ble_eq_true hN) _) hr)⟩
                unfold Oper.quietAt
                rw [show (execOp a.eval o).run P w = _ from auV_yl hF rfl hv]
                exact ⟨rfl, rfl⟩
              · cases hs
      · cases hr
abbrev z5 : List Value := [.int .i64 0, .int .i64 0, .int .i64 0, .int .i64 0, .int .i64 0]
abbrev az5 : Value := .agg #[.int .i64 0, .int .i64 0, .int .i64 0, .int .i64 0, .int .i64 0]
abbrev z7 : List Value := [.int .i64 0, .int .i64 0, .int .i64 0, .int .i64 0, .int .i64 0, .int .i64 0, .int .i64 0]
abbrev az7 : Value := .agg #[.int .i64 0, .int .i64 0, .int .i64 0, .int .i64 0, .int .i64 0, .int .i64 0, .int .i64 0]
abbrev z10 : List Value := [.int .i64 0, .int .i64 0, .int .i64 0, .int .i64 0, .int .i64 0, .int .i64 0, .int .i64 0, .int .i64 0, .int .i64 0, .int .i64 0]
abbrev az10 : Value := .agg #[.int .i64 0, .int .i64 0, .int .i64 0, .int .i64 0, .int .i64 0, .int .i64 0, .int .i64 0, .int .i64 0, .int .i64 0, .int .i64 0]
section
variable {P : Program} {ops : Array Oper} {Q : Exit → Act → World → Prop} {rest r : List Oper} {o : Oper} {w W : World} {N : Nat} {l l' : List (Nat × Value)} {s : List Asr}
theorem xr (n : Nat) (hr : auR N ops n rest l = some (r, l')) (h : ∀ a, Fr N a l' → wpList P ops Q r a w) : ∀ a, Fr N a l → wpList P ops Q rest a w := fun _ hF => zr n hF hr h
theorem xqr (n : Nat) {Q : Act → Prop} (hr : auR N ops n rest l = some (r, l')) (h : ∀ a, Fr N a l' → wpQuiet P ops (St W s) Q r a) : ∀ a, Fr N a l → wpQuiet P ops (St W s) Q rest a := fun _ hF => zrq n hF hr h
def auD (N : Nat) (ops : Array Oper) (l : List (Nat × Value)) (o : Oper) : Option Nat := match o.dst with
  | none => none
  | some d => match Nat.blt d N with
    | false => none
    | true => match auG ops l o with
      | some true => some d
      | _ => none
theorem auD_is {a : Act} (hF : Fr N a l) {d : Nat} (h : auD N ops l o = some d) : o.dst = some d ∧ Nat.blt d N = true ∧ Region.wanted o (yielded ops a.tmps) = true := by
  unfold auD at h
  split at h
  · cases h
  · rename_i d' hd
    split at h
    · cases h
    · rename_i hN
      split at h
      · rename_i hg
        obtain rfl := Option.some.inj h
        exact ⟨hd, hN, auG_true hF hg⟩
      · cases h
theorem xy {d : Nat} {v : Value} (hd : auD N ops l o = some d) (hy : ∀ a, Fr N a l → Yl P w o a v) (h : ∀ a, Fr N a ((d, v) :: l) → wpList P ops Q rest a w) : ∀ a, Fr N a l → wpList P ops Q (o :: rest) a w := fun a hF => by
  obtain ⟨h1, h2, h3⟩ := auD_is hF hd
  refine wpList_step fun K hK => ?_
  rw [if_pos h3]
  unfold Oper.wp
  rw [show (execOp a.eval o).run P w = _ from hy a hF]
  exact hK _ _ (h1 ▸ h _ (hF.put (Nat.le_of_ble_eq_true h2) _))
theorem xq {Q : Act → Prop} {d : Nat} {v : Value} (hd : auD N ops l o = some d) (hy : ∀ {w}, St W s w → ∀ a, Fr N a l → Yl P w o a v) (h : ∀ a, Fr N a ((d, v) :: l) → wpQuiet P ops (St W s) Q rest a) : ∀ a, Fr N a l → wpQuiet P ops (St W s) Q (o :: rest) a := fun a hF => by
  obtain ⟨h1, h2, h3⟩ := auD_is hF hd
  refine wpQuiet_step fun K hK => ?_
  rw [if_pos h3]
  refine ⟨_, fun w hw => ?_, hK _ (h1 ▸ h _ (hF.put (Nat.le_of_ble_eq_true h2) _))⟩
  unfold Oper.quietAt
  rw [show (execOp a.eval o).run P w = _ from hy hw a hF]
  exact ⟨rfl, rfl⟩
theorem xct {k : Nat} {x y : Code} (hk : lk l k = some (.bool true)) (h : ∀ a, Fr N a l → x.wp P Q a w) : ∀ a, Fr N a l → (Code.cond (.tmp k) x y).wp P Q a w := fun a hF => wc_true hF hk (h a hF)
theorem xcf {k : Nat} {x y : Code} (hk : lk l k = some (.bool false)) (h : ∀ a, Fr N a l → y.wp P Q a w) : ∀ a, Fr N a l → (Code.cond (.tmp k) x y).wp P Q a w := fun a hF => wc_false hF hk (h a hF)
theorem xb1 {fn : Func} {R : Ending → World → Prop} {k : Nat} {v : Value} (hr : fn.results = #[.tmp k]) (hk : lk l k = some v) (h : R (.returned v) w) : ∀ a, Fr N a l → bodyPost P fn R .ret a w := fun _ hF => bp_ret1 hF hr (hF.res hk) h
theorem xb2 {fn : Func} {R : Ending → World → Prop} {k k' : Nat} {v v' : Value} (hr : fn.results = #[.tmp k, .tmp k']) (hk : lk l k = some v) (hk' : lk l k' = some v') (h : R (.returned (.tuple #[v, v'])) w) : ∀ a, Fr N a l → bodyPost P fn R .ret a w := fun _ hF => bp_ret2 hF hr (hF.res hk) (hF.res hk') h
theorem xne {K : Act → World → Prop} (h : ∀ a, Fr N a l → K a w) : ∀ a, Fr N a l → wpList P ops (Exit.then K Q) [] a w := fun a hF => wl_ne (h a hF)
theorem xni (h : ∀ a, Fr N a l → Q .normal a w) : ∀ a, Fr N a l → wpList P ops Q [] a w := fun a hF => wpList_nil (h a hF)
theorem xsr {id : Nat} {m : List Oper} {y : Code} (h : ∀ a, Fr N a l → wpList P m.toArray (Exit.then (y.wp P Q) Q) m a w) : ∀ a, Fr N a l → (Code.seq (Code.region id m.toArray false) y).wp P Q a w := fun a hF => wp_sr (h a hF)
theorem xrl {id : Nat} {m : List Oper} (h : ∀ a, Fr N a l → wpList P m.toArray Q m a w) : ∀ a, Fr N a l → (Code.region id m.toArray false).wp P Q a w := fun a hF => wp_region_lit (h a hF)
theorem xsq {x y : Code} (h : ∀ a, Fr N a l → x.wp P (Exit.then (y.wp P Q) Q) a w) : ∀ a, Fr N a l → (Code.seq x y).wp P Q a w := fun a hF => wp_seq (h a hF)
theorem xbl {id : Nat} {c : Code} (h : ∀ a, Fr N a l → c.wp P (Exit.inBlock id Q) a w) : ∀ a, Fr N a l → (Code.block id c).wp P Q a w := fun a hF => wp_block (h a hF)
theorem xsk (h : ∀ a, Fr N a l → Q .normal a w) : ∀ a, Fr N a l → Code.skip.wp P Q a w := fun a hF => wp_skip (h a hF)
theorem xre (h : ∀ a, Fr N a l → Q .ret a w) : ∀ a, Fr N a l → Code.ret.wp P Q a w := fun a hF => wp_ret (h a hF)
theorem xex {id : Nat} (h : ∀ a, Fr N a l → Q (.exit id) a w) : ∀ a, Fr N a l → (Code.exit id).wp P Q a w := fun a hF => wp_exit (h a hF)
theorem xet {K : Act → World → Prop} (h : ∀ a, Fr N a l → K a w) : ∀ a, Fr N a l → Exit.then K Q .normal a w := h
theorem xtx {K : Act → World → Prop} {i : Nat} (h : ∀ a, Fr N a l → Q (.exit i) a w) : ∀ a, Fr N a l → Exit.then K Q (.exit i) a w := h
theorem xtr {K : Act → World → Prop} (h : ∀ a, Fr N a l → Q .ret a w) : ∀ a, Fr N a l → Exit.then K Q .ret a w := h
theorem xeb {i : Nat} (h : ∀ a, Fr N a l → Q .normal a w) : ∀ a, Fr N a l → Exit.inBlock i Q .normal a w := h
theorem xbr {i : Nat} (h : ∀ a, Fr N a l → Q .ret a w) : ∀ a, Fr N a l → Exit.inBlock i Q .ret a w := h
theorem xbh {i : Nat} (h : ∀ a, Fr N a l → Q .normal a w) : ∀ a, Fr N a l → Exit.inBlock i Q (.exit i) a w := fun a hF => ex_block_hit (h a hF)
theorem xcs {G : Act → Prop} (k : Nat) {t : Bool} (hk : lk l k = some (.bool t)) (h1 : t = true → ∀ a, Fr N a ((k, .bool true) :: l) → G a) (h2 : t = false → ∀ a, Fr N a ((k, .bool false) :: l) → G a) : ∀ a, Fr N a l → G a := fun a hF => hF.cases k hk (fun c hF => h1 c a hF) (fun c hF => h2 c a hF)
theorem xhy {fuel : Nat} {listed : Array Bool} (i : Nat) {oi : Oper} {d : Nat} {v : Value} (hS : St W s w) (hi : ops[i]? = some oi) (hd : auD N ops l oi = some d) (hy : ∀ {w}, St W s w → ∀ a, Fr N a l → Yl P w oi a v) (h : ∀ a, Fr N a ((d, v) :: l) → wpAnyH P .any ops Q (St W s) fuel (listed.setIfInBounds i true) a w) (hs : Region.noSelect ops = true := by kernel_rfl) (hf : Region.free .any ops listed i = true := by kernel_rfl) (hr : (Region.ready .any ops listed).contains i = true := by kernel_rfl) (hQ : ∀ c a w, Q (.panic c) (a.put oi.dst v) w → Q (.panic c) a w := by exact fun _ _ _ h => h) : ∀ a, Fr N a l → wpAnyH P .any ops Q (St W s) (fuel + 1) listed a w := fun a hF => by
  obtain ⟨h1, h2, h3⟩ := auD_is hF hd
  exact wpAnyH_take hi hs hf hr hQ (.inl ⟨h3, fun _ hw => hy hw a hF⟩) hS (h1 ▸ h _ (hF.put (Nat.le_of_ble_eq_true h2) v))
theorem xh {fuel : Nat} {listed : Array Bool} (i : Nat) {oi : Oper} {d : Nat} {v : Value} (hS : St W s w) (hi : ops[i]? = some oi) (hd : auD N ops l oi = some d) (hv : auV l oi.op = some v) (h : ∀ a, Fr N a ((d, v) :: l) → wpAnyH P .any ops Q (St W s) fuel (listed.setIfInBounds i true) a w) (hs : Region.noSelect ops = true := by kernel_rfl) (hf : Region.free .any ops listed i = true := by kernel_rfl) (hr : (Region.ready .any ops listed).contains i = true := by kernel_rfl) (hQ : ∀ c a w, Q (.panic c) (a.put oi.dst v) w → Q (.panic c) a w := by exact fun _ _ _ h => h) : ∀ a, Fr N a l → wpAnyH P .any ops Q (St W s) (fuel + 1) listed a w := xhy i hS hi hd (fun _ _ hF => auV_yl hF rfl hv) h hs hf hr hQ
def dropV : Nat → List Value → List Value
  | 0, l => l
  | _ + 1, [] => []
  | k + 1, _ :: l => dropV k l
def takeO : Nat → List Value → Option (List Value)
  | 0, _ => some []
  | _ + 1, [] => none
  | n + 1, x :: l => match takeO n l with
    | some r => some (x :: r)
    | none => none
theorem dropV_eq : ∀ (k : Nat) (l : List Value), dropV k l = l.drop k
  | 0, _ => rfl
  | _ + 1, [] => rfl
  | k + 1, _ :: l => dropV_eq k l
theorem takeO_eq : ∀ {n : Nat} {l cs : List Value}, takeO n l = some cs → l.take n = cs ∧ cs.length = n
  | 0, _, _, h => by obtain rfl := Option.some.inj h; exact ⟨rfl, rfl⟩
  | _ + 1, [], _, h => by cases h
  | n + 1, x :: l, cs, h => by
    have h : (match takeO n l with | some r => some (x :: r) | none => none) = some cs := h
    cases hq : takeO n l with
    | none => rw [hq] at h; cases h
    | some q =>
      rw [hq] at h
      obtain rfl := Option.some.inj h
      obtain ⟨h1, h2⟩ := takeO_eq hq
      exact ⟨by rw [List.take_succ_cons, h1], by rw [List.length_cons, h2]⟩
def pevO (l : List (Nat × Value)) (x : Operand) : Option (Nat × Nat) := match evO l x with
  | some (.pointer (some ⟨b, k, none⟩)) => some (b, k)
  | _ => none
theorem pevO_ev {a : Act} (hF : Fr N a l) {x : Operand} {b k : Nat} (h : pevO l x = some (b, k)) : a.eval x = .pointer (some ⟨b, k, none⟩) := by
  unfold pevO at h
  split at h
  · rename_i hx
    obtain ⟨rfl, rfl⟩ := Prod.mk.inj (Option.some.inj h)
    exact hF.ev hx
  · cases h
def ldA (n : Nat) (A : Array Value) (l : List (Nat × Value)) : Op → Option (TypeId × Nat × List Value)
  | .load t x => match pevO l x with
    | some (b, k) => match takeO n (dropV k A.toList) with
      | some cs => some (t, b, cs)
      | none => none
    | none => none
  | _ => none
def ldS (A : Array Value) (l : List (Nat × Value)) : Op → Option (TypeId × Nat × Value)
  | .load t x => match pevO l x with
    | some (b, k) => match nthV A.toList k with
      | some v => some (t, b, v)
      | none => none
    | none => none
  | _ => none
theorem vw (hS : St W s w) (i n : Nat) {t : TypeId} {b m : Nat} {T : TypeId} {A : Array Value} {cs : List Value} (hi : s[i]? = some (boxA b m T (.agg A))) (hc : ldA n A l o.op = some (t, b, cs)) (hs : rowOf? P t n = true := by kernel_rfl) : ∀ a, Fr N a l → Yl P w o a (.agg cs.toArray) := fun a hF => by
  generalize ho : o.op = p at hc
  unfold ldA at hc
  split at hc
  · split at hc
    · rename_i hp
      split at hc
      · rename_i ht
        simp only [Option.some.injEq, Prod.mk.injEq] at hc
        obtain ⟨rfl, rfl, rfl⟩ := hc
        obtain ⟨h1, h2⟩ := takeO_eq ht
        rw [dropV_eq] at h1
        exact yl_loadR ho (pevO_ev hF hp) (h1 ▸ (hS.box i hi).sub _ n) (by rw [h2]; exact hs)
      · cases hc
    · cases hc
  · cases hc
theorem vc (hS : St W s w) (i : Nat) {t : TypeId} {b m : Nat} {T : TypeId} {A : Array Value} {v : Value} (hi : s[i]? = some (boxA b m T (.agg A))) (hc : ldS A l o.op = some (t, b, v)) (hs : scalar? P t = true := by kernel_rfl) : ∀ a, Fr N a l → Yl P w o a v := fun a hF => by
  generalize ho : o.op = p at hc
  unfold ldS at hc
  split at hc
  · split at hc
    · rename_i hp
      split at hc
      · rename_i ht
        simp only [Option.some.injEq, Prod.mk.injEq] at hc
        obtain ⟨rfl, rfl, rfl⟩ := hc
        rw [nthV_eq] at ht
        exact yl_load ho (pevO_ev hF hp) (((hS.box i hi).cell _).trans (by simpa using ht)) hs
      · cases hc
    · cases hc
  · cases hc
def faO (l : List (Nat × Value)) : Op → Option (TypeId × Nat × Nat × Nat)
  | .fieldAddr t x i => match pevO l x with
    | some (b, k) => some (t, i, b, k)
    | none => none
  | _ => none
theorem vf (j : Nat) {t : TypeId} {i b k : Nat} (hc : faO l o.op = some (t, i, b, k)) (hj : fieldAt? P t i = some j := by kernel_rfl) : ∀ a, Fr N a l → Yl P w o a (.pointer (some ⟨b, k + j, none⟩)) := fun a hF => by
  generalize ho : o.op = p at hc
  unfold faO at hc
  split at hc
  · split at hc
    · rename_i hp
      simp only [Option.some.injEq, Prod.mk.injEq] at hc
      obtain ⟨rfl, rfl, rfl, rfl⟩ := hc
      exact yl_fieldAddr ho (pevO_ev hF hp) hj
    · cases hc
  · cases hc
def ixO (l : List (Nat × Value)) : Op → Option (TypeId × Option Addr × Nat × Int)
  | .indexAddr t x y => match evO l x with
    | some (.slice ao len _) => match evO l y with
      | some (.int _ m) => some (t, ao, len, m)
      | _ => none
    | _ => none
  | _ => none
theorem vx (e i size : Nat) {t : TypeId} {g off len : Nat} {m : Int} (hc : ixO l o.op = some (t, some ⟨g, off, none⟩, len, m)) (hu : elemOf? P t = some (e, size) := by kernel_rfl) (hm : m = (i : Int) := by exact rfl) (hi : i < len := by omega) : ∀ a, Fr N a l → Yl P w o a (.pointer (some ⟨g, off + i * size, none⟩)) := fun a hF => by
  generalize ho : o.op = p at hc
  unfold ixO at hc
  split at hc
  · split at hc
    · rename_i hx
      split at hc
      · rename_i hy
        simp only [Option.some.injEq, Prod.mk.injEq] at hc
        obtain ⟨rfl, rfl, rfl, rfl⟩ := hc
        exact yl_indexAddr ho (hF.ev hx) (hF.ev hy) hu hm hi
      · cases hc
    · cases hc
  · cases hc
theorem vxr (e i size : Nat) {t : TypeId} {ao : Option Addr} {g off len : Nat} {m : Int} (hc : ixO l o.op = some (t, ao, len, m)) (hao : ao = some ⟨g, off, none⟩) (hu : elemOf? P t = some (e, size) := by kernel_rfl) (hm : m = (i : Int) := by exact rfl) (hi : i < len := by omega) : ∀ a, Fr N a l → Yl P w o a (.pointer (some ⟨g, off + i * size, none⟩)) := by
  subst hao
  exact vx e i size hc hu hm hi
def lenO (l : List (Nat × Value)) : Op → Option (TypeId × Nat)
  | .call c => match c.callee with
    | .builtin .len => match c.args.toList with
      | [x] => match c.argTypes.toList with
        | [t] => match evO l x with
          | some (.slice _ n _) => some (t, n)
          | _ => none
        | _ => none
      | _ => none
    | _ => none
  | _ => none
theorem vn (e size : Nat) {t : TypeId} {n : Nat} (hc : lenO l o.op = some (t, n)) (hu : elemOf? P t = some (e, size) := by kernel_rfl) : ∀ a, Fr N a l → Yl P w o a (.int .i64 n) := fun a hF => by
  generalize ho : o.op = p at hc
  unfold lenO at hc
  split at hc
  · rename_i c
    obtain ⟨f, ⟨xs⟩, ⟨ts⟩⟩ := c
    dsimp only at hc
    split at hc
    · split at hc
      · split at hc
        · split at hc
          · rename_i h1 _ h2 _ hx
            simp only [Option.some.injEq, Prod.mk.injEq] at hc
            obtain ⟨rfl, rfl⟩ := hc
            exact yl_lenL ho (hF.ev hx) hu
          · cases hc
        · cases hc
      · cases hc
    · cases hc
  · cases hc
def addO (l : List (Nat × Value)) : Op → Option (Int × Int)
  | .binOp .add _ x y _ => match evO l x with
    | some (.int .i64 m) => match evO l y with
      | some (.int .i64 n) => some (m, n)
      | _ => none
    | _ => none
  | _ => none
theorem vad {m n : Int} (hc : addO l o.op = some (m, n)) (hr : -9223372036854775808 ≤ m + n ∧ m + n ≤ 9223372036854775807 := by omega) : ∀ a, Fr N a l → Yl P w o a (.int .i64 (m + n)) := fun a hF => by
  generalize ho : o.op = p at hc
  unfold addO at hc
  split at hc
  · split at hc
    · rename_i hx
      split at hc
      · rename_i hy
        simp only [Option.some.injEq, Prod.mk.injEq] at hc
        obtain ⟨rfl, rfl⟩ := hc
        exact yl_addI ho (hF.ev hx) (hF.ev hy) (i64w hr)
      · cases hc
    · cases hc
  · cases hc
def bldO (l : List (Nat × Value)) : Op → Option (TypeId × List (Nat × Value))
  | .build t ps0 => match ps0.toList.mapM (fun p => (evO l p.2).map fun v => (p.1, v)) with
    | some ps => some (t, ps)
    | none => none
  | _ => none
theorem vb (cs : List Value) {t : TypeId} {ps : List (Nat × Value)} (hc : bldO l o.op = some (t, ps)) (hb : built? P t ps = some cs.toArray := by kernel_rfl) : ∀ a, Fr N a l → Yl P w o a (.agg cs.toArray) := fun a hF => by
  generalize ho : o.op = p at hc
  unfold bldO at hc
  split at hc
  · split at hc
    · rename_i hp
      simp only [Option.some.injEq, Prod.mk.injEq] at hc
      obtain ⟨rfl, rfl⟩ := hc
      exact yl_build hF ho hp hb
    · cases hc
  · cases hc
def ldP (l : List (Nat × Value)) : Op → Option (TypeId × Nat × Nat)
  | .load t x => match pevO l x with
    | some (b, k) => some (t, b, k)
    | none => none
  | _ => none
theorem ve {α : Type} {enc : α → List Value} (he : ∀ x, (enc x).length = 1) (hS : St W s w) (i : Nat) (j : Nat) {t : TypeId} {e : TypeId} {g off n cap : Nat} {xs : List α} {x : α} {v : Value} (hi : s[i]? = some (rowA enc 1 e (.slice (some ⟨g, off, none⟩) n cap) xs)) (hx : xs[j]? = some x) (hv : enc x = [v]) (hc : ldP l o.op = some (t, g, off + j * 1)) (hs : scalar? P t = true := by kernel_rfl) : ∀ a, Fr N a l → Yl P w o a v := fun a hF => by
  generalize ho : o.op = p at hc
  unfold ldP at hc
  split at hc
  · split at hc
    · rename_i hp
      simp only [Option.some.injEq, Prod.mk.injEq] at hc
      obtain ⟨rfl, rfl, rfl⟩ := hc
      exact yl_load ho (pevO_ev hF hp) (hS.elem1 he i hi hx hv) hs
    · cases hc
  · cases hc
end
section
variable {P : Program} {ops : Array Oper} {Q : Exit → Act → World → Prop} {rest : List Oper} {o : Oper} {a : Act} {w W : World} {N : Nat} {l : List (Nat × Value)} {s s' : List Asr} {d : Nat} {t : TypeId}
theorem yal (Z : List Value) (hF : Fr N a l) (hS : Bx (St W s w)) (h : ∀ a' w' b, Fr N a' ((d, .pointer (some ⟨b, 0, none⟩)) :: l) → Bx (St W (boxA b Z.length t (.agg Z.toArray) :: s) w') → wpList P ops Q rest a' w')
    (hg : o.guard = none := by exact rfl) (ho : o.op = .alloc t := by exact rfl) (hd : o.dst = some d := by exact rfl) (hN : Nat.blt d N = true := by exact rfl) (hZ : zero? P t = some Z := by kernel_rfl) (h1 : (Z.all fun u => u.oneCell') = true := by exact rfl) : wpList P ops Q (o :: rest) a w :=
  wl_alloc hg hF ho hd hN hZ h1 hS.out fun a' w' b h1 h2 => h a' w' b h1 ⟨h2⟩
theorem ybx (hF : Fr N a l) (hS : Bx (St W s w)) {x : Operand} {A : Array Value} (h : ∀ a' w' b, Fr N a' ((d, .pointer (some ⟨b, 0, none⟩)) :: l) → Bx (St W (boxA b A.toList.length t (.agg A) :: s) w') → wpList P ops Q rest a' w')
    (hg : o.guard = none := by exact rfl) (ho : o.op = .box t x := by exact rfl) (hx : evO l x = some (.agg A) := by exact rfl) (hd : o.dst = some d := by exact rfl) (hN : Nat.blt d N = true := by exact rfl) (h1 : (A.toList.all fun u => u.oneCell') = true := by exact rfl) : wpList P ops Q (o :: rest) a w := by
  obtain ⟨Z⟩ := A
  exact wl_box hg hF ho (hF.ev hx) (Z := Z) rfl hd hN h1 hS.out fun a' w' b h1 h2 => h a' w' b h1 ⟨h2⟩
theorem ybv (hF : Fr N a l) (hS : Bx (St W s w)) {x : Operand} {v : Value} (h : ∀ a' w' b, Fr N a' ((d, .pointer (some ⟨b, 0, none⟩)) :: l) → Bx (St W (boxA b 1 t (.agg #[v]) :: s) w') → wpList P ops Q rest a' w')
    (hg : o.guard = none := by exact rfl) (ho : o.op = .box t x := by exact rfl) (hx : evO l x = some v := by exact rfl) (hv : v.cells = [v].toArray := by exact rfl) (hd : o.dst = some d := by exact rfl) (hN : Nat.blt d N = true := by exact rfl) (h1 : ([v].all fun u => u.oneCell') = true := by exact rfl) : wpList P ops Q (o :: rest) a w :=
  wl_box hg hF ho (hF.ev hx) (Z := [v]) hv hd hN h1 hS.out fun a' w' b h1 h2 => h a' w' b h1 ⟨h2⟩
def setO : List Asr → Nat → Asr → Option (List Asr)
  | [], _, _ => none
  | _ :: r, 0, x => some (x :: r)
  | y :: r, i + 1, x => match setO r i x with
    | some r' => some (y :: r')
    | none => none
theorem setO_eq : ∀ {s : List Asr} {i : Nat} {x : Asr} {s' : List Asr}, setO s i x = some s' → s.set i x = s'
  | [], _, _, _, h => by cases h
  | _ :: r, 0, x, s', h => Option.some.inj h
  | y :: r, i + 1, x, s', h => by
    have h : (match setO r i x with | some r' => some (y :: r') | none => none) = some s' := h
    cases hq : setO r i x with
    | none => rw [hq] at h; cases h
    | some q => rw [hq] at h; obtain rfl := Option.some.inj h; rw [List.set_cons_succ, setO_eq hq]
theorem yst (hF : Fr N a l) (hS : Bx (St W s w)) (i : Nat) {x y : Operand} {b n : Nat} {T : TypeId} {u : Value} {A : Array Value} (h : ∀ w', Bx (St W (s.set i (boxA b n T (.agg A))) w') → wpList P ops Q rest a w')
    (hg : o.guard = none := by exact rfl) (ho : o.op = .store t x y := by exact rfl) (hd : o.dst = none := by exact rfl) (hx : evO l x = some (.pointer (some ⟨b, 0, none⟩)) := by exact rfl) (hy : evO l y = some (.agg A) := by exact rfl) (hi : s[i]? = some (boxA b n T u) := by exact rfl) (h1 : (A.toList.all fun u => u.oneCell') = true := by exact rfl) (hl : A.toList.length = n := by exact rfl) (hn : rowOf? P t n = true := by kernel_rfl) : wpList P ops Q (o :: rest) a w := by
  obtain ⟨Z⟩ := A
  exact wl_storeBox hg hF ho hd (hF.ev hx) (hF.ev hy) hS.out i hi (cells_lit Z h1 hl) hn fun w' h2 => h w' ⟨h2⟩
theorem yem (e size : Nat) (hF : Fr N a l) (hS : Bx (St W s w)) (h : ∀ a' w' b, Fr N a' ((d, .slice (some ⟨b, 0, none⟩) 0 0) :: l) → Bx (St W s w') → wpList P ops Q rest a' w')
    (hg : o.guard = none := by exact rfl) (ho : o.op = .buildSlice t 0 #[] := by exact rfl) (hd : o.dst = some d := by exact rfl) (hN : Nat.blt d N = true := by exact rfl) (hu : elemOf? P t = some (e, size) := by kernel_rfl) : wpList P ops Q (o :: rest) a w :=
  wl_empty hg hF ho hd hN hu hS.out fun a' w' b h1 h2 => h a' w' b h1 ⟨h2⟩
theorem ybs {α : Type} (enc : α → List Value) (e size : Nat) (xs : List α) (hF : Fr N a l) (hS : Bx (St W s w)) {len : Nat} {ps0 : Array (Nat × Operand)} {ps : List (Nat × Value)} (h : ∀ b a' w', Fr N a' ((d, .slice (some ⟨b, 0, none⟩) len len) :: l) → Bx (St W (rowA enc size e (.slice (some ⟨b, 0, none⟩) len len) xs :: s) w') → wpList P ops Q rest a' w')
    (hg : o.guard = none := by exact rfl) (ho : o.op = .buildSlice t len ps0 := by exact rfl) (hd : o.dst = some d := by exact rfl) (hN : Nat.blt d N = true := by exact rfl) (hp : ps0.toList.mapM (fun p => (evO l p.2).map fun v => (p.1, v)) = some ps := by exact rfl) (hb : builtS? P t len ps = some (e, size, xs.flatMap enc) := by kernel_rfl) (hl : xs.length = len := by exact rfl) (hm : len ≤ maxLen := by unfold maxLen; omega) (hc : (xs.flatMap enc).length = len * size := by exact rfl) : wpList P ops Q (o :: rest) a w :=
  wl_buildS hg hF ho hd hN hp hb xs hl rfl hm hc hS.out fun b a' w' h1 h2 => h b a' w' h1 ⟨h2⟩
section
variable {f : FuncId} {args : Array Value} {fn : Func} {c : Code} {xs : Array Operand} {ts : Array TypeId}
theorem yc {R : Ending → World → Prop} (hR : Calls P f args w R) (hF : Fr N a l) (hf : P.funcs[f]? = some fn) (h : ∀ e w', R e w' → ∃ v, e = .returned v ∧ ∀ a', Fr N a' ((d, v) :: l) → wpList P ops Q rest a' w')
    (hg : o.guard = none := by exact rfl) (ho : o.op = .call { callee := .value (.func f), args := xs, argTypes := ts } := by exact rfl) (hx : xs.toList.mapM (evO l) = some args.toList := by exact rfl) (hd : o.dst = some d := by exact rfl) (hN : Nat.blt d N = true := by exact rfl) (hn : (fn.name == "runtime.NumGoroutine") = false := by kernel_rfl) (hb : fn.body = some c := by exact rfl) : wpList P ops Q (o :: rest) a w :=
  wl_call hg hF ho (enter_of hf hn hb) hx hR hd hN h
theorem ycB {v : Value} (hR : Calls P f args w fun e w' => e = .returned v ∧ Below w.heap.size w w') (hF : Fr N a l) (hf : P.funcs[f]? = some fn) (hS : Bx (St W s w)) (h : ∀ w' a', Bx (St W s w') → Fr N a' ((d, v) :: l) → wpList P ops Q rest a' w')
    (hg : o.guard = none := by exact rfl) (ho : o.op = .call { callee := .value (.func f), args := xs, argTypes := ts } := by exact rfl) (hx : xs.toList.mapM (evO l) = some args.toList := by exact rfl) (hd : o.dst = some d := by exact rfl) (hN : Nat.blt d N = true := by exact rfl) (hn : (fn.name == "runtime.NumGoroutine") = false := by kernel_rfl) (hb : fn.body = some c := by exact rfl) : wpList P ops Q (o :: rest) a w :=
  wl_callB hg hF ho (enter_of hf hn hb) hx hR hd hN hS.out fun w' a' h1 h2 => h w' a' ⟨h1⟩ h2
theorem ycBg {g dg : Nat} {b : Bool} {v : Value} (hR : Calls P f args w fun e w' => e = .returned v ∧ Below w.heap.size w w') (hF : Fr N a l) (hf : P.funcs[f]? = some fn) (hS : Bx (St W s w)) (h : ∀ w' a', Bx (St W s w') → Fr N a' ((d, v) :: l) → wpList P ops Q rest a' w')
    (hgd : o.guard = some (g, b) := by exact rfl) (hgo : (ops[g]?).bind (·.dst) = some dg := by exact rfl) (hgv : lk l dg = some (.bool b) := by exact rfl) (ho : o.op = .call { callee := .value (.func f), args := xs, argTypes := ts } := by exact rfl) (hx : xs.toList.mapM (evO l) = some args.toList := by exact rfl) (hd : o.dst = some d := by exact rfl) (hN : Nat.blt d N = true := by exact rfl) (hn : (fn.name == "runtime.NumGoroutine") = false := by kernel_rfl) (hb : fn.body = some c := by exact rfl) : wpList P ops Q (o :: rest) a w :=
  wl_callBg hF hgd hgo hgv ho (enter_of hf hn hb) hx hR hd hN hS.out fun w' a' h1 h2 => h w' a' ⟨h1⟩ h2
theorem yq {Q : Act → Prop} {v : Value} (hR : ∀ w, St W s w → Calls P f args w fun e w' => e = .returned v ∧ Below w.heap.size w w') (hF : Fr N a l) (hf : P.funcs[f]? = some fn) (h : ∀ a', Fr N a' ((d, v) :: l) → wpQuiet P ops (St W s) Q rest a')
    (hg : o.guard = none := by exact rfl) (ho : o.op = .call { callee := .value (.func f), args := xs, argTypes := ts } := by exact rfl) (hx : xs.toList.mapM (evO l) = some args.toList := by exact rfl) (hd : o.dst = some d := by exact rfl) (hN : Nat.blt d N = true := by exact rfl) (hn : (fn.name == "runtime.NumGoroutine") = false := by kernel_rfl) (hb : fn.body = some c := by exact rfl) : wpQuiet P ops (St W s) Q (o :: rest) a :=
  wq_call hg hF ho (enter_of hf hn hb) hx hR hd hN h
theorem yqg {Q : Act → Prop} {g dg : Nat} {b : Bool} {v : Value} (hR : ∀ w, St W s w → Calls P f args w fun e w' => e = .returned v ∧ Below w.heap.size w w') (hF : Fr N a l) (hf : P.funcs[f]? = some fn) (h : ∀ a', Fr N a' ((d, v) :: l) → wpQuiet P ops (St W s) Q rest a')
    (hgd : o.guard = some (g, b) := by exact rfl) (hgo : (ops[g]?).bind (·.dst) = some dg := by exact rfl) (hgv : lk l dg = some (.bool b) := by exact rfl) (ho : o.op = .call { callee := .value (.func f), args := xs, argTypes := ts } := by exact rfl) (hx : xs.toList.mapM (evO l) = some args.toList := by exact rfl) (hd : o.dst = some d := by exact rfl) (hN : Nat.blt d N = true := by exact rfl) (hn : (fn.name == "runtime.NumGoroutine") = false := by kernel_rfl) (hb : fn.body = some c := by exact rfl) : wpQuiet P ops (St W s) Q (o :: rest) a :=
  wq_callg hF hgd hgo hgv ho (enter_of hf hn hb) hx hR hd hN h
theorem yo {i : Nat} {K : Act → World → Prop} {R : Ending → World → Prop} (hR : Calls P f args w R) (hF : Fr N a l) (hf : P.funcs[f]? = some fn) (h : ∀ e w', R e w' → ∃ v, e = .returned v ∧ ∀ a', Fr N a' ((d, v) :: l) → K a' w')
    (hi : ops[i]? = some o := by exact rfl) (hg : o.guard = none := by exact rfl) (ho : o.op = .call { callee := .value (.func f), args := xs, argTypes := ts } := by exact rfl) (hx : xs.toList.mapM (evO l) = some args.toList := by exact rfl) (hd : o.dst = some d := by exact rfl) (hN : Nat.blt d N = true := by exact rfl) (hn : (fn.name == "runtime.NumGoroutine") = false := by kernel_rfl) (hb : fn.body = some c := by exact rfl) : wpOp P ops Q i K a w :=
  wo_call hi hg hF ho (enter_of hf hn hb) hx hR hd hN h
theorem yoB {i : Nat} {K : Act → World → Prop} {v : Value} (hR : Calls P f args w fun e w' => e = .returned v ∧ Below w.heap.size w w') (hF : Fr N a l) (hf : P.funcs[f]? = some fn) (h : ∀ w', Below w.heap.size w w' → ∀ a', Fr N a' ((d, v) :: l) → K a' w')
    (hi : ops[i]? = some o := by exact rfl) (hg : o.guard = none := by exact rfl) (ho : o.op = .call { callee := .value (.func f), args := xs, argTypes := ts } := by exact rfl) (hx : xs.toList.mapM (evO l) = some args.toList := by exact rfl) (hd : o.dst = some d := by exact rfl) (hN : Nat.blt d N = true := by exact rfl) (hn : (fn.name == "runtime.NumGoroutine") = false := by kernel_rfl) (hb : fn.body = some c := by exact rfl) : wpOp P ops Q i K a w :=
  wo_callB hi hg hF ho (enter_of hf hn hb) hx hR hd hN h
end
section
variable {α : Type} {enc : α → List Value} {size e : Nat} {v : Value} {ao2 : Option Addr} {n c2 bytes : Nat} {t2 : TypeId} {x y : Operand} {xs ys : List α}
theorem yap (hT : ElemT P t e size bytes) (he : ∀ x, (enc x).length = size) (hS : Bx (St W s w)) (i : Nat) (hF : Fr N a l) (hr : Rd enc size w ao2 n ys) (h1 : ∀ u ∈ ys.flatMap enc, u.oneCell' = true)
    (h : ∀ ao cap w' a', Fr N a' ((d, .slice ao (xs.length + ys.length) cap) :: l) → Bx (St W (s.set i (rowA enc size e (.slice ao (xs.length + ys.length) cap) (xs ++ ys))) w') → wpList P ops Q rest a' w')
    (hg : o.guard = none := by exact rfl) (ho : o.op = .call { callee := .builtin .append, args := #[x, y], argTypes := #[t, t] } := by exact rfl) (hd : o.dst = some d := by exact rfl) (hN : Nat.blt d N = true := by exact rfl) (hx : evO l x = some v := by exact rfl) (hy : evO l y = some (.slice ao2 n c2) := by exact rfl) (hi : s[i]? = some (rowA enc size e v xs) := by exact rfl)
    (h63 : xs.length + ys.length ≤ maxLen := by unfold maxLen; (try simp only [List.length_append, List.length_cons, List.length_nil, List.nil_append, List.length_map]); omega) (hbytes : (xs.length + ys.length) * bytes ≤ 140737488355328 := by (try simp only [List.length_append, List.length_cons, List.length_nil, List.nil_append, List.length_map]); omega) : wpList P ops Q (o :: rest) a w :=
  wl_appL hg hF ho hd hN (hF.ev hx) (hF.ev hy) hT he hS.out i hi hr h1 h63 hbytes fun ao cap w' a' h1 h2 => h ao cap w' a' h1 ⟨h2⟩
end
end
end Go.Proofs.YtdlmlagcniifjaaGreatDoor
