/- A part of the proof in YthnbgnjpbmnelaaGreatDoorTuZ31. -/
import Derived.Deep.AppendLies
import Derived.Test.YthnbgnjpbmnelaaGreatDoorTuZ6
/- Rows: opened, cut, appended to, made new. No program in sight. -/
namespace Go.Proofs.YthnbgnjpbmnelaaGreatDoor
set_option linter.unusedVariables false
set_option linter.unusedSimpArgs false
set_option maxHeartbeats 1000000
set_option maxRecDepth 100000
open Go.RowKit

section
variable {W w w' : World} {s : List Asr} {α : Type} {enc : α → List Value} {size : Nat} {e : TypeId}
/-- A row with room, down to its block. -/
theorem St.rowBlk (hS : St W s w) (i : Nat) {ao : Option Addr} {n cap : Nat} {xs : List α} (hi : s[i]? = some (Zh enc size e (.slice ao n cap) xs)) :
    n = xs.length ∧ ((cap = 0 ∧ xs = []) ∨ (cap ≠ 0 ∧ ∃ g cur, ao = some ⟨g, 0, none⟩ ∧ w.heap[g]? = some (.cells cur e (0, 0)) ∧ n ≤ cap ∧ cap ≤ maxLen ∧ cur.size = cap * size ∧ cur.toList.take (n * size) = xs.flatMap enc ∧ W.heap.size ≤ g)) := by
  obtain ⟨ao', cap', hv, hc, _⟩ := hS.row i hi;simp only [Value.slice.injEq] at hv;obtain ⟨rfl, rfl, rfl⟩ := hv;refine ⟨rfl, ?_⟩
  by_cases h0 : cap = 0
  · rcases hc with h | ho
    · exact .inl h
    · obtain ⟨_, _, hv, hle, _⟩ := YV ho
      simp only [Value.slice.injEq, true_and] at hv;obtain ⟨rfl, rfl⟩ := hv;exact .inl ⟨h0, List.length_eq_zero_iff.1 (by omega)⟩
  · refine .inr ⟨h0, ?_⟩
    rcases hc with h | ho
    · exact absurd h.1 h0
    · rcases ho.2 with ⟨hv, _⟩ | ⟨g, cap', cur, hv, hB, hg, h1, h2, h3, h4⟩
      · simp only [Value.slice.injEq] at hv
        exact absurd hv.2.2 h0
      · simp only [Value.slice.injEq, true_and] at hv
        obtain ⟨rfl, rfl⟩ := hv;exact ⟨g, cur, rfl, hg, h1, h2, h3, h4, hB⟩
/-- A row made new. -/
theorem St.rowNew (hS : St W s w) {g cap : Nat} {cur : Array Value} {ys : List α} (hb : Below w.heap.size w w') (hg : w'.heap[g]? = some (.cells cur e (0, 0))) (hw : w.heap.size ≤ g) (hz : cur.size = cap * size) (hl : ys.length ≤ cap) (hm : cap ≤ maxLen)
    (ht : cur.toList.take (ys.length * size) = ys.flatMap enc) : St W (Zh enc size e (.slice (some ⟨g, 0, none⟩) ys.length cap) ys :: s) w' := by
  refine hS.add (ns := [_]) (St.ofRow (B1 := w'.heap.size) ⟨_, cap, rfl, .inr ⟨?_, .inr ⟨g, cap, cur, rfl, hw, hg, hl, hm, hz, ht⟩⟩, fun g' h => ?_⟩ hb)
  · rw [← ht, List.length_take]; have : ys.length * size ≤ cap * size := Nat.mul_le_mul_right size hl; simp; omega
  · simp only [Value.rowBlock] at h
    split at h
    · cases h
    · obtain rfl := Option.some.inj h; exact ZeJ hg
end
end Go.Proofs.YthnbgnjpbmnelaaGreatDoor

/- More operations over abstract frames: append of a list, slices of slices, slices made of values, guarded calls. -/
namespace Go.Proofs.YthnbgnjpbmnelaaGreatDoor
set_option linter.unusedVariables false
set_option linter.unusedSimpArgs false
set_option maxHeartbeats 1000000
set_option maxRecDepth 100000
open Go.RowKit

section
variable {P : Program} {w : World} {α : Type}
theorem UD (t ty e : TypeId) (i : TypeInfo) (ht : P.underlying t = some (.slice e)) (hi : P.info? e = some i) (ao : Option Addr) (n cap : Nat) (hn : n ≤ cap) (ao2 : Option Addr) (c2 : Nat) :
    (Builtin.append_ #[t, t] ty #[.slice ao n cap, .slice ao2 0 c2]).run P w = .ok (.slice ao n cap) w := by
  have hfc : (Builtin.firstCells i.size 0 (.slice ao2 0 c2)).run P w = .ok #[] w := by
    cases ao2 with
    | none => simp [Builtin.firstCells]
    | some ad => exact run_firstCells_some (P := P) w i.size 0 ad 0 c2 [] (by simp) (by simp)
  cases ao <;> simp [Builtin.append_, run_underlying ht, sizeOf, typeInfo, hi, Builtin.lenOf, hfc, storeCells, hn]
theorem Zc8 (t ty e : TypeId) (i : TypeInfo) (z : Value) (size bytes : Nat) (ht : P.underlying t = some (.slice e)) (hi : P.info? e = some i) (hz : i.zero = some z)
    (hsize : i.size = size) (hby : i.bytes = bytes) (hzs : z.cells.size = size) (hsz : 0 < size)
    {enc : α → List Value} (he : ∀ x, (enc x).length = size) {B B1 : Nat} {v : Value} {xs : List α} (h : RowO enc size e w B B1 v xs) (hB : B ≤ w.heap.size) (ao2 : Option Addr) (c2 : Nat) (ys : List α)
    (hr : Rd enc size w ao2 ys.length ys) (h1 : ∀ u ∈ ys.flatMap enc, u.oneCell' = true) (h63 : xs.length + ys.length ≤ maxLen) (hbytes : (xs.length + ys.length) * bytes ≤ 140737488355328) :
    ∃ ao cap w', (Builtin.append_ #[t, t] ty #[v, .slice ao2 ys.length c2]).run P w = .ok (.slice ao (xs.length + ys.length) cap) w' ∧ RowO enc size e w' B w'.heap.size (.slice ao (xs.length + ys.length) cap) (xs ++ ys) ∧
      w.grownBy w' (Value.rowBlock v) ∧ ∀ g, Value.rowBlock (.slice ao (xs.length + ys.length) cap) = some g → Value.rowBlock v = some g ∨ w.heap.size ≤ g := by
  by_cases hy : ys = []
  · subst hy
    obtain ⟨ao, cap, rfl, ho, hg⟩ := h;have hle : xs.length ≤ cap := by
      rcases ho with ho | ho
      · rw [ho.2]; exact Nat.zero_le _
      · obtain ⟨_, _, hv, hle, _⟩ := YV ho
        simp only [Value.slice.injEq, true_and] at hv;obtain ⟨rfl, rfl⟩ := hv;exact hle
    refine ⟨ao, cap, w, UD t ty e i ht hi ao _ cap hle ao2 c2, ?_, ⟨rfl, rfl, rfl, Nat.le_refl _, fun _ _ _ => rfl⟩, fun g hg => .inl hg⟩;have hlt := RowO.lt (show RowO enc size e w B B1 (.slice ao xs.length cap) xs from ⟨ao, cap, rfl, ho, hg⟩);rw [List.append_nil];exact ⟨ao, cap, rfl, ho, fun g hg => (hlt g hg).2.2⟩
  · have hpos : 0 < ys.length := List.length_pos_iff.2 hy
    obtain ⟨ad, rfl⟩ : ∃ ad, ao2 = some ad := by
      cases ao2 with
      | none => exact absurd (V4 hr) hy
      | some ad => exact ⟨ad, rfl⟩
    have hnews := hr.news he hsz;have hnl := XE _ _ he ys;obtain ⟨ao, cap, rfl, ho, hg⟩ := h;have hle : (xs ++ ys).length = xs.length + ys.length := by simp
    have hfl : (xs ++ ys).flatMap enc = xs.flatMap enc ++ ys.flatMap enc := by simp
    have mkR : ∀ {w' : World} {C C1 : Nat} {v' : Value}, w'.ownsRow C e size v' (xs.length + ys.length) (xs.flatMap enc ++ ys.flatMap enc) → (∀ g, v'.ownBlock = some g → g < C1) → RowO enc size e w' C C1 v' (xs ++ ys) := fun h k => RowO.mk (by rw [hle, hfl]; exact h) k
    by_cases h0 : cap = 0
    · have hx : xs = [] := by
        rcases ho with ho | ho
        · exact ho.2
        · obtain ⟨_, _, hv, hle, _⟩ := YV ho
          simp only [Value.slice.injEq, true_and] at hv;obtain ⟨rfl, rfl⟩ := hv;exact List.length_eq_zero_iff.1 (by omega)
      subst hx;subst h0;rw [XC]
      cases ao with
      | none =>
        obtain ⟨g, cap, w', hrun, hown, hgr, _, hlt⟩ := run_append_lies (P := P) (w := w) t ty w.heap.size e i z size bytes ht hi hz hsize hby hzs hsz (.slice none 0 0) 0 [] ⟨by simp, .inl ⟨rfl, rfl⟩⟩ ad ys.length c2 (ys.flatMap enc) hnl hnews h1 hpos h63 hbytes (Nat.le_refl _) w.heap.size rfl;refine ⟨some ⟨g, 0, none⟩, cap, w', hrun, ?_, hgr, fun g' h => ?_⟩
        · refine (mkR (by simpa using hown) (fun g' h => ?_)).mono hB (Nat.le_refl _)
          simp only [Value.ownBlock, Option.some.injEq] at h
          omega
        · right
          have := (hown.lt g' (Xf h)).1;exact this
      | some a0 =>
        obtain ⟨v', w', hrun, hown, hgr⟩ := run_append_arg_grows (P := P) (w := w) t ty e i z size bytes ht hi hz hsize hby hzs hsz a0 0 0 [] (by simp) (by simp) ad ys.length c2 (ys.flatMap enc) hnl hnews (by omega) h63 hbytes;obtain ⟨ao', cap', rfl, _⟩ := YV hown;refine ⟨ao', cap', w', hrun, ?_, hgr, fun g' h => ?_⟩
        · refine (mkR (by simpa using hown) (fun g' h => (hown.lt g' h).2)).mono hB (Nat.le_refl _)
        · right
          exact (hown.lt g' (Xf h)).1
    · have ho' : w.ownsRow B e size (.slice ao xs.length cap) xs.length (xs.flatMap enc) := by
        rcases ho with ho | ho
        · exact absurd ho.1 h0
        · exact ho
      obtain ⟨g, cap', w', hrun, hown, hgr, hor, hlt⟩ := run_append_lies (P := P) (w := w) t ty B e i z size bytes ht hi hz hsize hby hzs hsz _ xs.length _ ho' ad ys.length c2 (ys.flatMap enc) hnl hnews h1 hpos h63 hbytes hB w.heap.size rfl;rw [XO h0];refine ⟨some ⟨g, 0, none⟩, cap', w', hrun, ?_, hgr, fun g' h => ?_⟩
      · refine mkR hown (fun g' h => ?_)
        simp only [Value.ownBlock, Option.some.injEq] at h
        omega
      · have := Xf h
        simp only [Value.ownBlock, Option.some.injEq] at this;subst this;rcases hor with h | h
        · exact .inl h
        · exact .inr (by omega)
end

section
variable {W w : World} {s : List Asr} {α : Type} {enc : α → List Value} {size : Nat} {e : TypeId}
theorem St.capLe (hS : St W s w) (i : Nat) {ao : Option Addr} {n cap : Nat} {xs : List α} (hi : s[i]? = some (Zh enc size e (.slice ao n cap) xs)) : xs.length ≤ cap := by
  obtain ⟨rfl, ⟨rfl, rfl⟩ | ⟨h0, g, cur, rfl, hg, h1, _⟩⟩ := hS.rowBlk i hi
  · exact Nat.le_refl _
  · exact h1
theorem Rd.take {ao : Option Addr} {n : Nat} {xs : List α} (h : Rd enc size w ao n xs) {k : Nat} (hk : k ≤ xs.length) : Rd enc size w ao k (xs.take k) := by
  refine ⟨by rw [List.length_take]; omega, fun i hi => ?_⟩;rw [List.length_take] at hi;have := h.2 i (by omega);rw [List.getElem?_take, if_pos (by omega)];exact this
theorem St.rdN (h : St W s w) (he : ∀ x, (enc x).length = size) (i : Nat) {ao : Option Addr} {n cap : Nat} {xs : List α} (hi : s[i]? = some (Zh enc size e (.slice ao n cap) xs)) : Rd enc size w ao n xs := by
  obtain ⟨rfl, _⟩ := h.rowBlk i hi;exact h.rdOf he i hi
end
/-- What an append asks of the element's type. -/
structure JU (P : Program) (t e : TypeId) (size bytes : Nat) : Prop where
  ht : P.underlying t = some (.slice e)
  info : ∃ i z, P.info? e = some i ∧ i.zero = some z ∧ i.size = size ∧ i.bytes = bytes ∧ z.cells.size = size
  pos : 0 < size

section
variable {P : Program} {ops : Array Oper} {Q : Exit → Act → World → Prop} {rest : List Oper} {o : Oper} {a : Act} {w W : World} {N : Nat} {l : List (Nat × Value)} {s : List Asr} {α : Type} {enc : α → List Value} {size : Nat} {e : TypeId}
/-- What an append of a list to a row leaves. -/
theorem St.appL (hS : St W s w) {t : TypeId} {bytes : Nat} (hT : JU P t e size bytes) (ty : TypeId) (he : ∀ x, (enc x).length = size) (i : Nat) {v : Value} {xs : List α} (hi : s[i]? = some (Zh enc size e v xs)) {ao2 : Option Addr} {n c2 : Nat} {ys : List α} (hr : Rd enc size w ao2 n ys) (h1 : ∀ u ∈ ys.flatMap enc, u.oneCell' = true)
    (h63 : xs.length + ys.length ≤ maxLen) (hbytes : (xs.length + ys.length) * bytes ≤ 140737488355328) :
    ∃ ao cap w', (Builtin.append_ #[t, t] ty #[v, .slice ao2 n c2]).run P w = .ok (.slice ao (xs.length + ys.length) cap) w' ∧ St W (s.set i (Zh enc size e (.slice ao (xs.length + ys.length) cap) (xs ++ ys))) w' := by
  obtain ⟨i0, z, hi0, hz0, k1, k2, k3⟩ := hT.info;obtain rfl : n = ys.length := hr.1.symm;obtain ⟨ao, cap, w', hrun, hrow, hgr, hor⟩ := Zc8 (P := P) t ty e i0 z size bytes hT.ht hi0 hz0 k1 k2 k3 hT.pos he (hS.row i hi) hS.bel.size ao2 c2 ys hr h1 h63 hbytes;exact ⟨ao, cap, w', hrun, hS.mutRow i hi hrow hgr hor⟩
theorem ZbW {t : TypeId} {x y : Operand} (ho : o.op = .call { callee := .builtin .append, args := #[x, y], argTypes := #[t, t] }) {u v r : Value} (hx : a.eval x = u) (hy : a.eval y = v) {w' : World} (h : (Builtin.append_ #[t, t] o.type #[u, v]).run P w = .ok r w') : (execOp a.eval o).run P w = .ok (.value r) w' := by
  unfold execOp;simp only [ho, resolve, invoke, builtin, Sem.run_bind, Sem.run_pure, Result.andThen_ok, List.map_toArray, List.map_cons, List.map_nil, hx, hy, h]
theorem YF (hg : o.guard = none) (hF : Fr N a l) {t : TypeId} {x y : Operand} (ho : o.op = .call { callee := .builtin .append, args := #[x, y], argTypes := #[t, t] }) {d : Nat} (hd : o.dst = some d) (hN : Nat.blt d N = true) {v : Value} {ao2 : Option Addr} {n c2 : Nat} (hx : a.eval x = v) (hy : a.eval y = .slice ao2 n c2)
    {bytes : Nat} (hT : JU P t e size bytes) (he : ∀ x, (enc x).length = size) (hS : St W s w) (i : Nat) {xs : List α} (hi : s[i]? = some (Zh enc size e v xs)) {ys : List α} (hr : Rd enc size w ao2 n ys) (h1 : ∀ u ∈ ys.flatMap enc, u.oneCell' = true)
    (h63 : xs.length + ys.length ≤ maxLen) (hbytes : (xs.length + ys.length) * bytes ≤ 140737488355328)
    (h : ∀ ao cap w' a', Fr N a' ((d, .slice ao (xs.length + ys.length) cap) :: l) → St W (s.set i (Zh enc size e (.slice ao (xs.length + ys.length) cap) (xs ++ ys))) w' → wpList P ops Q rest a' w') : wpList P ops Q (o :: rest) a w := by
  obtain ⟨ao, cap, w', hrun, hS'⟩ := hS.appL hT o.type he i hi (c2 := c2) hr h1 h63 hbytes;refine wpList_plain hg fun K hK => ?_;unfold Oper.wp;rw [ZbW ho hx hy hrun];exact hK _ _ (hd ▸ h _ _ _ _ (hF.put (Nat.le_of_ble_eq_true hN) _) hS')
theorem YA {i0 : Nat} {K : Act → World → Prop} (hi0 : ops[i0]? = some o) (hg : o.guard = none) (hF : Fr N a l) {t : TypeId} {x y : Operand} (ho : o.op = .call { callee := .builtin .append, args := #[x, y], argTypes := #[t, t] }) {d : Nat} (hd : o.dst = some d) (hN : Nat.blt d N = true) {v : Value} {ao2 : Option Addr} {n c2 : Nat} (hx : a.eval x = v) (hy : a.eval y = .slice ao2 n c2)
    {bytes : Nat} (hT : JU P t e size bytes) (he : ∀ x, (enc x).length = size) (hS : St W s w) (i : Nat) {xs : List α} (hi : s[i]? = some (Zh enc size e v xs)) {ys : List α} (hr : Rd enc size w ao2 n ys) (h1 : ∀ u ∈ ys.flatMap enc, u.oneCell' = true)
    (h63 : xs.length + ys.length ≤ maxLen) (hbytes : (xs.length + ys.length) * bytes ≤ 140737488355328)
    (h : ∀ ao cap w' a', Fr N a' ((d, .slice ao (xs.length + ys.length) cap) :: l) → St W (s.set i (Zh enc size e (.slice ao (xs.length + ys.length) cap) (xs ++ ys))) w' → K a' w') : wpOp P ops Q i0 K a w := by
  obtain ⟨ao, cap, w', hrun, hS'⟩ := hS.appL hT o.type he i hi (c2 := c2) hr h1 h63 hbytes;refine QO hi0 hg ?_;unfold Oper.wp;rw [ZbW ho hx hy hrun];exact (show K (a.put o.dst _) w' by rw [hd]; exact h _ _ _ _ (hF.put (Nat.le_of_ble_eq_true hN) _) hS')
theorem QP {i0 : Nat} {K : Act → World → Prop} (hi0 : ops[i0]? = some o) (hg : o.guard = none) (hF : Fr N a l) {t : TypeId} (ho : o.op = .buildSlice t 0 #[]) {d : Nat} (hd : o.dst = some d) (hN : Nat.blt d N = true) (hu : Y1 P t = some (e, size)) {s2 : List Asr} (hS2 : St W s2 w) (hS : St W s w)
    (h : ∀ a' w' b, Fr N a' ((d, .slice (some ⟨b, 0, none⟩) 0 0) :: l) → St W s2 w' → St W s w' → K a' w') : wpOp P ops Q i0 K a w := by
  unfold Y1 at hu
  split at hu
  · rename_i e' hu'
    split at hu
    · rename_i inf hq
      refine QO hi0 hg ?_;have hr : (execOp a.eval o).run P w = .ok (.value (.slice (some ⟨w.heap.size, 0, none⟩) 0 0)) (w.alloc (.cells #[] e')) := by
        unfold execOp;simp only [ho, Instr.buildSlice, Sem.run_bind, run_underlying hu' w, Result.andThen_ok, XZ hq w];simp [Instr.fill, newRow, go_sem]
      unfold Oper.wp;rw [hr];exact (show K (a.put o.dst _) _ by rw [hd]; exact h _ _ _ (hF.put (Nat.le_of_ble_eq_true hN) _) (hS2.later ((Below.refl _ _).alloc (Nat.le_refl _) _)) (hS.later ((Below.refl _ _).alloc (Nat.le_refl _) _)))
    · cases hu
  · cases hu
/-! ### A slice of a slice -/
theorem Zbe {t : TypeId} {x y : Operand} (ho : o.op = .slice t x none (some y) none) {ao : Option Addr} {n cap : Nat} (hx : a.eval x = .slice ao n cap) {kk : IntKind} {m : Int} (hy : a.eval y = .int kk m) {size : Nat} (hu : Y1 P t = some (e, size)) {k : Nat} (hm : m = (k : Int)) (hk : k ≤ cap) : Yl P w o a (.slice ao k cap) := by
  unfold Y1 at hu
  split at hu
  · rename_i e' hu'
    split at hu
    · rename_i inf hq
      subst hm;have h2 : ((k : Int) ≤ (cap : Int)) := by omega
      unfold Yl execOp;simp only [ho, hx, hy, Option.map_some, Option.map_none, Instr.sliceAt, Instr.slice, Sem.run_bind, run_underlying hu' w, Result.andThen_ok];simp [Instr.slice, Instr.sliceBounds, Instr.sliceBound, asIntOf, go_sem, run_underlying hu' w, sizeOf, typeInfo, hq, h2];intro hlt; omega
    · cases hu
  · cases hu
/-! ### Guards that were skipped themselves -/
theorem Fr.skipU (h : Fr N a l) {g d : Nat} {b : Bool} (ho : o.guard = some (g, b)) (hg : (ops[g]?).bind (·.dst) = some d) (hb : lk l d = some undef) : Region.wanted o (yielded ops a.tmps) = false := by
  simp [Region.wanted, ho, yielded, hg, h.at_ d _ hb, undef]
theorem Yp (hF : Fr N a l) {g dg : Nat} {b : Bool} (hgd : o.guard = some (g, b)) (hgo : (ops[g]?).bind (·.dst) = some dg) (hgv : lk l dg = some undef) {d : Nat} (hd : o.dst = some d) (hN : Nat.blt d N = true) (h : ∀ a', Fr N a' ((d, undef) :: l) → wpList P ops Q rest a' w) : wpList P ops Q (o :: rest) a w := by
  refine wpList_step fun K hK => ?_;rw [if_neg (by rw [hF.skipU hgd hgo hgv]; simp)];exact hK _ _ (hd ▸ h _ (hF.put (Nat.le_of_ble_eq_true hN) undef))
/-! ### A guarded call -/
theorem Zay (hF : Fr N a l) {g dg d : Nat} {b : Bool} (hgd : o.guard = some (g, b)) (hgo : (ops[g]?).bind (·.dst) = some dg) (hgv : lk l dg = some (.bool b)) {f : FuncId} {xs : Array Operand} {ts : Array TypeId} (ho : o.op = .call { callee := .value (.func f), args := xs, argTypes := ts }) (hc : ∀ (args : Array Value) (w : World), (callFunc f args).run P w = .ok (.enter f args) w)
    {args : Array Value} (hx : xs.toList.mapM (evO l) = some args.toList) {R : Ending → World → Prop} (hR : Calls P f args w R) (hd : o.dst = some d) (hN : Nat.blt d N = true)
    (h : ∀ e w', R e w' → ∃ v, e = .returned v ∧ ∀ a', Fr N a' ((d, v) :: l) → wpList P ops Q rest a' w') : wpList P ops Q (o :: rest) a w := by
  refine wpList_step fun K hK => ?_;rw [if_pos (hF.want hgd hgo hgv)];refine Qw f xs ts ho hc ?_;rw [Qd hF hx];refine hR.mono fun e w' hr => ?_;obtain ⟨v, hv, hk⟩ := h e w' hr;exact ⟨v, hv, hK _ _ (hd ▸ hk _ (hF.put (Nat.le_of_ble_eq_true hN) v))⟩
/-! ### A slice made of values -/
theorem Zaz (hF : Fr N a l) {ps0 : Array (Nat × Operand)} {ps : List (Nat × Value)} (hp : ps0.toList.mapM (fun p => (evO l p.2).map fun v => (p.1, v)) = some ps) : (ps0.map fun (i, x) => (i, a.eval x)).toList = ps := by
  rw [Array.toList_map];have key : ∀ (ys : List (Nat × Operand)) (vs : List (Nat × Value)), ys.mapM (fun p => (evO l p.2).map fun v => (p.1, v)) = some vs → ys.map (fun (i, x) => (i, a.eval x)) = vs := by
    intro ys
    induction ys with
    | nil => intro vs hv; simpa using hv
    | cons y r ih =>
      obtain ⟨yi, yx⟩ := y;intro vs hv;rw [List.mapM_cons] at hv
      cases h1 : evO l yx with
      | none => rw [h1] at hv; cases hv
      | some v =>
        rw [h1] at hv
        cases h2 : r.mapM (fun p => (evO l p.2).map fun v => (p.1, v)) with
        | none => rw [h2] at hv; cases hv
        | some us =>
          rw [h2] at hv;obtain rfl : (yi, v) :: us = vs := by simpa using hv
          rw [List.map_cons, ih us h2];show (yi, a.eval yx) :: us = _;rw [hF.ev h1]
  exact key _ _ hp
def UJ (P : Program) (t : TypeId) (len : Nat) (parts : List (Nat × Value)) : Option (TypeId × Nat × List Value) :=
  match P.underlying t with
  | some (.slice e) => match P.info? e with
    | some inf => match inf.zero with
      | some z => if 2 ^ 24 < len * inf.size then none else if len * inf.size = 0 then none else
        match Instr.fill (fun i => some (i * inf.size, inf.size)) ((Array.range (len * inf.size)).map (z.cells[· % z.cells.size]!)) parts with
        | some cells => some (e, inf.size, cells.toList)
        | none => none
      | none => none
    | none => none
  | _ => none
theorem Z0 (hg : o.guard = none) (hF : Fr N a l) {t : TypeId} {len : Nat} {ps0 : Array (Nat × Operand)} (ho : o.op = .buildSlice t len ps0) {d : Nat} (hd : o.dst = some d) (hN : Nat.blt d N = true) {ps : List (Nat × Value)} (hp : ps0.toList.mapM (fun p => (evO l p.2).map fun v => (p.1, v)) = some ps)
    {cells : List Value} (hb : UJ P t len ps = some (e, size, cells)) (xs : List α) (hl : xs.length = len) (hx : xs.flatMap enc = cells) (hm : len ≤ maxLen) (hc : cells.length = len * size) (hS : St W s w)
    (h : ∀ b a' w', Fr N a' ((d, .slice (some ⟨b, 0, none⟩) len len) :: l) → St W (Zh enc size e (.slice (some ⟨b, 0, none⟩) len len) xs :: s) w' → wpList P ops Q rest a' w') : wpList P ops Q (o :: rest) a w := by
  have hps := Zaz hF hp;unfold UJ at hb
  split at hb
  · rename_i e' hu
    split at hb
    · rename_i inf hq
      split at hb
      · rename_i z hz
        split at hb
        · cases hb
        · rename_i hbig
          split at hb
          · cases hb
          · rename_i hnz
            split at hb
            · rename_i cs hf
              simp only [Option.some.injEq, Prod.mk.injEq] at hb;obtain ⟨rfl, rfl, rfl⟩ := hb;refine wpList_plain hg fun K hK => ?_;have hr : (execOp a.eval o).run P w = .ok (.value (.slice (some ⟨w.heap.size, 0, none⟩) len len)) (w.alloc (.cells cs e')) := by
                unfold execOp;simp only [ho, Instr.buildSlice, Sem.run_bind, run_underlying hu w, Result.andThen_ok, XZ hq w, hps];simp only [if_neg hbig, if_neg hnz, Sem.run_bind, Sem.run_pure, Result.andThen_ok, UV hq hz w, hf];simp [newRow, go_sem]
              unfold Oper.wp;rw [hr];refine hK _ _ (hd ▸ h _ _ _ (hF.put (Nat.le_of_ble_eq_true hN) _) ?_);have hn := hS.rowNew (w' := w.alloc (.cells cs e')) (enc := enc) (size := inf.size) (ys := xs) (cap := len) ((Below.refl _ _).alloc (Nat.le_refl _) _) (JK w _ _ rfl) (Nat.le_refl _) (by simpa using hc) (by omega) hm (by rw [hx, hl, List.take_of_length_le (by omega)]);rw [hl] at hn;exact hn
            · cases hb
      · cases hb
    · cases hb
  · cases hb
theorem Yf {i0 : Nat} {K : Act → World → Prop} (hi0 : ops[i0]? = some o) (hg : o.guard = none) (hF : Fr N a l) {t : TypeId} {len : Nat} {ps0 : Array (Nat × Operand)} (ho : o.op = .buildSlice t len ps0) {d : Nat} (hd : o.dst = some d) (hN : Nat.blt d N = true) {ps : List (Nat × Value)} (hp : ps0.toList.mapM (fun p => (evO l p.2).map fun v => (p.1, v)) = some ps)
    {cells : List Value} (hb : UJ P t len ps = some (e, size, cells)) (xs : List α) (hl : xs.length = len) (hx : xs.flatMap enc = cells) (hm : len ≤ maxLen) (hc : cells.length = len * size) {s2 : List Asr} (hS2 : St W s2 w) (hS : St W s w)
    (h : ∀ b a' w', Fr N a' ((d, .slice (some ⟨b, 0, none⟩) len len) :: l) → St W (Zh enc size e (.slice (some ⟨b, 0, none⟩) len len) xs :: s2) w' → St W s w' → K a' w') : wpOp P ops Q i0 K a w := by
  have hps := Zaz hF hp;unfold UJ at hb
  split at hb
  · rename_i e' hu
    split at hb
    · rename_i inf hq
      split at hb
      · rename_i z hz
        split at hb
        · cases hb
        · rename_i hbig
          split at hb
          · cases hb
          · rename_i hnz
            split at hb
            · rename_i cs hf
              simp only [Option.some.injEq, Prod.mk.injEq] at hb;obtain ⟨rfl, rfl, rfl⟩ := hb;refine QO hi0 hg ?_;have hr : (execOp a.eval o).run P w = .ok (.value (.slice (some ⟨w.heap.size, 0, none⟩) len len)) (w.alloc (.cells cs e')) := by
                unfold execOp;simp only [ho, Instr.buildSlice, Sem.run_bind, run_underlying hu w, Result.andThen_ok, XZ hq w, hps];simp only [if_neg hbig, if_neg hnz, Sem.run_bind, Sem.run_pure, Result.andThen_ok, UV hq hz w, hf];simp [newRow, go_sem]
              unfold Oper.wp;rw [hr];have hn := hS2.rowNew (w' := w.alloc (.cells cs e')) (enc := enc) (size := inf.size) (ys := xs) (cap := len) ((Below.refl _ _).alloc (Nat.le_refl _) _) (JK w _ _ rfl) (Nat.le_refl _) (by simpa using hc) (by omega) hm (by rw [hx, hl, List.take_of_length_le (by omega)]);rw [hl] at hn;exact (show K (a.put o.dst _) _ by rw [hd]; exact h _ _ _ (hF.put (Nat.le_of_ble_eq_true hN) _) hn (hS.later ((Below.refl _ _).alloc (Nat.le_refl _) _)))
            · cases hb
      · cases hb
    · cases hb
  · cases hb
end
end Go.Proofs.YthnbgnjpbmnelaaGreatDoor

/- Steps that often follow each other. -/
namespace Go.Proofs.YthnbgnjpbmnelaaGreatDoor
set_option linter.unusedVariables false
set_option linter.unusedSimpArgs false
set_option maxHeartbeats 1000000
set_option maxRecDepth 100000
open Go.RowKit
section
variable {P : Program} {ops : Array Oper} {Q : Exit → Act → World → Prop} {K : Act → World → Prop} {rest : List Oper} {o : Oper} {a : Act} {w : World} {N : Nat} {l : List (Nat × Value)}
theorem ZS {id : Nat} {l : List Oper} {y : Code} (h : wpList P l.toArray (Exit.then (y.wp P Q) Q) l a w) : (Code.seq (Code.region id l.toArray false) y).wp P Q a w := wp_seq (wp_region_lit h)
theorem ZN (h : K a w) : wpList P ops (Exit.then K Q) [] a w := wpList_nil (Za h)
theorem Ze7 (hF : Fr N a l) (hg : o.guard = none) {d : Nat} (hd : o.dst = some d) (hN : Nat.blt d N = true) {x : Operand} (ho : o.op = .move x) {v : Value} (hx : evO l x = some v) (h : ∀ a', Fr N a' ((d, v) :: l) → wpList P ops Q rest a' w) : wpList P ops Q (o :: rest) a w := Zb hg hF hd hN (Zd ho (hF.ev hx)) h
theorem Ze8 (hF : Fr N a l) (hg : o.guard = none) {d : Nat} (hd : o.dst = some d) (hN : Nat.blt d N = true) {x : Operand} (ho : o.op = .assign x) {v : Value} (hx : evO l x = some v) (h : ∀ a', Fr N a' ((d, v) :: l) → wpList P ops Q rest a' w) : wpList P ops Q (o :: rest) a w := Zb hg hF hd hN (Zc ho (hF.ev hx)) h
theorem zm (hF : Fr N a l) {d : Nat} {x : Operand} {v : Value} (h : ∀ a', Fr N a' ((d, v) :: l) → wpList P ops Q rest a' w) (hg : o.guard = none := by exact rfl) (hd : o.dst = some d := by exact rfl) (hN : Nat.blt d N = true := by exact rfl) (ho : o.op = .move x := by exact rfl) (hx : evO l x = some v := by exact rfl) : wpList P ops Q (o :: rest) a w := Ze7 hF hg hd hN ho hx h
theorem za (hF : Fr N a l) {d : Nat} {x : Operand} {v : Value} (h : ∀ a', Fr N a' ((d, v) :: l) → wpList P ops Q rest a' w) (hg : o.guard = none := by exact rfl) (hd : o.dst = some d := by exact rfl) (hN : Nat.blt d N = true := by exact rfl) (ho : o.op = .assign x := by exact rfl) (hx : evO l x = some v := by exact rfl) : wpList P ops Q (o :: rest) a w := Ze8 hF hg hd hN ho hx h
theorem zy (hF : Fr N a l) {d : Nat} {v : Value} (hy : Yl P w o a v) (h : ∀ a', Fr N a' ((d, v) :: l) → wpList P ops Q rest a' w) (hg : o.guard = none := by exact rfl) (hd : o.dst = some d := by exact rfl) (hN : Nat.blt d N = true := by exact rfl) : wpList P ops Q (o :: rest) a w := Zb hg hF hd hN hy h
theorem zg (hF : Fr N a l) {g dg d : Nat} {b : Bool} {v : Value} (hy : Yl P w o a v) (h : ∀ a', Fr N a' ((d, v) :: l) → wpList P ops Q rest a' w) (hgd : o.guard = some (g, b) := by exact rfl) (hgo : (ops[g]?).bind (·.dst) = some dg := by exact rfl) (hgv : lk l dg = some (.bool b) := by exact rfl) (hd : o.dst = some d := by exact rfl) (hN : Nat.blt d N = true := by exact rfl) : wpList P ops Q (o :: rest) a w := Zz hF hgd hgo hgv hd hN hy h
section
variable {W : World} {s : List Asr} {Q : Act → Prop}
theorem zq (hF : Fr N a l) {d : Nat} {v : Value} (hy : ∀ w, St W s w → Yl P w o a v) (h : ∀ a', Fr N a' ((d, v) :: l) → wpQuiet P ops (St W s) Q rest a') (hg : o.guard = none := by exact rfl) (hd : o.dst = some d := by exact rfl) (hN : Nat.blt d N = true := by exact rfl) : wpQuiet P ops (St W s) Q (o :: rest) a := Z3 hg hF hd hN hy h
theorem zqg (hF : Fr N a l) {g dg d : Nat} {b : Bool} {v : Value} (hy : ∀ w, St W s w → Yl P w o a v) (h : ∀ a', Fr N a' ((d, v) :: l) → wpQuiet P ops (St W s) Q rest a') (hgd : o.guard = some (g, b) := by exact rfl) (hgo : (ops[g]?).bind (·.dst) = some dg := by exact rfl) (hgv : lk l dg = some (.bool b) := by exact rfl) (hd : o.dst = some d := by exact rfl) (hN : Nat.blt d N = true := by exact rfl) : wpQuiet P ops (St W s) Q (o :: rest) a := Ze6 hF hgd hgo hgv hd hN hy h
end
section
variable {W : World} {s : List Asr} {Q : Exit → Act → World → Prop} {fuel : Nat} {listed : Array Bool}
theorem zh {oi : Oper} (i : Nat) (hi : ops[i]? = some oi) {v : Value} {d : Nat} (hF : Fr N a l) (hy : ∀ w, St W s w → Yl P w oi a v) (hS : St W s w) (h : ∀ a', Fr N a' ((d, v) :: l) → wpAnyH P .any ops Q (St W s) fuel (listed.setIfInBounds i true) a' w) (hs : Region.noSelect ops = true := by kernel_rfl) (hf : Region.free .any ops listed i = true := by kernel_rfl) (hr : (Region.ready .any ops listed).contains i = true := by kernel_rfl) (hQ : ∀ c a w, Q (.panic c) (a.put oi.dst v) w → Q (.panic c) a w := by exact fun _ _ _ h => h)
    (hg : oi.guard = none := by exact rfl) (hd : oi.dst = some d := by exact rfl) (hN : Nat.blt d N = true := by exact rfl) : wpAnyH P .any ops Q (St W s) (fuel + 1) listed a w := Z1 i hi hs hf hr hQ hg hF hd hN hy hS h
end
end
section
variable {P : Program} {w : World} {o : Oper} {a : Act} {x y z : Operand} {t t' : TypeId}
theorem ylo (ho : o.op = .load t x) {p : Addr} (hx : a.eval x = .pointer (some p)) {v : Value} (hc : w.cell? p = some v) (hs : Xh P t = true := by kernel_rfl) : Yl P w o a v := Zn ho hx hc hs
theorem ylr (ho : o.op = .load t x) {b k : Nat} (hx : a.eval x = .pointer (some ⟨b, k, none⟩)) {cs : List Value} (hc : w.rangeAt b k cs) (hs : Qz P t cs.length = true := by kernel_rfl) : Yl P w o a (.agg cs.toArray) := Zv ho hx hc hs
theorem yfa (j : Nat) {i : Nat} (ho : o.op = .fieldAddr t x i) {b k : Nat} (hx : a.eval x = .pointer (some ⟨b, k, none⟩)) (hj : UT P t i = some j := by kernel_rfl) : Yl P w o a (.pointer (some ⟨b, k + j, none⟩)) := Ze ho hx hj
end
/-! ### Runs of plain steps -/
def ZeK : List Value → Nat → Option Value
  | [], _ => none
  | v :: _, 0 => some v
  | _ :: r, i + 1 => ZeK r i
theorem ZbX : ∀ (xs : List Value) (i : Nat), ZeK xs i = xs[i]?
  | [], _ => rfl
  | _ :: _, 0 => rfl
  | _ :: r, i + 1 => ZbX r i
def Ze9 : BinOp → Int → Int → Option Value
  | .eql, m, n => some (.bool (m == n))
  | .neq, m, n => some (.bool (m != n))
  | .lss, m, n => some (.bool (decide (m < n)))
  | .leq, m, n => some (.bool (decide (m ≤ n)))
  | .gtr, m, n => some (.bool (decide (n < m)))
  | .geq, m, n => some (.bool (decide (n ≤ m)))
  | _, _, _ => none
def auV (l : List (Nat × Value)) : Op → Option Value
  | .move x => evO l x
  | .assign x => evO l x
  | .extract x i => match evO l x with
    | some (.tuple vs) => ZeK vs.toList i
    | _ => none
  | .nilCheck x => match evO l x with
    | some (.pointer (some p)) => some (.pointer (some p))
    | _ => none
  | .unOp .not _ x => match evO l x with
    | some (.bool b) => some (.bool !b)
    | _ => none
  | .pick z x y => match evO l z with
    | some (.bool true) => evO l x
    | some (.bool false) => evO l y
    | _ => none
  | .binOp op _ x y _ => match evO l x with
    | some (.int k m) => match evO l y with
      | some (.int k' n) => match decide (k = k') with
        | true => Ze9 op m n
        | false => none
      | _ => none
    | _ => none
  | _ => none
theorem Zc9 {P : Program} {w : World} {o : Oper} {a : Act} {N : Nat} {l : List (Nat × Value)} (hF : Fr N a l) {p : Op} (ho : o.op = p) {v : Value} (h : auV l p = some v) : Yl P w o a v := by
  unfold auV at h
  split at h
  · exact Zd ho (hF.ev h)
  · exact Zc ho (hF.ev h)
  · split at h
    · rename_i hx
      exact Zl ho (hF.ev hx) (by rw [ZbX] at h; simpa using h)
    · cases h
  · split at h
    · rename_i hx
      obtain rfl := Option.some.inj h;exact ZX ho (hF.ev hx)
    · cases h
  · split at h
    · rename_i hx
      obtain rfl := Option.some.inj h;exact ZY ho (hF.ev hx)
    · cases h
  · split at h
    · rename_i hx
      exact ZG ho (hF.ev hx) (hF.ev h)
    · rename_i hx
      exact ZF ho (hF.ev hx) (hF.ev h)
    · cases h
  · split at h
    · rename_i hx
      split at h
      · rename_i hy
        split at h
        · rename_i hk
          obtain rfl := of_decide_eq_true hk;unfold Ze9 at h
          split at h
          · obtain rfl := Option.some.inj h; exact Yt ho (hF.ev hx) (hF.ev hy)
          · obtain rfl := Option.some.inj h; exact Qb ho (hF.ev hx) (hF.ev hy)
          · obtain rfl := Option.some.inj h; exact ZZ ho (hF.ev hx) (hF.ev hy)
          · obtain rfl := Option.some.inj h; exact UI ho (hF.ev hx) (hF.ev hy)
          · obtain rfl := Option.some.inj h; exact Yo ho (hF.ev hx) (hF.ev hy)
          · obtain rfl := Option.some.inj h; exact JQ ho (hF.ev hx) (hF.ev hy)
          · cases h
        · cases h
      · cases h
    · cases h
  · cases h
/-- What one step puts: not wanted (none), or a value. -/
def auG (ops : Array Oper) (l : List (Nat × Value)) (o : Oper) : Option Bool := match o.guard with
  | none => some true
  | some (g, b) => match (ops[g]?).bind (·.dst) with
    | none => none
    | some dg => match lk l dg with
      | some (.bool c) => some (c == b)
      | some (.tuple vs) => match vs.toList with
        | [] => some false
        | _ => none
      | _ => none
def auS (N : Nat) (ops : Array Oper) (l : List (Nat × Value)) (o : Oper) : Option (Nat × Value) := match o.dst with
  | none => none
  | some d => match Nat.blt d N with
    | false => none
    | true => match auG ops l o with
      | none => none
      | some false => some (d, undef)
      | some true => match auV l o.op with
        | some v => some (d, v)
        | none => none
def auR (N : Nat) (ops : Array Oper) : Nat → List Oper → List (Nat × Value) → Option (List Oper × List (Nat × Value))
  | 0, r, l => some (r, l)
  | _ + 1, [], _ => none
  | n + 1, o :: r, l => match auS N ops l o with
    | some (d, v) => auR N ops n r ((d, v) :: l)
    | none => none
theorem JV {ops : Array Oper} {l : List (Nat × Value)} {o : Oper} {a : Act} {N : Nat} (hF : Fr N a l) {c : Bool} (h : auG ops l o = some c) : Region.wanted o (yielded ops a.tmps) = c := by
  unfold auG at h
  split at h
  · rename_i hg
    obtain rfl := Option.some.inj h;exact YZ hg
  · rename_i g b hg
    split at h
    · cases h
    · rename_i dg hd
      split at h
      · rename_i c' hl
        obtain rfl := Option.some.inj h
        cases hc : (c' == b) with
        | true => obtain rfl : c' = b := by simpa using hc
                  exact hF.want hg hd hl
        | false => exact hF.skip hg hd hl hc
      · rename_i vs hl
        split at h
        · rename_i hv
          obtain rfl := Option.some.inj h;have : vs = #[] := by simpa using hv
          subst this;exact hF.skipU hg hd hl
        · cases h
      · cases h
theorem zr (n : Nat) {P : Program} {ops : Array Oper} {Q : Exit → Act → World → Prop} {rest r : List Oper} {a : Act} {w : World} {N : Nat} {l l' : List (Nat × Value)} (hF : Fr N a l) (hr : auR N ops n rest l = some (r, l')) (h : ∀ a', Fr N a' l' → wpList P ops Q r a' w) : wpList P ops Q rest a w := by
  induction n generalizing rest l a with
  | zero =>
    simp only [auR, Option.some.injEq, Prod.mk.injEq] at hr;obtain ⟨rfl, rfl⟩ := hr;exact h a hF
  | succ n ih =>
    cases rest with
    | nil => cases hr
    | cons o rest =>
      unfold auR at hr
      split at hr
      · rename_i d v hs
        unfold auS at hs
        split at hs
        · cases hs
        · rename_i d' hd
          split at hs
          · cases hs
          · rename_i hN
            split at hs
            · cases hs
            · rename_i hg
              simp only [Option.some.injEq, Prod.mk.injEq] at hs;obtain ⟨rfl, rfl⟩ := hs;refine wpList_step fun K hK => ?_;rw [if_neg (by rw [JV hF hg]; simp)];exact hK _ _ (hd ▸ ih (hF.put (Nat.le_of_ble_eq_true hN) undef) hr)
            · rename_i hg
              split at hs
              · rename_i v' hv
                simp only [Option.some.injEq, Prod.mk.injEq] at hs;obtain ⟨rfl, rfl⟩ := hs;refine wpList_step fun K hK => ?_;rw [if_pos (JV hF hg)];unfold Oper.wp;rw [show (execOp a.eval o).run P w = _ from Zc9 hF rfl hv];exact hK _ _ (hd ▸ ih (hF.put (Nat.le_of_ble_eq_true hN) _) hr)
              · cases hs
      · cases hr
theorem zrq (n : Nat) {P : Program} {ops : Array Oper} {W : World} {s : List Asr} {Q : Act → Prop} {rest r : List Oper} {a : Act} {N : Nat} {l l' : List (Nat × Value)} (hF : Fr N a l) (hr : auR N ops n rest l = some (r, l')) (h : ∀ a', Fr N a' l' → wpQuiet P ops (St W s) Q r a') : wpQuiet P ops (St W s) Q rest a := by
  induction n generalizing rest l a with
  | zero =>
    simp only [auR, Option.some.injEq, Prod.mk.injEq] at hr;obtain ⟨rfl, rfl⟩ := hr;exact h a hF
  | succ n ih =>
    cases rest with
    | nil => cases hr
    | cons o rest =>
      unfold auR at hr
      split at hr
      · rename_i d v hs
        unfold auS at hs
        split at hs
        · cases hs
        · rename_i d' hd
          split at hs
          · cases hs
          · rename_i hN
            split at hs
            · cases hs
            · rename_i hg
              simp only [Option.some.injEq, Prod.mk.injEq] at hs;obtain ⟨rfl, rfl⟩ := hs;refine wpQuiet_step fun K hK => ?_;rw [if_neg (by rw [JV hF hg]; simp)];exact hK _ (hd ▸ ih (hF.put (Nat.le_of_ble_eq_true hN) undef) hr)
            · rename_i hg
              split at hs
              · rename_i v' hv
                simp only [Option.some.injEq, Prod.mk.injEq] at hs;obtain ⟨rfl, rfl⟩ := hs;refine wpQuiet_step fun K hK => ?_;rw [if_pos (JV hF hg)];refine ⟨_, fun w hw => ?_, hK _ (hd ▸ ih (hF.put (Nat.le_of_ble_eq_true hN) _) hr)⟩;unfold Oper.quietAt;rw [show (execOp a.eval o).run P w = _ from Zc9 hF rfl hv];exact ⟨rfl, rfl⟩
              · cases hs
      · cases hr
end Go.Proofs.YthnbgnjpbmnelaaGreatDoor
