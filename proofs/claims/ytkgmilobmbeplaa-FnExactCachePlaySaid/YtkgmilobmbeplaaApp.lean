/- One element appended to a row of the call's own, whatever its room. No program in sight. -/
import Derived.Test.YtkgmilobmbeplaaClone
import Derived.Test.YtkgmilobmbeplaaBox
import Derived.Deep.AppendLies
namespace Go.Proofs.Ytkgmilobmbeplaa
open Go.RowKit

theorem flat_one {α : Type} (enc : α → List Value) (xs : List α) (y : α) : (xs ++ [y]).flatMap enc = xs.flatMap enc ++ enc y := by simp
section
variable {P : Program} {w : World} {α : Type}
theorem run_app1 (t ty e : TypeId) (i : TypeInfo) (z : Value) (size bytes : Nat) (ht : P.underlying t = some (.slice e)) (hi : P.info? e = some i) (hz : i.zero = some z)
    (hsize : i.size = size) (hby : i.bytes = bytes) (hzs : z.cells.size = size) (hsz : 0 < size)
    {enc : α → List Value} (he : ∀ x, (enc x).length = size) {B B1 : Nat} {v : Value} {xs : List α} (h : RowO enc size e w B B1 v xs) (hB : B ≤ w.heap.size) (ad : Addr) (c : Nat) (y : α)
    (hy : ∀ j u, (enc y)[j]? = some u → w.cell? (ad.add j) = some u) (h1 : ∀ u ∈ enc y, u.oneCell' = true) (h63 : xs.length + 1 ≤ maxLen) (hbytes : (xs.length + 1) * bytes ≤ 140737488355328) :
    ∃ ao cap w', (Builtin.append_ #[t, t] ty #[v, .slice (some ad) 1 c]).run P w = .ok (.slice ao (xs.length + 1) cap) w' ∧ RowO enc size e w' B w'.heap.size (.slice ao (xs.length + 1) cap) (xs ++ [y]) ∧
      w.grownBy w' (Value.rowBlock v) ∧ ∀ g, Value.rowBlock (.slice ao (xs.length + 1) cap) = some g → Value.rowBlock v = some g ∨ w.heap.size ≤ g := by
  obtain ⟨ao, cap, rfl, ho, hg⟩ := h
  have hle : (xs ++ [y]).length = xs.length + 1 := by simp
  have mkR : ∀ {w' : World} {C C1 : Nat} {v' : Value}, w'.ownsRow C e size v' (xs.length + 1) (xs.flatMap enc ++ enc y) → (∀ g, v'.ownBlock = some g → g < C1) → RowO enc size e w' C C1 v' (xs ++ [y]) := fun h k => RowO.mk (by rw [hle, flat_one]; exact h) k
  by_cases h0 : cap = 0
  · have hx : xs = [] := by
      rcases ho with ho | ho
      · exact ho.2
      · obtain ⟨_, _, hv, hle, _⟩ := owns_slice ho
        simp only [Value.slice.injEq, true_and] at hv
        obtain ⟨rfl, rfl⟩ := hv
        exact List.length_eq_zero_iff.1 (by omega)
    subst hx
    subst h0
    rw [rowBlock_zero]
    cases ao with
    | none =>
      obtain ⟨g, cap, w', hrun, hown, hgr, _, hlt⟩ := run_append_lies (P := P) (w := w) t ty w.heap.size e i z size bytes ht hi hz hsize hby hzs hsz (.slice none 0 0) 0 [] ⟨by simp, .inl ⟨rfl, rfl⟩⟩ ad 1 c (enc y) (by rw [he, Nat.one_mul]) hy h1 (by omega) h63 hbytes (Nat.le_refl _) w.heap.size rfl
      refine ⟨some ⟨g, 0, none⟩, cap, w', hrun, ?_, hgr, fun g' h => ?_⟩
      · refine (mkR (by simpa using hown) (fun g' h => ?_)).mono hB (Nat.le_refl _)
        simp only [Value.ownBlock, Option.some.injEq] at h
        omega
      · right
        have := (hown.lt g' (rowBlock_own h)).1
        exact this
    | some a0 =>
      obtain ⟨v', w', hrun, hown, hgr⟩ := run_append_arg_grows (P := P) (w := w) t ty e i z size bytes ht hi hz hsize hby hzs hsz a0 0 0 [] (by simp) (by simp) ad 1 c (enc y) (by rw [he, Nat.one_mul]) hy (by omega) h63 hbytes
      obtain ⟨ao', cap', rfl, _⟩ := owns_slice hown
      refine ⟨ao', cap', w', hrun, ?_, hgr, fun g' h => ?_⟩
      · refine (mkR (by simpa using hown) (fun g' h => (hown.lt g' h).2)).mono hB (Nat.le_refl _)
      · right
        exact (hown.lt g' (rowBlock_own h)).1
  · have ho' : w.ownsRow B e size (.slice ao xs.length cap) xs.length (xs.flatMap enc) := by
      rcases ho with ho | ho
      · exact absurd ho.1 h0
      · exact ho
    obtain ⟨g, cap', w', hrun, hown, hgr, hor, hlt⟩ := run_append_lies (P := P) (w := w) t ty B e i z size bytes ht hi hz hsize hby hzs hsz _ xs.length _ ho' ad 1 c (enc y) (by rw [he, Nat.one_mul]) hy h1 (by omega) h63 hbytes hB w.heap.size rfl
    rw [rowBlock_pos h0]
    refine ⟨some ⟨g, 0, none⟩, cap', w', hrun, ?_, hgr, fun g' h => ?_⟩
    · refine mkR hown (fun g' h => ?_)
      simp only [Value.ownBlock, Option.some.injEq] at h
      omega
    · have := rowBlock_own h
      simp only [Value.ownBlock, Option.some.injEq] at this
      subst this
      rcases hor with h | h
      · exact .inl h
      · exact .inr (by omega)
theorem wp_app1 {o : Oper} {a : Act} {K : Act → World → Prop} {Q : Exit → Act → World → Prop} (s x : Operand) (t : TypeId)
    (ho : o.op = .call { callee := .builtin .append, args := #[s, x], argTypes := #[t, t] })
    (e : TypeId) (i : TypeInfo) (z : Value) (size bytes : Nat) (ht : P.underlying t = some (.slice e)) (hi : P.info? e = some i) (hz : i.zero = some z)
    (hsize : i.size = size) (hby : i.bytes = bytes) (hzs : z.cells.size = size) (hsz : 0 < size)
    {enc : α → List Value} (he : ∀ x, (enc x).length = size) {B B1 : Nat} (v : Value) (xs : List α) (hs : a.eval s = v) (h : RowO enc size e w B B1 v xs) (hB : B ≤ w.heap.size) (ad : Addr) (c : Nat) (hx : a.eval x = .slice (some ad) 1 c) (y : α)
    (hy : ∀ j u, (enc y)[j]? = some u → w.cell? (ad.add j) = some u) (h1 : ∀ u ∈ enc y, u.oneCell' = true) (h63 : xs.length + 1 ≤ maxLen) (hbytes : (xs.length + 1) * bytes ≤ 140737488355328)
    (hK : ∀ ao cap w', RowO enc size e w' B w'.heap.size (.slice ao (xs.length + 1) cap) (xs ++ [y]) → w.grownBy w' (Value.rowBlock v) → (∀ g, Value.rowBlock (.slice ao (xs.length + 1) cap) = some g → Value.rowBlock v = some g ∨ w.heap.size ≤ g) →
      K (a.put o.dst (.slice ao (xs.length + 1) cap)) w') : o.wp P a w K Q := by
  obtain ⟨ao', cap', w', hrun, h2, h3, h4⟩ := run_app1 (P := P) (w := w) t o.type e i z size bytes ht hi hz hsize hby hzs hsz he h hB ad c y hy h1 h63 hbytes
  unfold Oper.wp execOp
  simp only [ho, resolve, invoke, builtin, Sem.run_bind, Sem.run_pure, Result.andThen_ok, List.map_toArray, List.map_cons, List.map_nil, hs, hx, hrun]
  exact hK ao' cap' w' h2 h3 h4
theorem wpList_app1 {ops : Array Oper} {rest : List Oper} {o : Oper} {a : Act} {Q : Exit → Act → World → Prop} (hgd : o.guard = none) (s x : Operand) (t : TypeId)
    (ho : o.op = .call { callee := .builtin .append, args := #[s, x], argTypes := #[t, t] })
    (e : TypeId) (i : TypeInfo) (z : Value) (size bytes : Nat) (ht : P.underlying t = some (.slice e)) (hi : P.info? e = some i) (hz : i.zero = some z)
    (hsize : i.size = size) (hby : i.bytes = bytes) (hzs : z.cells.size = size) (hsz : 0 < size)
    {enc : α → List Value} (he : ∀ x, (enc x).length = size) {B B1 : Nat} (v : Value) (xs : List α) (hs : a.eval s = v) (h : RowO enc size e w B B1 v xs) (hB : B ≤ w.heap.size) (ad : Addr) (c : Nat) (hx : a.eval x = .slice (some ad) 1 c) (y : α)
    (hy : ∀ j u, (enc y)[j]? = some u → w.cell? (ad.add j) = some u) (h1 : ∀ u ∈ enc y, u.oneCell' = true) (h63 : xs.length + 1 ≤ maxLen) (hbytes : (xs.length + 1) * bytes ≤ 140737488355328)
    (hK : ∀ ao cap w', RowO enc size e w' B w'.heap.size (.slice ao (xs.length + 1) cap) (xs ++ [y]) → w.grownBy w' (Value.rowBlock v) → (∀ g, Value.rowBlock (.slice ao (xs.length + 1) cap) = some g → Value.rowBlock v = some g ∨ w.heap.size ≤ g) →
      wpList P ops Q rest (a.put o.dst (.slice ao (xs.length + 1) cap)) w') : wpList P ops Q (o :: rest) a w :=
  wpList_plain hgd fun _ h' => wp_app1 s x t ho e i z size bytes ht hi hz hsize hby hzs hsz he v xs hs h hB ad c hx y hy h1 h63 hbytes fun ao cap w' a1 a2 a3 => h' _ _ (hK ao cap w' a1 a2 a3)
theorem step_app1 {ops : Array Oper} {o : Oper} {a : Act} {K : Act → World → Prop} {Q : Exit → Act → World → Prop} {E : Prop} (hgd : o.guard = none) (s x : Operand) (t : TypeId)
    (ho : o.op = .call { callee := .builtin .append, args := #[s, x], argTypes := #[t, t] })
    (e : TypeId) (i : TypeInfo) (z : Value) (size bytes : Nat) (ht : P.underlying t = some (.slice e)) (hi : P.info? e = some i) (hz : i.zero = some z)
    (hsize : i.size = size) (hby : i.bytes = bytes) (hzs : z.cells.size = size) (hsz : 0 < size)
    {enc : α → List Value} (he : ∀ x, (enc x).length = size) {B B1 : Nat} (v : Value) (xs : List α) (hs : a.eval s = v) (h : RowO enc size e w B B1 v xs) (hB : B ≤ w.heap.size) (ad : Addr) (c : Nat) (hx : a.eval x = .slice (some ad) 1 c) (y : α)
    (hy : ∀ j u, (enc y)[j]? = some u → w.cell? (ad.add j) = some u) (h1 : ∀ u ∈ enc y, u.oneCell' = true) (h63 : xs.length + 1 ≤ maxLen) (hbytes : (xs.length + 1) * bytes ≤ 140737488355328)
    (hK : ∀ ao cap w', RowO enc size e w' B w'.heap.size (.slice ao (xs.length + 1) cap) (xs ++ [y]) → w.grownBy w' (Value.rowBlock v) → (∀ g, Value.rowBlock (.slice ao (xs.length + 1) cap) = some g → Value.rowBlock v = some g ∨ w.heap.size ≤ g) →
      K (a.put o.dst (.slice ao (xs.length + 1) cap)) w') : if Region.wanted o (yielded ops a.tmps) = true then Oper.wp P o a w K Q else E := by
  have hw : Region.wanted o (yielded ops a.tmps) = true := by simp [Region.wanted, hgd]
  rw [if_pos hw]
  exact wp_app1 s x t ho e i z size bytes ht hi hz hsize hby hzs hsz he v xs hs h hB ad c hx y hy h1 h63 hbytes hK
theorem step_store_box {ops : Array Oper} {op : Oper} {a : Act} {K : Act → World → Prop} {Q : Exit → Act → World → Prop} {E : Prop} (hgd : op.guard = none) (ty : TypeId) (x y : Operand) (ho : op.op = .store ty x y)
    (b n : Nat) (t : TypeId) (u v : Value) (hx : a.eval x = .pointer (some ⟨b, 0, none⟩)) (hy : a.eval y = v) (hb : Box w b n t u) (hv : Cells n v)
    (hi : (P.info? ty).map (·.size) = some n)
    (h : ∀ w', Box w' b n t v → Outside b (b + 1) w w' → w'.heap.size = w.heap.size → K (a.put op.dst undef) w') : if Region.wanted op (yielded ops a.tmps) = true then Oper.wp P op a w K Q else E := by
  have hw : Region.wanted op (yielded ops a.tmps) = true := by simp [Region.wanted, hgd]
  rw [if_pos hw]
  obtain ⟨cells, rfl, rfl, h1, ht, k1, k2, k3⟩ := hb.put hv
  exact wp_store_mid ty x y ho b 0 cells hx hy ht hi h1 (h _ k1 k2 k3)
end
end Go.Proofs.Ytkgmilobmbeplaa
