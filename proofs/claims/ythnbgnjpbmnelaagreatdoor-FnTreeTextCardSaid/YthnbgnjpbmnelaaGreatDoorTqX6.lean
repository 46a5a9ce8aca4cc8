/- A part of the proof in YthnbgnjpbmnelaaGreatDoorTqX34. -/
import Derived.Deep.Quiet
import Derived.OrdersHeld
import Derived.Test.YthnbgnjpbmnelaaGreatDoorTqX5
namespace Go.Proofs.YthnbgnjpbmnelaaGreatDoor
open List (map_cons)
set_option linter.unusedVariables false
set_option linter.unusedSimpArgs false
set_option maxHeartbeats 1000000
set_option maxRecDepth 100000
open Go.RowKit
section
variable {P : Program} {ops : Array Oper} {rest : List Oper} {o : Oper} {a : Act} {w W : World} {N : Nat} {l : List (Nat × Value)} {s : List Asr}
section
variable {Q : Act → Prop}
theorem Yi {id : Nat} {Q : Exit → Act → World → Prop} {l : List Oper} (hm : P.follows .mixedOrders = true) (hB : Region.lexB .any l.toArray = true) (hS : St W s w)
  (h : wpQuiet P l.toArray (St W s) (fun a' => ∀ w', St W s w' → Q .normal a' w') l a) : (Code.region id l.toArray true).wp P Q a w :=
 wp_region_quiet (C := St W s) hm hB hS.drew (by simpa using h)
end
theorem Zbe (hF : Fr N a l) {xs : Array Operand} {args : Array Value} (hx : xs.toList.mapM (evO l) = some args.toList) : xs.map a.eval = args := by
 have key : ∀ (ys : List Operand) (vs : List Value), ys.mapM (evO l) = some vs → ys.map a.eval = vs := by
  intro ys
  induction ys with
  | nil => intro vs hv; simpa using hv
  | cons y r ih =>
   intro vs hv;rw [List.mapM_cons] at hv
   cases h1 : evO l y with
   | none => rw [h1] at hv; cases hv
   | some v =>
    rw [h1] at hv
    cases h2 : r.mapM (evO l) with
    | none => rw [h2] at hv; cases hv
    | some us =>
     rw [h2] at hv;obtain rfl : v :: us = vs := by simpa using hv
     rw [map_cons, hF.ev h1, ih us h2]
 apply Array.toList_inj.1
 rw [Array.toList_map];exact key _ _ hx
theorem ZgG {f : FuncId} {xs : Array Operand} {ts : Array TypeId} (ho : o.op = .call { callee := .value (.func f), args := xs, argTypes := ts }) (hc : ∀ (args : Array Value) (w : World), (callFunc f args).run P w = .ok (.enter f args) w) : (execOp a.eval o).run P w = .ok (.enter f (xs.map a.eval)) w := by
 unfold execOp;simp only [ho];simp [resolve, Act.eval, go_sem, hc]
section
variable {Q : Act → Prop}
theorem Zm9 (hg : o.guard = none) (hF : Fr N a l) {f : FuncId} {xs : Array Operand} {ts : Array TypeId} (ho : o.op = .call { callee := .value (.func f), args := xs, argTypes := ts }) (hc : ∀ (args : Array Value) (w : World), (callFunc f args).run P w = .ok (.enter f args) w)
  {args : Array Value} (hx : xs.toList.mapM (evO l) = some args.toList) {v : Value} (hR : ∀ w, St W s w → Calls P f args w fun e w' => e = .returned v ∧ Below w.heap.size w w') {d : Nat} (hd : o.dst = some d) (hN : Nat.blt d N = true)
  (h : ∀ a', Fr N a' ((d, v) :: l) → wpQuiet P ops (St W s) Q rest a') : wpQuiet P ops (St W s) Q (o :: rest) a := by
 refine wpQuiet_step fun K hK => ?_;rw [if_pos (J1 hg)];refine ⟨v, fun w hw => ?_, hK _ (hd ▸ h _ (hF.put (Nat.le_of_ble_eq_true hN) v))⟩;unfold Oper.quietAt;rw [ZgG ho hc, Zbe hF hx];exact ⟨rfl, (hR w hw).mono fun e w' ⟨he, hb⟩ => ⟨he, hw.later hb⟩⟩
theorem Zlf (hF : Fr N a l) {g dg d : Nat} {b : Bool} (hgd : o.guard = some (g, b)) (hgo : (ops[g]?).bind (·.dst) = some dg) (hgv : lk l dg = some (.bool b)) {f : FuncId} {xs : Array Operand} {ts : Array TypeId} (ho : o.op = .call { callee := .value (.func f), args := xs, argTypes := ts }) (hc : ∀ (args : Array Value) (w : World), (callFunc f args).run P w = .ok (.enter f args) w)
  {args : Array Value} (hx : xs.toList.mapM (evO l) = some args.toList) {v : Value} (hR : ∀ w, St W s w → Calls P f args w fun e w' => e = .returned v ∧ Below w.heap.size w w') (hd : o.dst = some d) (hN : Nat.blt d N = true)
  (h : ∀ a', Fr N a' ((d, v) :: l) → wpQuiet P ops (St W s) Q rest a') : wpQuiet P ops (St W s) Q (o :: rest) a := by
 refine wpQuiet_step fun K hK => ?_;rw [if_pos (hF.want hgd hgo hgv)];refine ⟨v, fun w hw => ?_, hK _ (hd ▸ h _ (hF.put (Nat.le_of_ble_eq_true hN) v))⟩;unfold Oper.quietAt;rw [ZgG ho hc, Zbe hF hx];exact ⟨rfl, (hR w hw).mono fun e w' ⟨he, hb⟩ => ⟨he, hw.later hb⟩⟩
end
section
variable {Q : Exit → Act → World → Prop}
theorem ZgH (hg : o.guard = none) (hF : Fr N a l) {f : FuncId} {xs : Array Operand} {ts : Array TypeId} (ho : o.op = .call { callee := .value (.func f), args := xs, argTypes := ts }) (hc : ∀ (args : Array Value) (w : World), (callFunc f args).run P w = .ok (.enter f args) w)
  {args : Array Value} (hx : xs.toList.mapM (evO l) = some args.toList) {v : Value} (hR : Calls P f args w fun e w' => e = .returned v ∧ Below w.heap.size w w') {d : Nat} (hd : o.dst = some d) (hN : Nat.blt d N = true) (hS : St W s w)
  (h : ∀ w' a', St W s w' → Fr N a' ((d, v) :: l) → wpList P ops Q rest a' w') : wpList P ops Q (o :: rest) a w :=
 Zi3 hg hF ho hc hx hR hd hN fun _ w' ⟨he, hb⟩ => ⟨v, he, fun a' hF' => h w' a' (hS.later hb) hF'⟩
theorem V1 (hF : Fr N a l) {g dg d : Nat} {b : Bool} (hgd : o.guard = some (g, b)) (hgo : (ops[g]?).bind (·.dst) = some dg) (hgv : lk l dg = some (.bool b)) {f : FuncId} {xs : Array Operand} {ts : Array TypeId} (ho : o.op = .call { callee := .value (.func f), args := xs, argTypes := ts }) (hc : ∀ (args : Array Value) (w : World), (callFunc f args).run P w = .ok (.enter f args) w)
  {args : Array Value} (hx : xs.toList.mapM (evO l) = some args.toList) {v : Value} (hR : Calls P f args w fun e w' => e = .returned v ∧ Below w.heap.size w w') (hd : o.dst = some d) (hN : Nat.blt d N = true) (hS : St W s w)
  (h : ∀ w' a', St W s w' → Fr N a' ((d, v) :: l) → wpList P ops Q rest a' w') : wpList P ops Q (o :: rest) a w := by
 refine wpList_step fun K hK => ?_;rw [if_pos (hF.want hgd hgo hgv)];refine UW f xs ts ho hc ?_;rw [Zbe hF hx];refine hR.mono fun e w' ⟨he, hb⟩ => ?_;exact ⟨v, he, hK _ _ (hd ▸ h w' _ (hS.later hb) (hF.put (Nat.le_of_ble_eq_true hN) v))⟩
end
section
variable {Q : Act → Prop}
theorem UY {id : Nat} {Q : Exit → Act → World → Prop} {l : List Oper} (n : Nat) (hm : P.follows .mixedOrders = true) (hB : Region.lexTailB .any l.toArray n = true) (hS : St W s w)
  (h : ∀ w', St W s w' → wpStill P l.toArray w' (fun a' => wpList P l.toArray Q (l.drop n) a' w') (l.take n) a) : (Code.region id l.toArray true).wp P Q a w :=
 wp_region_still_tail n hm hB (h _ hS.drew)
theorem ZQ (hg : o.guard = none) (hF : Fr N a l) {d : Nat} (hd : o.dst = some d) (hN : Nat.blt d N = true) {v : Value} (hy : Yl P w o a v) (h : ∀ a', Fr N a' ((d, v) :: l) → wpStill P ops w Q rest a') : wpStill P ops w Q (o :: rest) a := by
 refine wpStill_step fun K hK => ?_;rw [if_pos (J1 hg)];unfold Oper.still;rw [show (execOp a.eval o).run P w = _ from hy];exact ⟨rfl, hK _ (hd ▸ h _ (hF.put (Nat.le_of_ble_eq_true hN) v))⟩
end
section
variable {Q : Exit → Act → World → Prop} {fuel : Nat} {listed : Array Bool}
theorem Zlg {id : Nat} {l : List Oper} (hm : P.follows .mixedOrders = true) (hS : St W s w.drew)
  (h : wpAnyH P .any l.toArray Q (St W s) l.length (Array.replicate l.length false) a w.drew) : (Code.region id l.toArray true).wp P Q a w :=
 wp_region_held (S := St W s) hm (by simpa using h)
theorem Zom (i : Nat) (hr : Region.ready .any ops listed = [i]) (h : wpOp P ops Q i (fun a' w' => St W s w' ∧ wpAnyH P .any ops Q (St W s) fuel (listed.setIfInBounds i true) a' w') a w) : wpAnyH P .any ops Q (St W s) (fuel + 1) listed a w := by
 refine wpAnyH_all hr (by simp) fun j hj => ?_;obtain rfl : j = i := by simpa using hj
 exact h
theorem Zon (i k : Nat) (hr : Region.ready .any ops listed = [i, k]) (h : wpOp P ops Q i (fun a' w' => St W s w' ∧ wpAnyH P .any ops Q (St W s) fuel (listed.setIfInBounds i true) a' w') a w) (h2 : wpOp P ops Q k (fun a' w' => St W s w' ∧ wpAnyH P .any ops Q (St W s) fuel (listed.setIfInBounds k true) a' w') a w) : wpAnyH P .any ops Q (St W s) (fuel + 1) listed a w := by
 refine wpAnyH_all hr (by simp) fun j hj => ?_;rcases (by simpa using hj : j = i ∨ j = k) with rfl | rfl
 ·exact h
 ·exact h2
section
variable {oi : Oper} {K : Act → World → Prop}
theorem Vg {i : Nat} (hi : ops[i]? = some oi) (hg : oi.guard = none) (h : oi.wp P a w K Q) : wpOp P ops Q i K a w := by
 unfold wpOp;simp only [hi];rw [if_pos (J1 hg)];exact .inl h
theorem ZcD {i : Nat} (hi : ops[i]? = some oi) (hg : oi.guard = none) {t : TypeId} {x y : Operand} (ho : oi.op = .store t x y) (hd : oi.dst = none) {b n : Nat} {T : TypeId} {u v : Value} (hx : a.eval x = .pointer (some ⟨b, 0, none⟩)) (hy : a.eval y = v) {s2 : List Asr} (hS : St W s2 w) (j : Nat) (hj : s2[j]? = some (boxA b n T u)) (hv : Cells n v) (hn : XH P t n = true)
  (h : ∀ w', St W (s2.set j (boxA b n T v)) w' → K a w') : wpOp P ops Q i K a w := by
 refine Vg hi hg (Zba t x y ho b n T u v hx hy (hS.box j hj) hv (X9 hn).2 fun w' hB hO _ => ?_);rw [hd];exact h w' (hS.putBox j hj hB hO)
theorem ZeS {i : Nat} (hi : ops[i]? = some oi) (hg : oi.guard = none) {t : TypeId} {x y : Operand} (ho : oi.op = .store t x y) (hd : oi.dst = none) {b k n : Nat} {T : TypeId} {A : Array Value} {v : Value} (hx : a.eval x = .pointer (some ⟨b, k, none⟩)) (hy : a.eval y = v) (hs : Yx P t = true) {s2 : List Asr} (hS : St W s2 w) (j : Nat) (hj : s2[j]? = some (boxA b n T (.agg A))) (hk : Nat.blt k A.size = true) (hv : v.oneCell' = true)
  (h : ∀ w', St W (s2.set j (boxA b n T (.agg (A.setIfInBounds k v)))) w' → K a w') : wpOp P ops Q i K a w := by
 have hk : k < A.size := Nat.le_of_ble_eq_true hk;refine Vg hi hg ?_;have hr : (execOp a.eval oi).run P w = .ok .skip (w.setCell ⟨b, k, none⟩ v) := by
  unfold execOp;simp only [ho, hx, hy];simp [Sem.run_bind, ZaB hs ((hS.box j hj).cell k |>.trans (Array.getElem?_eq_getElem hk)) ((hS.box j hj).frozen k) hv]
 unfold Oper.wp;rw [hr];show K (a.put oi.dst undef) _;rw [hd];exact h _ (hS.putField j hj k hv)
theorem Zlh {i : Nat} (hi : ops[i]? = some oi) (hg : oi.guard = none) (hF : Fr N a l) {t : TypeId} (ho : oi.op = .alloc t) {d : Nat} (hd : oi.dst = some d) (hN : Nat.blt d N = true) {Z : List Value} (hZ : ZeP P t = some Z) (h1 : (Z.all fun u => u.oneCell') = true) {s2 : List Asr} (hS2 : St W s2 w) (hS : St W s w)
  (h : ∀ a' w' b, Fr N a' ((d, .pointer (some ⟨b, 0, none⟩)) :: l) → St W (boxA b Z.length t (.agg Z.toArray) :: s2) w' → St W s w' → K a' w') : wpOp P ops Q i K a w := by
 unfold ZeP at hZ
 cases hq : P.info? t with
 | none => rw [hq] at hZ; cases hZ
 | some inf =>
  rw [hq] at hZ;simp only [Option.bind_some] at hZ
  cases hz : inf.zero with
  | none => rw [hz] at hZ; cases hZ
  | some z =>
   rw [hz] at hZ;have hZ : z.cells.toList = Z := by simpa using hZ
   have hr := ZeO (P := P) hq hz w;rw [← Array.toArray_toList (xs := z.cells), hZ] at hr;exact Vg hi hg (ZcA t ho Z.toArray hr (hd ▸ h _ _ _ (hF.put (Nat.le_of_ble_eq_true hN) _) (hS2.alloc Z t h1) (hS.later ((Below.refl _ _).alloc (Nat.le_refl _) _))))
theorem Zi7 {i : Nat} (hi : ops[i]? = some oi) (hg : oi.guard = none) (hF : Fr N a l) {f : FuncId} {xs : Array Operand} {ts : Array TypeId} (ho : oi.op = .call { callee := .value (.func f), args := xs, argTypes := ts }) (hc : ∀ (args : Array Value) (w : World), (callFunc f args).run P w = .ok (.enter f args) w)
  {args : Array Value} (hx : xs.toList.mapM (evO l) = some args.toList) {R : Ending → World → Prop} (hR : Calls P f args w R) {d : Nat} (hd : oi.dst = some d) (hN : Nat.blt d N = true)
  (h : ∀ e w', R e w' → ∃ v, e = .returned v ∧ ∀ a', Fr N a' ((d, v) :: l) → K a' w') : wpOp P ops Q i K a w := by
 refine Vg hi hg (UW f xs ts ho hc ?_);rw [Zbe hF hx];refine hR.mono fun e w' hr => ?_;obtain ⟨v, hv, hk⟩ := h e w' hr;exact ⟨v, hv, hd ▸ hk _ (hF.put (Nat.le_of_ble_eq_true hN) v)⟩
theorem Zli {i : Nat} (hi : ops[i]? = some oi) (hg : oi.guard = none) (hF : Fr N a l) {f : FuncId} {xs : Array Operand} {ts : Array TypeId} (ho : oi.op = .call { callee := .value (.func f), args := xs, argTypes := ts }) (hc : ∀ (args : Array Value) (w : World), (callFunc f args).run P w = .ok (.enter f args) w)
  {args : Array Value} (hx : xs.toList.mapM (evO l) = some args.toList) {v : Value} (hR : Calls P f args w fun e w' => e = .returned v ∧ Below w.heap.size w w') {d : Nat} (hd : oi.dst = some d) (hN : Nat.blt d N = true)
  (h : ∀ w', Below w.heap.size w w' → ∀ a', Fr N a' ((d, v) :: l) → K a' w') : wpOp P ops Q i K a w :=
 Zi7 hi hg hF ho hc hx hR hd hN fun _ w' ⟨he, hb⟩ => ⟨v, he, h w' hb⟩
end
theorem Zna (hr : Region.ready .any ops listed = []) (h : Q .normal a w) : wpAnyH P .any ops Q (St W s) fuel listed a w := wpAnyH_done hr h fuel
end
end
end Go.Proofs.YthnbgnjpbmnelaaGreatDoor
