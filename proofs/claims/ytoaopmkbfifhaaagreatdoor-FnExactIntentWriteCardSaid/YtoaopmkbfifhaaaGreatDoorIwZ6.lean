/- A part of the proof in YtoaopmkbfifhaaaGreatDoorIwZ22. -/
import Derived.ArgAppend
import Derived.BigQuiet
import Derived.BigRegion
import Derived.Deep.MidRow
import Derived.Deep.Quiet
import Derived.Deep.QuietTactic
import Derived.Deep.RegionWith
import Derived.IntWalk
import Derived.Lib.Hide
import Derived.Lib.LazyBuf
import Derived.Orders
import Derived.OrdersHeld
import Derived.Still
import Derived.StillTail
import Derived.StillTailTactics
import Derived.Test.YtoaopmkbfifhaaaGreatDoorRows
import Derived.WalkKit
import Derived.WalkLawsBesides
import Derived.WalkSpells
import Derived.Test.YtoaopmkbfifhaaaGreatDoorIwZ5
/- Operations of regions that draw their order, over a frame of which some slots are known. No program in sight. -/
namespace Go.Proofs.YtoaopmkbfifhaaaGreatDoor
set_option linter.unusedVariables false
set_option linter.unusedSimpArgs false
set_option maxHeartbeats 1000000
set_option maxRecDepth 100000
open Go.RowKit

section
variable {P : Program} {ops : Array Oper} {rest : List Oper} {o : Oper} {a : Act} {w W : World} {N : Nat} {l : List (Nat × Value)} {s : List Asr}

/-! ### Reads and calls that keep what lies there -/
section
variable {Q : Act → Prop}
theorem wr_quiet {id : Nat} {Q : Exit → Act → World → Prop} {l : List Oper} (hm : P.follows .mixedOrders = true) (hB : Region.lexB .any l.toArray = true) (hS : St W s w)
    (h : wpQuiet P l.toArray (St W s) (fun a' => ∀ w', St W s w' → Q .normal a' w') l a) : (Code.region id l.toArray true).wp P Q a w :=
  wp_region_quiet (C := St W s) hm hB hS.drew (by simpa using h)
theorem wq_y (hg : o.guard = none) (hF : Fr N a l) {d : Nat} (hd : o.dst = some d) (hN : Nat.blt d N = true) {v : Value} (hy : ∀ w, St W s w → Yl P w o a v) (h : ∀ a', Fr N a' ((d, v) :: l) → wpQuiet P ops (St W s) Q rest a') : wpQuiet P ops (St W s) Q (o :: rest) a := by
  refine wpQuiet_step fun K hK => ?_
  rw [if_pos (wanted_none hg)]
  refine ⟨v, fun w hw => ?_, hK _ (hd ▸ h _ (hF.put (Nat.le_of_ble_eq_true hN) v))⟩
  unfold Oper.quietAt
  rw [show (execOp a.eval o).run P w = _ from hy w hw]
  exact ⟨rfl, rfl⟩
end
theorem args_of (hF : Fr N a l) {xs : Array Operand} {args : Array Value} (hx : xs.toList.mapM (evO l) = some args.toList) : xs.map a.eval = args := by
  have key : ∀ (ys : List Operand) (vs : List Value), ys.mapM (evO l) = some vs → ys.map a.eval = vs := by
    intro ys
    induction ys with
    | nil => intro vs hv; simpa using hv
    | cons y r ih =>
      intro vs hv
      rw [List.mapM_cons] at hv
      cases h1 : evO l y with
      | none => rw [h1] at hv; cases hv
      | some v =>
        rw [h1] at hv
        cases h2 : r.mapM (evO l) with
        | none => rw [h2] at hv; cases hv
        | some us =>
          rw [h2] at hv
          obtain rfl : v :: us = vs := by simpa using hv
          rw [List.map_cons, hF.ev h1, ih us h2]
  apply Array.toList_inj.1
  rw [Array.toList_map]
  exact key _ _ hx
theorem run_call {f : FuncId} {xs : Array Operand} {ts : Array TypeId} (ho : o.op = .call { callee := .value (.func f), args := xs, argTypes := ts }) (hc : ∀ (args : Array Value) (w : World), (callFunc f args).run P w = .ok (.enter f args) w) : (execOp a.eval o).run P w = .ok (.enter f (xs.map a.eval)) w := by
  unfold execOp
  simp only [ho]
  simp [resolve, Act.eval, go_sem, hc]
section
variable {Q : Act → Prop}
theorem wq_call (hg : o.guard = none) (hF : Fr N a l) {f : FuncId} {xs : Array Operand} {ts : Array TypeId} (ho : o.op = .call { callee := .value (.func f), args := xs, argTypes := ts }) (hc : ∀ (args : Array Value) (w : World), (callFunc f args).run P w = .ok (.enter f args) w)
    {args : Array Value} (hx : xs.toList.mapM (evO l) = some args.toList) {v : Value} (hR : ∀ w, St W s w → Calls P f args w fun e w' => e = .returned v ∧ Below w.heap.size w w') {d : Nat} (hd : o.dst = some d) (hN : Nat.blt d N = true)
    (h : ∀ a', Fr N a' ((d, v) :: l) → wpQuiet P ops (St W s) Q rest a') : wpQuiet P ops (St W s) Q (o :: rest) a := by
  refine wpQuiet_step fun K hK => ?_
  rw [if_pos (wanted_none hg)]
  refine ⟨v, fun w hw => ?_, hK _ (hd ▸ h _ (hF.put (Nat.le_of_ble_eq_true hN) v))⟩
  unfold Oper.quietAt
  rw [run_call ho hc, args_of hF hx]
  exact ⟨rfl, (hR w hw).mono fun e w' ⟨he, hb⟩ => ⟨he, hw.later hb⟩⟩
end

section
variable {Q : Exit → Act → World → Prop}
theorem wl_callB (hg : o.guard = none) (hF : Fr N a l) {f : FuncId} {xs : Array Operand} {ts : Array TypeId} (ho : o.op = .call { callee := .value (.func f), args := xs, argTypes := ts }) (hc : ∀ (args : Array Value) (w : World), (callFunc f args).run P w = .ok (.enter f args) w)
    {args : Array Value} (hx : xs.toList.mapM (evO l) = some args.toList) {v : Value} (hR : Calls P f args w fun e w' => e = .returned v ∧ Below w.heap.size w w') {d : Nat} (hd : o.dst = some d) (hN : Nat.blt d N = true) (hS : St W s w)
    (h : ∀ w' a', St W s w' → Fr N a' ((d, v) :: l) → wpList P ops Q rest a' w') : wpList P ops Q (o :: rest) a w :=
  wl_call hg hF ho hc hx hR hd hN fun _ w' ⟨he, hb⟩ => ⟨v, he, fun a' hF' => h w' a' (hS.later hb) hF'⟩
theorem wl_callBg (hF : Fr N a l) {g dg d : Nat} {b : Bool} (hgd : o.guard = some (g, b)) (hgo : (ops[g]?).bind (·.dst) = some dg) (hgv : lk l dg = some (.bool b)) {f : FuncId} {xs : Array Operand} {ts : Array TypeId} (ho : o.op = .call { callee := .value (.func f), args := xs, argTypes := ts }) (hc : ∀ (args : Array Value) (w : World), (callFunc f args).run P w = .ok (.enter f args) w)
    {args : Array Value} (hx : xs.toList.mapM (evO l) = some args.toList) {v : Value} (hR : Calls P f args w fun e w' => e = .returned v ∧ Below w.heap.size w w') (hd : o.dst = some d) (hN : Nat.blt d N = true) (hS : St W s w)
    (h : ∀ w' a', St W s w' → Fr N a' ((d, v) :: l) → wpList P ops Q rest a' w') : wpList P ops Q (o :: rest) a w := by
  refine wpList_step fun K hK => ?_
  rw [if_pos (hF.want hgd hgo hgv)]
  refine wp_call_fn f xs ts ho hc ?_
  rw [args_of hF hx]
  refine hR.mono fun e w' ⟨he, hb⟩ => ?_
  exact ⟨v, he, hK _ _ (hd ▸ h w' _ (hS.later hb) (hF.put (Nat.le_of_ble_eq_true hN) v))⟩
end

/-! ### Reads, and writes behind them -/

/-! ### Reads, and calls that make memory -/
section
variable {Q : Exit → Act → World → Prop} {fuel : Nat} {listed : Array Bool}
theorem wr_heldS {id : Nat} {l : List Oper} (hm : P.follows .mixedOrders = true) (hS : St W s w.drew)
    (h : wpAnyH P .any l.toArray Q (St W s) l.length (Array.replicate l.length false) a w.drew) : (Code.region id l.toArray true).wp P Q a w :=
  wp_region_held (S := St W s) hm (by simpa using h)
theorem wh_y {oi : Oper} (i : Nat) (hi : ops[i]? = some oi) (hs : Region.noSelect ops = true) (hf : Region.free .any ops listed i = true) (hr : (Region.ready .any ops listed).contains i = true) {v : Value} (hQ : ∀ c a w, Q (.panic c) (a.put oi.dst v) w → Q (.panic c) a w)
    (hg : oi.guard = none) (hF : Fr N a l) {d : Nat} (hd : oi.dst = some d) (hN : Nat.blt d N = true) (hy : ∀ w, St W s w → Yl P w oi a v) (hS : St W s w) (h : ∀ a', Fr N a' ((d, v) :: l) → wpAnyH P .any ops Q (St W s) fuel (listed.setIfInBounds i true) a' w) : wpAnyH P .any ops Q (St W s) (fuel + 1) listed a w :=
  wpAnyH_take hi hs hf hr hQ (.inl ⟨wanted_none hg, hy⟩) hS (hd ▸ h _ (hF.put (Nat.le_of_ble_eq_true hN) v))
theorem wh_one (i : Nat) (hr : Region.ready .any ops listed = [i]) (h : wpOp P ops Q i (fun a' w' => St W s w' ∧ wpAnyH P .any ops Q (St W s) fuel (listed.setIfInBounds i true) a' w') a w) : wpAnyH P .any ops Q (St W s) (fuel + 1) listed a w := by
  refine wpAnyH_all hr (by simp) fun j hj => ?_
  obtain rfl : j = i := by simpa using hj
  exact h
theorem wh_two (i k : Nat) (hr : Region.ready .any ops listed = [i, k]) (h : wpOp P ops Q i (fun a' w' => St W s w' ∧ wpAnyH P .any ops Q (St W s) fuel (listed.setIfInBounds i true) a' w') a w) (h2 : wpOp P ops Q k (fun a' w' => St W s w' ∧ wpAnyH P .any ops Q (St W s) fuel (listed.setIfInBounds k true) a' w') a w) : wpAnyH P .any ops Q (St W s) (fuel + 1) listed a w := by
  refine wpAnyH_all hr (by simp) fun j hj => ?_
  rcases (by simpa using hj : j = i ∨ j = k) with rfl | rfl
  · exact h
  · exact h2
section
variable {oi : Oper} {K : Act → World → Prop}
theorem wo_of {i : Nat} (hi : ops[i]? = some oi) (hg : oi.guard = none) (h : oi.wp P a w K Q) : wpOp P ops Q i K a w := by
  unfold wpOp
  simp only [hi]
  rw [if_pos (wanted_none hg)]
  exact .inl h
theorem wo_storeBox {i : Nat} (hi : ops[i]? = some oi) (hg : oi.guard = none) {t : TypeId} {x y : Operand} (ho : oi.op = .store t x y) (hd : oi.dst = none) {b n : Nat} {T : TypeId} {u v : Value} (hx : a.eval x = .pointer (some ⟨b, 0, none⟩)) (hy : a.eval y = v) {s2 : List Asr} (hS : St W s2 w) (j : Nat) (hj : s2[j]? = some (boxA b n T u)) (hv : Cells n v) (hn : rowOf? P t n = true)
    (h : ∀ w', St W (s2.set j (boxA b n T v)) w' → K a w') : wpOp P ops Q i K a w := by
  refine wo_of hi hg (wp_store_box t x y ho b n T u v hx hy (hS.box j hj) hv (rowOf_spec hn).2 fun w' hB hO _ => ?_)
  rw [hd]
  exact h w' (hS.putBox j hj hB hO)
theorem wo_storeF {i : Nat} (hi : ops[i]? = some oi) (hg : oi.guard = none) {t : TypeId} {x y : Operand} (ho : oi.op = .store t x y) (hd : oi.dst = none) {b k n : Nat} {T : TypeId} {A : Array Value} {v : Value} (hx : a.eval x = .pointer (some ⟨b, k, none⟩)) (hy : a.eval y = v) (hs : scalar? P t = true) {s2 : List Asr} (hS : St W s2 w) (j : Nat) (hj : s2[j]? = some (boxA b n T (.agg A))) (hk : Nat.blt k A.size = true) (hv : v.oneCell' = true)
    (h : ∀ w', St W (s2.set j (boxA b n T (.agg (A.setIfInBounds k v)))) w' → K a w') : wpOp P ops Q i K a w := by
  have hk : k < A.size := Nat.le_of_ble_eq_true hk
  refine wo_of hi hg ?_
  have hr : (execOp a.eval oi).run P w = .ok .skip (w.setCell ⟨b, k, none⟩ v) := by
    unfold execOp
    simp only [ho, hx, hy]
    simp [Sem.run_bind, run_store1 hs ((hS.box j hj).cell k |>.trans (Array.getElem?_eq_getElem hk)) ((hS.box j hj).frozen k) hv]
  unfold Oper.wp
  rw [hr]
  show K (a.put oi.dst undef) _
  rw [hd]
  exact h _ (hS.putField j hj k hv)
theorem wo_alloc {i : Nat} (hi : ops[i]? = some oi) (hg : oi.guard = none) (hF : Fr N a l) {t : TypeId} (ho : oi.op = .alloc t) {d : Nat} (hd : oi.dst = some d) (hN : Nat.blt d N = true) {Z : List Value} (hZ : zero? P t = some Z) (h1 : (Z.all fun u => u.oneCell') = true) {s2 : List Asr} (hS2 : St W s2 w) (hS : St W s w)
    (h : ∀ a' w' b, Fr N a' ((d, .pointer (some ⟨b, 0, none⟩)) :: l) → St W (boxA b Z.length t (.agg Z.toArray) :: s2) w' → St W s w' → K a' w') : wpOp P ops Q i K a w := by
  unfold zero? at hZ
  cases hq : P.info? t with
  | none => rw [hq] at hZ; cases hZ
  | some inf =>
    rw [hq] at hZ
    simp only [Option.bind_some] at hZ
    cases hz : inf.zero with
    | none => rw [hz] at hZ; cases hZ
    | some z =>
      rw [hz] at hZ
      have hZ : z.cells.toList = Z := by simpa using hZ
      have hr := run_alloc (P := P) hq hz w
      rw [← Array.toArray_toList (xs := z.cells), hZ] at hr
      exact wo_of hi hg (wp_alloc_op t ho Z.toArray hr (hd ▸ h _ _ _ (hF.put (Nat.le_of_ble_eq_true hN) _) (hS2.alloc Z t h1) (hS.later ((Below.refl _ _).alloc (Nat.le_refl _) _))))
theorem wo_call {i : Nat} (hi : ops[i]? = some oi) (hg : oi.guard = none) (hF : Fr N a l) {f : FuncId} {xs : Array Operand} {ts : Array TypeId} (ho : oi.op = .call { callee := .value (.func f), args := xs, argTypes := ts }) (hc : ∀ (args : Array Value) (w : World), (callFunc f args).run P w = .ok (.enter f args) w)
    {args : Array Value} (hx : xs.toList.mapM (evO l) = some args.toList) {R : Ending → World → Prop} (hR : Calls P f args w R) {d : Nat} (hd : oi.dst = some d) (hN : Nat.blt d N = true)
    (h : ∀ e w', R e w' → ∃ v, e = .returned v ∧ ∀ a', Fr N a' ((d, v) :: l) → K a' w') : wpOp P ops Q i K a w := by
  refine wo_of hi hg (wp_call_fn f xs ts ho hc ?_)
  rw [args_of hF hx]
  refine hR.mono fun e w' hr => ?_
  obtain ⟨v, hv, hk⟩ := h e w' hr
  exact ⟨v, hv, hd ▸ hk _ (hF.put (Nat.le_of_ble_eq_true hN) v)⟩
theorem wo_callB {i : Nat} (hi : ops[i]? = some oi) (hg : oi.guard = none) (hF : Fr N a l) {f : FuncId} {xs : Array Operand} {ts : Array TypeId} (ho : oi.op = .call { callee := .value (.func f), args := xs, argTypes := ts }) (hc : ∀ (args : Array Value) (w : World), (callFunc f args).run P w = .ok (.enter f args) w)
    {args : Array Value} (hx : xs.toList.mapM (evO l) = some args.toList) {v : Value} (hR : Calls P f args w fun e w' => e = .returned v ∧ Below w.heap.size w w') {d : Nat} (hd : oi.dst = some d) (hN : Nat.blt d N = true)
    (h : ∀ w', Below w.heap.size w w' → ∀ a', Fr N a' ((d, v) :: l) → K a' w') : wpOp P ops Q i K a w :=
  wo_call hi hg hF ho hc hx hR hd hN fun _ w' ⟨he, hb⟩ => ⟨v, he, h w' hb⟩
end
theorem wh_done (hr : Region.ready .any ops listed = []) (h : Q .normal a w) : wpAnyH P .any ops Q (St W s) fuel listed a w := wpAnyH_done hr h fuel
end
end
end Go.Proofs.YtoaopmkbfifhaaaGreatDoor

/- Steps that often follow each other. -/
namespace Go.Proofs.YtoaopmkbfifhaaaGreatDoor
set_option linter.unusedVariables false
set_option linter.unusedSimpArgs false
set_option maxHeartbeats 1000000
set_option maxRecDepth 100000
open Go.RowKit
section
variable {P : Program} {ops : Array Oper} {Q : Exit → Act → World → Prop} {K : Act → World → Prop} {rest : List Oper} {o : Oper} {a : Act} {w : World} {N : Nat} {l : List (Nat × Value)}
theorem wp_sr {id : Nat} {l : List Oper} {y : Code} (h : wpList P l.toArray (Exit.then (y.wp P Q) Q) l a w) : (Code.seq (Code.region id l.toArray false) y).wp P Q a w := wp_seq (wp_region_lit h)
theorem wl_ne (h : K a w) : wpList P ops (Exit.then K Q) [] a w := wpList_nil (ex_then h)
theorem wl_mv (hF : Fr N a l) (hg : o.guard = none) {d : Nat} (hd : o.dst = some d) (hN : Nat.blt d N = true) {x : Operand} (ho : o.op = .move x) {v : Value} (hx : evO l x = some v) (h : ∀ a', Fr N a' ((d, v) :: l) → wpList P ops Q rest a' w) : wpList P ops Q (o :: rest) a w := wl_y hg hF hd hN (yl_move ho (hF.ev hx)) h
theorem wl_as (hF : Fr N a l) (hg : o.guard = none) {d : Nat} (hd : o.dst = some d) (hN : Nat.blt d N = true) {x : Operand} (ho : o.op = .assign x) {v : Value} (hx : evO l x = some v) (h : ∀ a', Fr N a' ((d, v) :: l) → wpList P ops Q rest a' w) : wpList P ops Q (o :: rest) a w := wl_y hg hF hd hN (yl_assign ho (hF.ev hx)) h
end
end Go.Proofs.YtoaopmkbfifhaaaGreatDoor

/- The laws' helpers over waiting writes. -/
namespace Go.Proofs.YtoaopmkbfifhaaaGreatDoor
set_option linter.unusedVariables false
set_option linter.unusedSimpArgs false
set_option maxHeartbeats 1000000
set_option maxRecDepth 100000
open Go.RowKit

structure WaitD where
  fAt : Int
  fText : ByteArray
def WaitD.cells (x : WaitD) : List Value := [.int .i64 x.fAt, .string x.fText]
theorem WaitD.cells_len (x : WaitD) : x.cells.length = 2 := rfl
theorem WaitD.at_ {w : World} {b o : Nat} {x : WaitD} (h : w.rangeAt b o x.cells) :
    w.cell? ⟨b, o, none⟩ = some (.int .i64 x.fAt) ∧ w.cell? ⟨b, o + 1, none⟩ = some (.string x.fText) :=
  ⟨h 0 _ rfl, h 1 _ rfl⟩

def WaitD.bulk (x : WaitD) : Nat := x.fText.size
theorem szWait_any (x : WaitD) (l : Int) (w : World) (hl0 : 0 ≤ l) (hl1 : l ≤ 1048576) (hs0 : x.fText.size ≤ 9223372036854775807) :
    Calls Tryz.prog 150 #[.agg #[.int .i64 x.fAt, .string x.fText], .int .i64 l] w fun e w' => e = .returned (.int .i64 (leftOf l x.bulk)) ∧ Below w.heap.size w w' := by
  by_cases h0 : l < (x.fText.size : Nat)
  · have H := Lib.hid (leftOf_no (l := l) (n := x.bulk) (by simp only [WaitD.bulk]; omega))
    go_enter Tryz.func150, Tryz.ntmps150
    go_wp2
    go_ret
    exact ⟨ret_int H.out.symm, (Below.refl _ _).alloc (Nat.le_refl _) _⟩
  have H := Lib.hid (leftOf_yes (l := l) (n := x.bulk) (by simp only [WaitD.bulk]; omega))
  go_enter Tryz.func150, Tryz.ntmps150
  go_wp2
  go_ret
  exact ⟨ret_int (by rw [H.out]; simp only [WaitD.bulk]; try omega), (Below.refl _ _).alloc (Nat.le_refl _) _⟩
theorem toWait_any (x : WaitD) (w : World) :
    Calls Tryz.prog 151 #[.agg #[.int .i64 x.fAt, .string x.fText]] w fun e w' => e = .returned (.agg #[.int .i64 x.fAt, .string x.fText]) ∧ Below w.heap.size w w' := by
  go_enter Tryz.func151, Tryz.ntmps151
  go_wp2
  refine bodyPost_ret (v := .agg #[.int .i64 x.fAt, .string x.fText]) (by simp [results, Tryz.results151, go_sem]) rfl ⟨rfl, ?_⟩
  exact (((Below.refl _ _).alloc (Nat.le_refl _) _).alloc (by simp) _).alloc (by simp; omega) _
theorem eqWait_yes (x : WaitD) (w : World) :
    Calls Tryz.prog 160 #[.agg #[.int .i64 x.fAt, .string x.fText], .agg #[.int .i64 x.fAt, .string x.fText]] w fun e w' => e = .returned (.bool true) ∧ Below w.heap.size w w' := by
  go_enter Tryz.func160, Tryz.ntmps160
  go_wp2
  go_ret
  exact ⟨rfl, ((Below.refl _ _).alloc (Nat.le_refl _) _).alloc (by simp) _⟩
theorem szWaitS_any (ao : Option Addr) (len cap : Nat) (xs : List WaitD) (l : Int) (w : World) (hl0 : 0 ≤ l) (hl1 : l ≤ 1048576) (hlen : len ≤ 9223372036854775807) (hr : Rd WaitD.cells 2 w ao len xs) (hs : ∀ x ∈ xs, x.fText.size ≤ 9223372036854775807) :
    Calls Tryz.prog 107 #[.slice ao len cap, .int .i64 l] w fun e w' => e = .returned (.int .i64 (leftOf l (len + tot WaitD.bulk xs))) ∧ Below w.heap.size w w' := by
  by_cases hln : l < len
  · rw [leftOf_no (by omega)]
    go_enter Tryz.func107, Tryz.ntmps107
    go_wp2
    go_ret
    exact ⟨rfl, Below.refl _ _⟩
  · go_enter Tryz.func107, Tryz.ntmps107
    go_wp2
    go_loopw [1,5] (fun l' i wr => ∃ k : Nat, k ≤ len ∧ i = .int .i64 k ∧ (len + tot WaitD.bulk (xs.take k) : Nat) ≤ l ∧ l' = .int .i64 (l - (len + tot WaitD.bulk (xs.take k) : Nat)) ∧ Below w.heap.size w wr) (fun _ i _ => len - (intOf i).toNat)
    case atStart => exact ⟨0, Nat.zero_le _, rfl, by simp [tot]; omega, by simp [tot], Below.refl _ _⟩
    case round =>
      obtain ⟨k, hk, rfl, hle, rfl, hb⟩ := hrel
      by_cases hlt : k < len
      · have hkx : k < xs.length := by rw [hr.len]; exact hlt
        obtain ⟨b, off, x, hx0, rfl, hbl, hrg⟩ := hr.at_ k hkx
        obtain ⟨c0, c1⟩ := WaitD.at_ (rangeAt_below hrg hb hbl)
        have hsk0 := hs _ (List.mem_of_getElem? hx0)
        have H1 := Lib.hid (tot_take WaitD.bulk xs k hx0)
        clear hx0
        have hle2 := tot_take_le WaitD.bulk xs (k + 1)
        have hcall := szWait_any x (l - (len + tot WaitD.bulk (xs.take k) : Nat)) wr (by omega) (by omega) hsk0
        by_cases hc : l - (len + tot WaitD.bulk (xs.take k) : Nat) < (x.bulk : Nat)
        · rw [leftOf_no hc] at hcall
          have HC := Lib.hid hcall
          clear hcall
          go_wp2_with fail
          refine HC.out.mono ?_
          rintro e w' ⟨rfl, hb'⟩
          go_wp2
          go_ret
          exact ⟨ret_int (by rw [leftOf_no (by have := H1.out; omega)]), hb.trans (hb'.mono hb.size)⟩
        · rw [leftOf_yes (by omega)] at hcall
          have HC := Lib.hid hcall
          clear hcall
          go_wp2_with fail
          refine HC.out.mono ?_
          rintro e w' ⟨rfl, hb'⟩
          go_wp2
          go_roundw
          case rel => exact ⟨k + 1, by omega, by go_num, by rw [H1.out]; omega, by rw [H1.out]; congr 1; omega, hb.trans (hb'.mono hb.size)⟩
          case measure => simp [intOf]; omega
      · have hk' : k = len := by omega
        subst hk'
        have ht := Lib.hid (List.take_of_length_le (l := xs) (i := k) (by rw [hr.len]; exact Nat.le_refl _))
        rw [ht.out] at hle
        go_wp2
        go_ret
        rw [ht.out]
        exact ⟨ret_int (by rw [leftOf_yes hle]), hb⟩

theorem Tryz.infoWaitS : (Tryz.prog.info? 137).map (fun i => (i.zero, i.size, i.bytes)) = some (some (.agg #[.int .i64 0, .string ByteArray.empty]), 2, 24) := by kernel_rfl
theorem toWaitS_any (ao : Option Addr) (len cap : Nat) (xs : List WaitD) (w : World) (hlen : len ≤ 1048576) (hr : Rd WaitD.cells 2 w ao len xs) :
    Calls Tryz.prog 115 #[.slice ao len cap] w fun e w' => e = .returned (.slice (some ⟨w.heap.size, 0, none⟩) len len) ∧ w'.ownsRow w.heap.size 137 2 (.slice (some ⟨w.heap.size, 0, none⟩) len len) xs.length (xs.flatMap WaitD.cells) ∧ Below w.heap.size w w' := by
  obtain ⟨i0, hi, hz0, hz1, hz2⟩ := info_parts Tryz.infoWaitS
  go_enter Tryz.func115, Tryz.ntmps115
  go_wp2_with (refine wpList_make_full _ rfl (.tmp 6) (.tmp 6) 92 rfl w.heap.size 137 i0 _ 2 Tryz.underlying92 hi hz0 hz1 .i64 .i64 _ _ len rfl rfl rfl rfl ?b2 ?b3 ?b4 ?_)
  case b2 => rw [hz2]; omega
  case b3 => unfold maxLen; omega
  case b4 => exact Nat.le_refl _
  intro w1 hown hg
  have hb0 : Below w.heap.size w w1 := (Below.refl _ _).grown hg (Nat.le_refl _) (by simp)
  have hs1 : w.heap.size + 1 ≤ w1.heap.size := (hown.lt w.heap.size (by simp [Value.ownBlock])).2
  have hfill := Fill.start (xs := xs) (enc := WaitD.cells) hown
  clear hown
  go_wp2
  go_loopw [4] (fun i wr => ∃ k : Nat, k ≤ len ∧ i = .int .i64 k ∧ Fill WaitD.cells 2 w.heap.size 137 wr w.heap.size len xs k ∧ Below w.heap.size w wr ∧ w.heap.size + 1 ≤ wr.heap.size) (fun i _ => len - (intOf i).toNat)
  case atStart => exact ⟨0, Nat.zero_le _, rfl, hfill, hb0, hs1⟩
  case round =>
    obtain ⟨k, hk, rfl, hf, hb, hsz⟩ := hrel
    by_cases hlt : k < len
    · have hkx : k < xs.length := by rw [hr.len]; exact hlt
      obtain ⟨b, off, x, hx0, rfl, hbl, hrg⟩ := hr.at_ k hkx
      obtain ⟨c0, c1⟩ := WaitD.at_ (rangeAt_below hrg hb hbl)
      have hx := Lib.hid hx0
      clear hx0
      go_wp2_with fail
      refine (toWait_any x _).mono ?_
      rintro e w2 ⟨rfl, hb2⟩
      have hf2 := hf.below hb2 (Nat.le_refl _)
      have ht2 := Fill.there WaitD.cells_len hf2 hr.len hlt
      obtain ⟨hf3, hg3⟩ := Fill.step WaitD.cells_len hf2 hr.len hx.out
      go_wp2_with (refine wpList_store_mid rfl 137 (.tmp 21) (.tmp 20) rfl w.heap.size (k * 2) _ rfl rfl ?c0 ?c1 ?c2 ?_)
      case c0 => exact ht2
      case c1 => kernel_rfl
      case c2 => simp [Value.oneCell']
      go_roundw
      case rel => exact ⟨k + 1, by omega, by go_num, hf3, (hb.trans (hb2.mono hb.size)).grown hg3 (by have := hb2.size; omega) (by intro j hj; cases hj; exact Nat.le_refl _), by have h3 := hg3.size; simp only [WaitD.cells] at h3; have := hb2.size; omega⟩
      case measure => simp [intOf]; omega
    · have hk' : k = len := by omega
      subst hk'
      go_wp2
      go_ret
      exact ⟨rfl, Fill.done hf hr.len, hb⟩

theorem eqWaitS_yes (ao bo : Option Addr) (len cap cap2 : Nat) (xs : List WaitD) (w : World) (hlen : len ≤ 1048576) (hr : Rd WaitD.cells 2 w ao len xs) (hr2 : Rd WaitD.cells 2 w bo len xs) :
    Calls Tryz.prog 130 #[.slice ao len cap, .slice bo len cap2] w fun e w' => e = .returned (.bool true) ∧ Below w.heap.size w w' := by
  go_enter Tryz.func130, Tryz.ntmps130
  go_wp2
  go_loopw [5] (fun i wr => ∃ k : Nat, k ≤ len ∧ i = .int .i64 k ∧ Below w.heap.size w wr) (fun i _ => len - (intOf i).toNat)
  case atStart => exact ⟨0, Nat.zero_le _, rfl, Below.refl _ _⟩
  case round =>
    obtain ⟨k, hk, rfl, hb⟩ := hrel
    by_cases hlt : k < len
    · have hkx : k < xs.length := by rw [hr.len]; exact hlt
      obtain ⟨b, off, x, hx0, rfl, hbl, hrg⟩ := hr.at_ k hkx
      obtain ⟨c0, c1⟩ := WaitD.at_ (rangeAt_below hrg hb hbl)
      obtain ⟨b2, off2, x2, hx2, rfl, hbl2, hrg2⟩ := hr2.at_ k hkx
      obtain rfl : x = x2 := Option.some.inj (hx0.symm.trans hx2)
      obtain ⟨d0, d1⟩ := WaitD.at_ (rangeAt_below hrg2 hb hbl2)
      clear hx0 hx2
      go_wp2_with fail
      go_still_tail 8, (by kernel_rfl)
      change wpList _ _ _ _ _ wr.drew
      have hb1 := hb.drew
      have hsz := hb1.size
      generalize wr.drew = w1 at hb1 hsz ⊢
      go_wp2_with fail
      refine (eqWait_yes x _).mono ?_
      rintro e w2 ⟨rfl, hb2⟩
      go_wp2
      go_roundw
      case rel => exact ⟨k + 1, by omega, by go_num, hb1.trans (hb2.mono hsz)⟩
      case measure => simp [intOf]; omega
    · go_wp2
      go_ret
      exact ⟨rfl, hb⟩

end Go.Proofs.YtoaopmkbfifhaaaGreatDoor

/- The laws' helpers over disks. -/
namespace Go.Proofs.YtoaopmkbfifhaaaGreatDoor
set_option linter.unusedVariables false
set_option linter.unusedSimpArgs false
set_option maxHeartbeats 1000000
set_option maxRecDepth 100000
open Go.RowKit

structure DiskD where
  fCells : List ByteArray
  fWaits : List WaitD
  fGone : Bool
def DiskD.Reads (w : World) (v : Value) (x : DiskD) : Prop := ∃ (a0 : Option Addr) (c0 : Nat) (a1 : Option Addr) (c1 : Nat), v = .agg #[.slice a0 x.fCells.length c0, .slice a1 x.fWaits.length c1, .bool x.fGone] ∧ Rd encS 1 w a0 x.fCells.length x.fCells ∧ Rd WaitD.cells 2 w a1 x.fWaits.length x.fWaits
def DiskD.Own (w : World) (B B1 : Nat) (v : Value) (x : DiskD) : Prop := ∃ (a0 : Option Addr) (c0 : Nat) (a1 : Option Addr) (c1 : Nat), v = .agg #[.slice a0 x.fCells.length c0, .slice a1 x.fWaits.length c1, .bool x.fGone] ∧ RowO encS 1 9 w B B1 (.slice a0 x.fCells.length c0) x.fCells ∧ RowO WaitD.cells 2 137 w B B1 (.slice a1 x.fWaits.length c1) x.fWaits ∧ Apart (.slice a0 x.fCells.length c0) (.slice a1 x.fWaits.length c1)
theorem DiskD.Reads.below {w w' : World} {v : Value} {x : DiskD} (h : DiskD.Reads w v x) (hb : Below w.heap.size w w') : DiskD.Reads w' v x := by
  obtain ⟨a0, c0, a1, c1, rfl, r0, r1⟩ := h
  exact ⟨a0, c0, a1, c1, rfl, r0.below hb, r1.below hb⟩
theorem DiskD.Own.rd {w : World} {B B1 : Nat} {v : Value} {x : DiskD} (h : DiskD.Own w B B1 v x) : DiskD.Reads w v x := by
  obtain ⟨a0, c0, a1, c1, rfl, r0, r1, p0_1⟩ := h
  obtain ⟨u0, e0, k0, d0⟩ := r0.rd encS_len
  simp only [Value.slice.injEq, true_and] at k0
  obtain ⟨rfl, rfl⟩ := k0
  obtain ⟨u1, e1, k1, d1⟩ := r1.rd WaitD.cells_len
  simp only [Value.slice.injEq, true_and] at k1
  obtain ⟨rfl, rfl⟩ := k1
  exact ⟨_, _, _, _, rfl, d0, d1⟩
theorem DiskD.Own.below {w : World} {B B1 : Nat} {v : Value} {x : DiskD} (h : DiskD.Own w B B1 v x) {w' : World} {C : Nat} (hb : Below C w w') (hC : w.heap.size ≤ C) : DiskD.Own w' B B1 v x := by
  obtain ⟨a0, c0, a1, c1, rfl, r0, r1, p0_1⟩ := h
  exact ⟨a0, c0, a1, c1, rfl, r0.below hb hC, r1.below hb hC, p0_1⟩
theorem DiskD.Own.mono {w : World} {B B1 : Nat} {v : Value} {x : DiskD} (h : DiskD.Own w B B1 v x) {B' B1' : Nat} (hB : B' ≤ B) (hB1 : B1 ≤ B1') : DiskD.Own w B' B1' v x := by
  obtain ⟨a0, c0, a1, c1, rfl, r0, r1, p0_1⟩ := h
  exact ⟨a0, c0, a1, c1, rfl, r0.mono hB hB1, r1.mono hB hB1, p0_1⟩
theorem DiskD.Own.set {w : World} {B B1 : Nat} {v : Value} {x : DiskD} (h : DiskD.Own w B B1 v x) {p : Addr} (hp : p.block < B) (u : Value) : DiskD.Own (w.setCell p u) B B1 v x := by
  obtain ⟨a0, c0, a1, c1, rfl, r0, r1, p0_1⟩ := h
  exact ⟨a0, c0, a1, c1, rfl, r0.set hp u, r1.set hp u, p0_1⟩
def DiskD.bulk (x : DiskD) : Nat := (x.fCells.length + tot ByteArray.size x.fCells) + (x.fWaits.length + tot WaitD.bulk x.fWaits)
structure DiskD.Small (x : DiskD) : Prop where
  s0_0 : x.fCells.length ≤ 9223372036854775807
  s0_1 : (∀ e ∈ x.fCells, e.size ≤ 9223372036854775807)
  s1_0 : x.fWaits.length ≤ 9223372036854775807
  s1_1 : (∀ e ∈ x.fWaits, e.fText.size ≤ 9223372036854775807)
structure DiskD.Fit (x : DiskD) : Prop where
  f0 : x.fCells.length ≤ 1048576
  f1 : x.fWaits.length ≤ 1048576
theorem DiskD.fit {x : DiskD} (h : x.bulk ≤ 1048576) : x.Fit := by
  unfold DiskD.bulk at h
  exact ⟨by omega, by omega⟩

theorem szDisk_any (v : Value) (x : DiskD) (l : Int) (w : World) (hl0 : 0 ≤ l) (hl1 : l ≤ 1048576) (hr : DiskD.Reads w v x) (hs : x.Small) :
    Calls Tryz.prog 59 #[v, .int .i64 l] w fun e w' => e = .returned (.int .i64 (leftOf l x.bulk)) ∧ Below w.heap.size w w' := by
  obtain ⟨a0, c0, a1, c1, rfl, r0, r1⟩ := hr
  have hbA : Below w.heap.size w (w.alloc (.cells #[.slice a0 x.fCells.length c0, .slice a1 x.fWaits.length c1, .bool x.fGone] 104)) := (Below.refl _ _).alloc (Nat.le_refl _) _
  have hA0 := blk_new w (.cells #[.slice a0 x.fCells.length c0, .slice a1 x.fWaits.length c1, .bool x.fGone] 104) _ rfl
  obtain ⟨t0, ht0⟩ : ∃ t : Nat, t = (x.fCells.length + tot ByteArray.size x.fCells) := ⟨_, rfl⟩
  obtain ⟨t1, ht1⟩ : ∃ t : Nat, t = (x.fWaits.length + tot WaitD.bulk x.fWaits) := ⟨_, rfl⟩
  have HB : Hid (x.bulk = t0 + t1) := by
    show x.bulk = _
    simp only [ht0, ht1]
    unfold DiskD.bulk
    omega
  have HT0 := Lib.hid ht0
  clear ht0
  have HT1 := Lib.hid ht1
  clear ht1
  go_enter Tryz.func59, Tryz.ntmps59
  go_wp2_with fail
  refine (szStringS_any _ _ _ x.fCells _ _ (by omega) (by omega) hs.s0_0 (r0.below hbA) hs.s0_1).mono ?_
  rintro e w1 ⟨rfl, b1⟩
  rw [← HT0.out]
  have hA1 := blk_below hA0 b1 (Nat.le_refl _)
  have hb1 := hbA.trans (b1.mono hbA.size)
  clear b1 hA0
  by_cases g0 : l < (t0 : Int)
  · rw [leftOf_no g0]
    go_wp2
    go_ret
    exact ⟨ret_int (by rw [HB.out, leftOf_no (by omega)]), hb1⟩
  rw [leftOf_yes (Int.not_lt.1 g0)]
  have p1 : w1.cell? ⟨w.heap.size, 1, none⟩ = some (.slice a1 x.fWaits.length c1) := blk_cell hA1 1
  go_wp2_with fail
  refine (szWaitS_any _ _ _ x.fWaits _ _ (by omega) (by omega) hs.s1_0 (r1.below hb1) hs.s1_1).mono ?_
  rintro e w2 ⟨rfl, b2⟩
  rw [← HT1.out]
  have hA2 := blk_below hA1 b2 (Nat.le_refl _)
  have hb2 := hb1.trans (b2.mono hb1.size)
  clear b2 hA1
  by_cases g1 : l - t0 < (t1 : Int)
  · rw [leftOf_no g1]
    go_wp2
    go_ret
    exact ⟨ret_int (by rw [HB.out, leftOf_no (by omega)]), hb2⟩
  rw [leftOf_yes (Int.not_lt.1 g1)]
  go_wp2
  go_ret
  exact ⟨ret_int (by rw [HB.out, leftOf_yes (by omega)]; omega), hb2⟩

theorem toDisk_any (v : Value) (x : DiskD) (w : World) (hf : x.Fit) (hr : DiskD.Reads w v x) :
    Calls Tryz.prog 69 #[v] w fun e w' => ∃ v', e = .returned v' ∧ DiskD.Own w' w.heap.size w'.heap.size v' x ∧ Below w.heap.size w w' := by
  obtain ⟨a0, c0, a1, c1, rfl, r0, r1⟩ := hr
  go_enter Tryz.func69, Tryz.ntmps69
  go_wp2_with fail
  have hb0 : Below w.heap.size w (((w.alloc (.cells #[.slice a0 x.fCells.length c0, .slice a1 x.fWaits.length c1, .bool x.fGone] 104)).alloc (.cells #[.slice none 0 0, .slice none 0 0, .bool false] 94)).alloc (.cells #[.slice none 0 0, .slice none 0 0, .bool false] 94)) := (((Below.refl _ _).alloc (Nat.le_refl _) _).alloc (by simp) _).alloc (by simp; omega) _
  have hA0 : (((w.alloc (.cells #[.slice a0 x.fCells.length c0, .slice a1 x.fWaits.length c1, .bool x.fGone] 104)).alloc (.cells #[.slice none 0 0, .slice none 0 0, .bool false] 94)).alloc (.cells #[.slice none 0 0, .slice none 0 0, .bool false] 94)).heap[w.heap.size]? = some (.cells #[.slice a0 x.fCells.length c0, .slice a1 x.fWaits.length c1, .bool x.fGone] 104 (0, 0)) := blk_alloc (blk_alloc (blk_new w _ _ rfl) _) _
  have hR0 : (((w.alloc (.cells #[.slice a0 x.fCells.length c0, .slice a1 x.fWaits.length c1, .bool x.fGone] 104)).alloc (.cells #[.slice none 0 0, .slice none 0 0, .bool false] 94)).alloc (.cells #[.slice none 0 0, .slice none 0 0, .bool false] 94)).heap[w.heap.size + 1]? = some (.cells #[.slice none 0 0, .slice none 0 0, .bool false] 94 (0, 0)) := blk_alloc (blk_new _ _ (w.heap.size + 1) (by simp)) _
  have hO0 : (((w.alloc (.cells #[.slice a0 x.fCells.length c0, .slice a1 x.fWaits.length c1, .bool x.fGone] 104)).alloc (.cells #[.slice none 0 0, .slice none 0 0, .bool false] 94)).alloc (.cells #[.slice none 0 0, .slice none 0 0, .bool false] 94)).heap[w.heap.size + 1 + 1]? = some (.cells #[.slice none 0 0, .slice none 0 0, .bool false] 94 (0, 0)) := blk_new _ _ (w.heap.size + 1 + 1) (by simp)
  have hz0 : w.heap.size + 1 + 1 < (((w.alloc (.cells #[.slice a0 x.fCells.length c0, .slice a1 x.fWaits.length c1, .bool x.fGone] 104)).alloc (.cells #[.slice none 0 0, .slice none 0 0, .bool false] 94)).alloc (.cells #[.slice none 0 0, .slice none 0 0, .bool false] 94)).heap.size := blk_lt hO0
  refine (toStringS_any _ _ _ x.fCells _ hf.f0 (r0.below hb0)).mono ?_
  rintro e w1 ⟨rfl, on0, b1⟩
  have ro0 : RowO encS 1 9 w1 _ w1.heap.size _ x.fCells := RowO.mk on0 (fun g hg => (on0.lt g hg).2)
  try simp only [sz_alloc, sz_set] at ro0
  clear on0
  have hbW := hb0
  have hb1 := hbW.trans (b1.mono hbW.size)
  have hA1 : w1.heap[w.heap.size]? = some (.cells #[.slice a0 x.fCells.length c0, .slice a1 x.fWaits.length c1, .bool x.fGone] 104 (0, 0)) := blk_below hA0 b1 (Nat.le_refl _)
  have hR1 : w1.heap[w.heap.size + 1]? = some (.cells #[.slice none 0 0, .slice none 0 0, .bool false] 94 (0, 0)) := blk_below hR0 b1 (Nat.le_refl _)
  have hO1 : w1.heap[w.heap.size + 1 + 1]? = some (.cells #[.slice none 0 0, .slice none 0 0, .bool false] 94 (0, 0)) := blk_below hO0 b1 (Nat.le_refl _)
  have hz1 : w.heap.size + 1 + 1 < w1.heap.size := blk_lt hO1
  have hs1 := b1.size
  try simp only [sz_alloc, sz_set] at hs1
  clear b1 hbW hA0 hR0 hO0
  have pa1 : w1.cell? ⟨w.heap.size, 1, none⟩ = some (.slice a1 x.fWaits.length c1) := blk_cell hA1 1
  have po0 : w1.cell? ⟨w.heap.size + 1 + 1, 0, none⟩ = some (.slice none 0 0) := blk_cell hO1 0
  have pf0 := blk_frozen hO1 0
  go_wp2_with fail
  refine (toWaitS_any _ _ _ x.fWaits _ hf.f1 (r1.below (hb1.setCell (p := ⟨w.heap.size + 1 + 1, 0, none⟩) (by simp; try omega) (.slice (some ⟨w.heap.size + 1 + 1 + 1, 0, none⟩) x.fCells.length x.fCells.length)))).mono ?_
  rintro e w2 ⟨rfl, on1, b2⟩
  have ro1 : RowO WaitD.cells 2 137 w2 _ w2.heap.size _ x.fWaits := RowO.mk on1 (fun g hg => (on1.lt g hg).2)
  try simp only [sz_alloc, sz_set] at ro1
  clear on1
  have hbW := (hb1.setCell (p := ⟨w.heap.size + 1 + 1, 0, none⟩) (by simp; try omega) (.slice (some ⟨w.heap.size + 1 + 1 + 1, 0, none⟩) x.fCells.length x.fCells.length))
  have hb2 := hbW.trans (b2.mono hbW.size)
  have hA2 : w2.heap[w.heap.size]? = some (.cells #[.slice a0 x.fCells.length c0, .slice a1 x.fWaits.length c1, .bool x.fGone] 104 (0, 0)) := blk_below (blk_set_other hA1 (p := ⟨w.heap.size + 1 + 1, 0, none⟩) (by simp; try omega) _) b2 (Nat.le_refl _)
  have hR2 : w2.heap[w.heap.size + 1]? = some (.cells #[.slice none 0 0, .slice none 0 0, .bool false] 94 (0, 0)) := blk_below (blk_set_other hR1 (p := ⟨w.heap.size + 1 + 1, 0, none⟩) (by simp; try omega) _) b2 (Nat.le_refl _)
  have hO2 : w2.heap[w.heap.size + 1 + 1]? = some (.cells #[.slice (some ⟨w.heap.size + 1 + 1 + 1, 0, none⟩) x.fCells.length x.fCells.length, .slice none 0 0, .bool false] 94 (0, 0)) := blk_below (blk_set hO1 (i := 0) _) b2 (Nat.le_refl _)
  have hz2 : w.heap.size + 1 + 1 < w2.heap.size := blk_lt hO2
  have ro0 := RowO.below (ro0.set (p := ⟨w.heap.size + 1 + 1, 0, none⟩) (by simp; try omega) (.slice (some ⟨w.heap.size + 1 + 1 + 1, 0, none⟩) x.fCells.length x.fCells.length)) b2 (Nat.le_refl _)
  have hs2 := b2.size
  try simp only [sz_alloc, sz_set] at hs2
  clear b2 hbW hA1 hR1 hO1
  clear pa1 po0 pf0
  have pa2 : w2.cell? ⟨w.heap.size, 2, none⟩ = some (.bool x.fGone) := blk_cell hA2 2
  have po0 : w2.cell? ⟨w.heap.size + 1 + 1, 0, none⟩ = some (.slice (some ⟨w.heap.size + 1 + 1 + 1, 0, none⟩) x.fCells.length x.fCells.length) := blk_cell hO2 0
  have pf0 := blk_frozen hO2 0
  have po1 : w2.cell? ⟨w.heap.size + 1 + 1, 1, none⟩ = some (.slice none 0 0) := blk_cell hO2 1
  have pf1 := blk_frozen hO2 1
  have po2 : w2.cell? ⟨w.heap.size + 1 + 1, 2, none⟩ = some (.bool false) := blk_cell hO2 2
  have pf2 := blk_frozen hO2 2
  have pr0 : w2.cell? ⟨w.heap.size + 1, 0, none⟩ = some (.slice none 0 0) := blk_cell hR2 0
  have pg0 := blk_frozen hR2 0
  have pr1 : w2.cell? ⟨w.heap.size + 1, 1, none⟩ = some (.slice none 0 0) := blk_cell hR2 1
  have pg1 := blk_frozen hR2 1
  have pr2 : w2.cell? ⟨w.heap.size + 1, 2, none⟩ = some (.bool false) := blk_cell hR2 2
  have pg2 := blk_frozen hR2 2
  go_wp2
  refine bodyPost_ret (v := .agg #[.slice (some ⟨w.heap.size + 1 + 1 + 1, 0, none⟩) x.fCells.length x.fCells.length, .slice (some ⟨w1.heap.size, 0, none⟩) x.fWaits.length x.fWaits.length, .bool x.fGone]) (by simp [results, Tryz.results69, go_sem, pr0, pr1, pr2]) rfl ?_
  refine ⟨_, rfl, ⟨_, _, _, _, rfl, ?q0, ?q1, ?q0_1⟩, ?_⟩
  case q0 =>
    refine RowO.mono (((((ro0.set ?_ _).set ?_ _).set ?_ _).set ?_ _).set ?_ _) ?_ ?_
    all_goals (first | omega | (simp; done) | (simp; omega))
  case q1 =>
    refine RowO.mono (((((ro1.set ?_ _).set ?_ _).set ?_ _).set ?_ _).set ?_ _) ?_ ?_
    all_goals (first | omega | (simp; done) | (simp; omega))
  case q0_1 => exact Apart.of_lt (m := w1.heap.size) (fun g hg => (ro0.lt g hg).2.1) (fun g hg => by have := (ro1.lt g hg).1; first | exact this | omega | (simp at this; omega))
  refine (Below.setCell (Below.setCell (Below.setCell (Below.setCell (Below.setCell hb2 ?_ _) ?_ _) ?_ _) ?_ _) ?_ _)
  all_goals (first | omega | (simp; done) | (simp; omega))

theorem eqDisk_yes (u v : Value) (x : DiskD) (w : World) (hf : x.Fit) (hr : DiskD.Reads w u x) (hs : DiskD.Reads w v x) :
    Calls Tryz.prog 82 #[u, v] w fun e w' => e = .returned (.bool true) ∧ Below w.heap.size w w' := by
  obtain ⟨a0, c0, a1, c1, rfl, r0, r1⟩ := hr
  obtain ⟨b0, d0, b1, d1, rfl, s0, s1⟩ := hs
  have hb0 : Below w.heap.size w ((w.alloc (.cells #[.slice a0 x.fCells.length c0, .slice a1 x.fWaits.length c1, .bool x.fGone] 94)).alloc (.cells #[.slice b0 x.fCells.length d0, .slice b1 x.fWaits.length d1, .bool x.fGone] 94)) := ((Below.refl _ _).alloc (Nat.le_refl _) _).alloc (by simp) _
  have hA0 : ((w.alloc (.cells #[.slice a0 x.fCells.length c0, .slice a1 x.fWaits.length c1, .bool x.fGone] 94)).alloc (.cells #[.slice b0 x.fCells.length d0, .slice b1 x.fWaits.length d1, .bool x.fGone] 94)).heap[w.heap.size]? = some (.cells #[.slice a0 x.fCells.length c0, .slice a1 x.fWaits.length c1, .bool x.fGone] 94 (0, 0)) := blk_alloc (blk_new w _ _ rfl) _
  have hB0 : ((w.alloc (.cells #[.slice a0 x.fCells.length c0, .slice a1 x.fWaits.length c1, .bool x.fGone] 94)).alloc (.cells #[.slice b0 x.fCells.length d0, .slice b1 x.fWaits.length d1, .bool x.fGone] 94)).heap[w.heap.size + 1]? = some (.cells #[.slice b0 x.fCells.length d0, .slice b1 x.fWaits.length d1, .bool x.fGone] 94 (0, 0)) := blk_new _ _ (w.heap.size + 1) (by simp)
  go_enter Tryz.func82, Tryz.ntmps82
  go_wp2_with fail
  refine (eqStringS_yes _ _ _ _ _ x.fCells _ hf.f0 (r0.below hb0) (s0.below hb0)).mono ?_
  rintro e w1 ⟨rfl, b1⟩
  have hb1 := hb0.trans (b1.mono hb0.size)
  have hA1 := blk_below hA0 b1 (Nat.le_refl _)
  have hB1 := blk_below hB0 b1 (Nat.le_refl _)
  clear b1 hA0 hB0
  have p1 : w1.cell? ⟨w.heap.size, 1, none⟩ = some (.slice a1 x.fWaits.length c1) := blk_cell hA1 1
  have q1 : w1.cell? ⟨w.heap.size + 1, 1, none⟩ = some (.slice b1 x.fWaits.length d1) := blk_cell hB1 1
  go_wp2_with fail
  refine (eqWaitS_yes _ _ _ _ _ x.fWaits _ hf.f1 (r1.below hb1) (s1.below hb1)).mono ?_
  rintro e w2 ⟨rfl, b2⟩
  have hb2 := hb1.trans (b2.mono hb1.size)
  have hA2 := blk_below hA1 b2 (Nat.le_refl _)
  have hB2 := blk_below hB1 b2 (Nat.le_refl _)
  clear b2 hA1 hB1
  clear p1 q1
  have p2 : w2.cell? ⟨w.heap.size, 2, none⟩ = some (.bool x.fGone) := blk_cell hA2 2
  have q2 : w2.cell? ⟨w.heap.size + 1, 2, none⟩ = some (.bool x.fGone) := blk_cell hB2 2
  go_wp2
  go_ret
  exact ⟨rfl, hb2⟩

end Go.Proofs.YtoaopmkbfifhaaaGreatDoor

/- Disks and columns: plain. -/
namespace Go.Proofs.YtoaopmkbfifhaaaGreatDoor
set_option linter.unusedVariables false
set_option linter.unusedSimpArgs false
set_option maxHeartbeats 1000000
set_option maxRecDepth 100000
open Go.RowKit
theorem ba_ext {a b : ByteArray} (h : a.data.toList = b.data.toList) : a = b := by
  cases a; cases b
  congr
  exact Array.toList_inj.1 h
theorem size_list (a : ByteArray) : a.size = a.data.toList.length := by show a.data.size = _; rw [Array.length_toList]
theorem list_extract (a : ByteArray) (i j : Nat) : (a.extract i j).data.toList = (a.data.toList.drop i).take (j - i) := by
  rw [ByteArray.data_extract, Array.toList_extract, List.extract_eq_take_drop]
theorem list_append (a b : ByteArray) : (a ++ b).data.toList = a.data.toList ++ b.data.toList := by simp
theorem get_list (a : ByteArray) (i : Nat) : a.get! i = a.data.toList.getD i 0 := by
  cases a with | mk d =>
  show d[i]! = d.toList.getD i 0
  rw [List.getD_eq_getElem?_getD, Array.getElem?_toList]
  cases h : d[i]? <;> simp [getElem!_def, h] <;> rfl
end Go.Proofs.YtoaopmkbfifhaaaGreatDoor
