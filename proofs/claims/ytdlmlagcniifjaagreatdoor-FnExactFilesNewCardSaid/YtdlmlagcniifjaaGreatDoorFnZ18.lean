/- A part of the proof in YtdlmlagcniifjaaGreatDoorFnZ32. -/
import Derived.LoopN
import Derived.Test.YtdlmlagcniifjaaGreatDoorFnZ17
namespace Go.Proofs.YtdlmlagcniifjaaGreatDoor
set_option linter.unusedVariables false
set_option linter.unusedSimpArgs false
set_option maxHeartbeats 1000000
set_option maxRecDepth 100000
open Go.RowKit
section
variable {P : Program} {ops : Array Oper} {Q : Exit → Act → World → Prop} {rest : List Oper} {o : Oper} {a : Act} {w W : World} {N : Nat} {l : List (Nat × Value)} {s : List Asr} {t e : TypeId} {x y : Operand}
theorem wc_rounds {c : Code} (n : Nat) (h : c.wp P (Exit.then (Code.rounds P c Q n) Q) a w) : (Code.loop c).wp P Q a w := wp_loop_rounds (n + 1) h
theorem wc_round {c : Code} (n : Nat) (h : c.wp P (Exit.then (Code.rounds P c Q n) Q) a w) : Code.rounds P c Q (n + 1) a w := h
theorem run_callv {xs : Array Operand} {ts : Array TypeId} {f : FuncId} {first caps : Array Value} (ho : o.op = .call { callee := .value x, args := xs, argTypes := ts }) (hx : a.eval x = .func (.func f) first caps) (hc : ∀ (args : Array Value) (w : World), (callFunc f args).run P w = .ok (.enter f args) w) :
    (execOp a.eval o).run P w = .ok (.enter f (first ++ xs.map a.eval ++ caps)) w := by
  unfold execOp
  simp only [ho]
  simp only [resolve, hx, Deferred.ofValue, Sem.run_bind, Sem.run_pure, Result.andThen_ok, invoke, hc]
theorem wl_callv (hg : o.guard = none) (hF : Fr N a l) {xs : Array Operand} {ts : Array TypeId} {f : FuncId} {first caps : Array Value} (ho : o.op = .call { callee := .value x, args := xs, argTypes := ts }) (hx : a.eval x = .func (.func f) first caps) (hc : ∀ (args : Array Value) (w : World), (callFunc f args).run P w = .ok (.enter f args) w)
    {args : Array Value} (hxs : xs.toList.mapM (evO l) = some args.toList) {R : Ending → World → Prop} (hR : Calls P f (first ++ args ++ caps) w R) {d : Nat} (hd : o.dst = some d) (hN : Nat.blt d N = true)
    (h : ∀ e w', R e w' → ∃ v, e = .returned v ∧ ∀ a', Fr N a' ((d, v) :: l) → wpList P ops Q rest a' w') : wpList P ops Q (o :: rest) a w := by
  refine wpList_plain hg fun K hK => ?_
  unfold Oper.wp
  rw [run_callv ho hx hc, args_of hF hxs]
  refine Calls.mono hR fun e w' hr => ?_
  obtain ⟨v, hv, hk⟩ := h e w' hr
  subst hv
  exact hK _ _ (hd ▸ hk _ (hF.put (Nat.le_of_ble_eq_true hN) v))
end
open Go.RowKit
section
variable {P : Program} {ops : Array Oper} {Q : Exit → Act → World → Prop} {rest : List Oper} {o : Oper} {a : Act} {w W : World} {N : Nat} {l : List (Nat × Value)} {s : List Asr} {t e : TypeId} {x y : Operand}
theorem yl_makeFunc (hF : Fr N a l) {f : FuncId} {xs : Array Operand} (ho : o.op = .makeFunc (.func f) #[] xs) {cs : Array Value} (hx : xs.toList.mapM (evO l) = some cs.toList) : Yl P w o a (.func (.func f) #[] cs) := by
  have := args_of hF hx
  unfold Yl execOp
  simp only [ho, Instr.makeFunc]
  simp [this]
theorem wl_callvB (hg : o.guard = none) (hF : Fr N a l) {xs : Array Operand} {ts : Array TypeId} {f : FuncId} {first caps : Array Value} (ho : o.op = .call { callee := .value x, args := xs, argTypes := ts }) (hx : a.eval x = .func (.func f) first caps) (hc : ∀ (args : Array Value) (w : World), (callFunc f args).run P w = .ok (.enter f args) w)
    {args : Array Value} (hxs : xs.toList.mapM (evO l) = some args.toList) {v : Value} (hR : Calls P f (first ++ args ++ caps) w fun e w' => e = .returned v ∧ Below w.heap.size w w') {d : Nat} (hd : o.dst = some d) (hN : Nat.blt d N = true) (hS : St W s w)
    (h : ∀ w' a', St W s w' → Fr N a' ((d, v) :: l) → wpList P ops Q rest a' w') : wpList P ops Q (o :: rest) a w :=
  wl_callv hg hF ho hx hc hxs hR hd hN fun _ w' ⟨he, hb⟩ => ⟨v, he, fun a' hF' => h w' a' (hS.later hb) hF'⟩
end
def idxB (p : Nat → Bool) (n k : Nat) : Int := if _h : k < n then (if p k then (k : Int) else idxB p n (k + 1)) else -1
termination_by n - k
theorem idxB_lt {p : Nat → Bool} {n k : Nat} (h : k < n) : idxB p n k = if p k then (k : Int) else idxB p n (k + 1) := by
  rw [idxB, dif_pos h]
theorem idxB_end {p : Nat → Bool} {n k : Nat} (h : n ≤ k) : idxB p n k = -1 := by
  rw [idxB, dif_neg (by omega)]
def allB (p : Nat → Bool) : Nat → Bool
  | 0 => true
  | k + 1 => allB p k && p k
theorem allB_false {p : Nat → Bool} {k n : Nat} (h : p k = false) (hk : k < n) : allB p n = false := by
  induction n with
  | zero => omega
  | succ n ih =>
    unfold allB
    by_cases h1 : k < n
    · rw [ih h1]; rfl
    · obtain rfl : k = n := by omega
      rw [h]; exact Bool.and_false _
theorem allB_mk {p : Nat → Bool} {n : Nat} (h : ∀ k, k < n → p k = true) : allB p n = true := by
  induction n with
  | zero => rfl
  | succ n ih =>
    unfold allB
    rw [ih (fun k hk => h k (by omega)), h n (by omega)]; rfl
theorem idxB_any (p : Nat → Bool) (n : Nat) : decide (0 ≤ idxB p n 0) = !allB (fun k => !p k) n := by
  have key : ∀ m k, n - k = m → (∀ j, j < k → p j = false) → decide (0 ≤ idxB p n k) = !allB (fun k => !p k) n := by
    intro m
    induction m with
    | zero =>
      intro k hk hf
      rw [idxB_end (by omega), allB_mk (fun j hj => by rw [hf j (by omega)]; rfl)]; rfl
    | succ m ih =>
      intro k hk hf
      rw [idxB_lt (by omega)]
      cases hp : p k with
      | true =>
        rw [allB_false (k := k) (by rw [hp]; rfl) (by omega)]
        simp
      | false =>
        rw [if_neg (by simp)]
        exact ih (k + 1) (by omega) (fun j hj => by
          by_cases h : j < k
          · exact hf j h
          · obtain rfl : j = k := by omega
            exact hp)
  exact key n 0 (by omega) (fun j hj => by omega)
open Go.RowKit
instance : Inhabited WaitD := ⟨⟨0, ByteArray.empty⟩⟩
def cellB (d : DiskD) (k : Nat) : Bool := decide ((d.fCells.getD k ByteArray.empty).size ≤ 200) && !(d.fGone && !((d.fCells.getD k ByteArray.empty).toList == (⟨#[]⟩ : ByteArray).toList))
def waitB (d : DiskD) (k : Nat) : Bool := inB (d.fWaits.getD k default).fAt 0 63 && decide ((d.fWaits.getD k default).fText.size ≤ 200)
def DiskD.ok (d : DiskD) : Bool := decide (d.fCells.length = 64) && (decide (d.fWaits.length ≤ 120) && (!(d.fGone && decide (0 < d.fWaits.length)) && (allB (cellB d) d.fCells.length && allB (waitB d) d.fWaits.length)))
open Go.RowKit
theorem elemS : ElemT Tryz.prog 22 9 1 16 := by
  obtain ⟨i0, hi, hz0, hz1, hz2⟩ := info_parts Tryz.infoStringS
  exact ⟨Tryz.underlying22, ⟨i0, _, hi, hz0, hz1, hz2, rfl⟩, by decide⟩
end Go.Proofs.YtdlmlagcniifjaaGreatDoor
