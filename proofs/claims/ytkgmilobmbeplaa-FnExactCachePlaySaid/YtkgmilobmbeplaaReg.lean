/- Operations one by one, over a frame that is not written out. No program in sight. -/
import Derived.Test.YtkgmilobmbeplaaBox
import Derived.Test.YtkgmilobmbeplaaInv
import Derived.Deep.MidRow
namespace Go.Proofs.Ytkgmilobmbeplaa
open Go.RowKit

theorem put_size (a : Act) (d : Option Tmp) (v : Value) : (a.put d v).tmps.size = a.tmps.size := by cases d <;> simp [Act.put]
theorem put_defers (a : Act) (d : Option Tmp) (v : Value) : (a.put d v).defers = a.defers := by cases d <;> rfl
theorem put_get (a : Act) (d : Nat) (v : Value) (k : Nat) (h : k ≠ d) : (a.put (some d) v).tmps[k]? = a.tmps[k]? := by
  simp [Act.put, Array.getElem?_setIfInBounds, Ne.symm h]
theorem ev_get {a b : Act} {k : Nat} (h : a.tmps[k]? = b.tmps[k]?) : a.eval (.tmp k) = b.eval (.tmp k) := by
  simp only [Act.eval, Array.getD_eq_getD_getElem?, h]
theorem ev_same {a : Act} {d : Nat} (v : Value) (h : d < a.tmps.size) : (a.put (some d) v).eval (.tmp d) = v := by
  simp [Act.eval, Act.put, Array.getD_eq_getD_getElem?, Array.getElem?_setIfInBounds, h]
theorem ev_ne {a : Act} {d k : Nat} (v : Value) (h : k ≠ d) : (a.put (some d) v).eval (.tmp k) = a.eval (.tmp k) := ev_get (put_get a d v k h)
theorem ev_none (a : Act) (v : Value) (x : Operand) : (a.put none v).eval x = a.eval x := rfl

/-- A frame in which some slots hold other values. -/
def frameWith (a : Act) (l : List (Nat × Value)) : Act := l.foldl (fun a p => a.put (some p.1) p.2) a
theorem frameWith_size (l : List (Nat × Value)) (a : Act) : (frameWith a l).tmps.size = a.tmps.size := by
  unfold frameWith
  induction l generalizing a with
  | nil => rfl
  | cons p r ih => rw [List.foldl_cons, ih, put_size]
theorem frameWith_defers (l : List (Nat × Value)) (a : Act) : (frameWith a l).defers = a.defers := by
  unfold frameWith
  induction l generalizing a with
  | nil => rfl
  | cons p r ih => rw [List.foldl_cons, ih, put_defers]
theorem frameWith_get (a' : Act) : ∀ (D : List Nat) (a : Act) (k : Nat), a.tmps.size = a'.tmps.size → (k ∉ D → a.tmps[k]? = a'.tmps[k]?) → (frameWith a (D.map fun d => (d, a'.eval (.tmp d)))).tmps[k]? = a'.tmps[k]?
  | [], a, k, _, h => h (by simp)
  | d :: D, a, k, hs, h => by
    have := frameWith_get a' D (a.put (some d) (a'.eval (.tmp d))) k (by rw [put_size, hs]) (fun hk => by
      by_cases hd : k = d
      · subst hd
        by_cases hl : k < a'.tmps.size
        · simp [Act.put, Act.eval, Array.getElem?_setIfInBounds, hs, hl, Array.getD_eq_getD_getElem?]
        · rw [Array.getElem?_eq_none (by rw [put_size, hs]; omega), Array.getElem?_eq_none (by omega)]
      · rw [put_get _ _ _ _ hd]
        exact h (by simp [hd, hk]))
    simpa [frameWith] using this
/-- A frame that differs from another one in some slots alone. -/
theorem frame_of {a a' : Act} (D : List Nat) (hs : a'.tmps.size = a.tmps.size) (hd : a'.defers = a.defers) (h : ∀ k, k ∉ D → a'.tmps[k]? = a.tmps[k]?) : a' = frameWith a (D.map fun d => (d, a'.eval (.tmp d))) := by
  have h1 : a'.tmps = (frameWith a (D.map fun d => (d, a'.eval (.tmp d)))).tmps := by
    refine Array.ext_getElem? fun k => ?_
    rw [frameWith_get a' D a k hs.symm (fun hk => (h k hk).symm)]
  have h2 : a'.defers = (frameWith a (D.map fun d => (d, a'.eval (.tmp d)))).defers := by rw [frameWith_defers, hd]
  cases a'
  generalize frameWith a _ = b at h1 h2
  cases b
  simp only at h1 h2
  subst h1 h2
  rfl

section
variable {P : Program} {o : Oper} {a : Act} {w : World} {K : Act → World → Prop} {Q : Exit → Act → World → Prop}
/-- A function of the program's own text is entered. -/
theorem enter_of {P : Program} {f : FuncId} {fn : Func} {c : Code} (hf : P.funcs[f]? = some fn) (hname : (fn.name == "runtime.NumGoroutine") = false) (hb : fn.body = some c) : ∀ (args : Array Value) (w : World), (callFunc f args).run P w = .ok (.enter f args) w := fun args w => by
  have hn : ¬ fn.name = "runtime.NumGoroutine" := by simpa using hname
  simp [callFunc, go_sem, hf, hn, hb]
theorem wp_call_fn (f : FuncId) (xs : Array Operand) (ts : Array TypeId) (ho : o.op = .call { callee := .value (.func f), args := xs, argTypes := ts }) (hc : ∀ (args : Array Value) (w : World), (callFunc f args).run P w = .ok (.enter f args) w)
    (h : Calls P f (xs.map a.eval) w fun e w'' => ∃ v, e = .returned v ∧ K (a.put o.dst v) w'') : o.wp P a w K Q := by
  unfold Oper.wp execOp
  simp only [ho]
  have hr : ((do let d ← resolve a.eval { callee := .value (.func f), args := xs, argTypes := ts } o.type; invoke d.target d.args) : Sem Next).run P w = .ok (.enter f (xs.map a.eval)) w := by
    simp [resolve, Act.eval, go_sem, hc]
  rw [hr, Oper.upon_enter]
  refine h.mono fun e w'' ⟨v, he, hk⟩ => ?_
  subst he
  exact hk
theorem wp_extract (x : Operand) (i : Nat) (ho : o.op = .extract x i) (vs : Array Value) (v : Value) (hx : a.eval x = .tuple vs) (hv : vs[i]? = some v) (h : K (a.put o.dst v) w) : o.wp P a w K Q := by
  unfold Oper.wp execOp
  simp only [ho, hx]
  have hr : (Instr.extract (.tuple vs) i).run P w = .ok v w := by
    simp [Instr.extract, hv, go_sem]
  simp only [Sem.run_bind, hr, Result.andThen_ok, Sem.run_pure]
  exact h
theorem wp_alloc_op (t : TypeId) (ho : o.op = .alloc t) (Z : Array Value) (hr : (Instr.alloc t true (.tuple #[])).run P w = .ok (.pointer (some ⟨w.heap.size, 0, none⟩)) (w.alloc (.cells Z t))) (h : K (a.put o.dst (.pointer (some ⟨w.heap.size, 0, none⟩))) (w.alloc (.cells Z t))) : o.wp P a w K Q := by
  unfold Oper.wp execOp
  simp only [ho, Sem.run_bind, hr, Result.andThen_ok, Sem.run_pure]
  exact h
theorem wp_store_box (ty : TypeId) (x y : Operand) (ho : o.op = .store ty x y)
    (b n : Nat) (t : TypeId) (u v : Value) (hx : a.eval x = .pointer (some ⟨b, 0, none⟩)) (hy : a.eval y = v) (hb : Box w b n t u) (hv : Cells n v)
    (hi : (P.info? ty).map (·.size) = some n)
    (h : ∀ w', Box w' b n t v → Outside b (b + 1) w w' → w'.heap.size = w.heap.size → K (a.put o.dst undef) w') : o.wp P a w K Q := by
  obtain ⟨cells, rfl, rfl, h1, ht, k1, k2, k3⟩ := hb.put hv
  exact wp_store_mid ty x y ho b 0 cells hx hy ht hi h1 (h _ k1 k2 k3)
end
end Go.Proofs.Ytkgmilobmbeplaa
