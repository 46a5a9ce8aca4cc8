/- The drawn region '!eq(x, to(a))' of the laws. No program in sight. -/
import Derived.Test.YtkgmilobmbeplaaShape
namespace Go.Proofs.Ytkgmilobmbeplaa
open Go.RowKit

theorem wp_unop {P : Program} {o : Oper} {a : Act} {w : World} {K : Act → World → Prop} {Q : Exit → Act → World → Prop} (u : UnOp) (ty : TypeId) (x : Operand) (ho : o.op = .unOp u ty x) (v : Value) (hr : (Op.unary u (a.eval x)).run P w = .ok v w) (h : K (a.put o.dst v) w) : o.wp P a w K Q := by
  unfold Oper.wp execOp
  simp only [ho, Sem.run_bind, hr, Result.andThen_ok, Sem.run_pure]
  exact h

structure EqI (d : Nat → Nat) (A0 : Act) (W : World) (vx va : Value) (R : World → Value → Prop) (L : Nat → Bool) (a' : Act) (w' : World) : Prop where
  sz : a'.tmps.size = A0.tmps.size
  df : a'.defers = A0.defers
  out : ∀ k, (∀ i, i < 5 → k ≠ d i) → a'.tmps[k]? = A0.tmps[k]?
  bel : Below W.heap.size W w'
  f0 : L 0 = true → a'.eval (.tmp (d 0)) = vx
  f1 : L 1 = true → a'.eval (.tmp (d 1)) = va
  f2 : L 2 = true → L 3 = false → R w' (a'.eval (.tmp (d 2)))
  f3 : L 3 = true → a'.eval (.tmp (d 3)) = .bool true
  f4 : L 4 = true → a'.eval (.tmp (d 4)) = .bool false

theorem region_EQ {P : Program} {id : Nat} {Q : Exit → Act → World → Prop} {A0 : Act} {W : World} {x0 x1 x2 x3 x4 : Oper} (hm : P.follows .mixedOrders = true) (hB : backB [x0, x1, x2, x3, x4] = true)
    (d : Nat → Nat) (hd : ∀ i, i < 5 → ∀ j, j < 5 → d i = d j → i = j) (hN : ∀ i, i < 5 → d i < A0.tmps.size)
    (vx : Value) (sx : Nat) (hsx : ∀ i, i < 5 → sx ≠ d i) (tx : TypeId) (hlx : ∀ w1, Below W.heap.size W w1 → (Instr.loadAt tx (A0.eval (.tmp sx))).run P w1 = .ok vx w1)
    (va : Value) (sa : Nat) (hsa : ∀ i, i < 5 → sa ≠ d i) (ta : TypeId) (hla : ∀ w1, Below W.heap.size W w1 → (Instr.loadAt ta (A0.eval (.tmp sa))).run P w1 = .ok va w1)
    (R : World → Value → Prop) (hR : ∀ w1 w2 v, R w1 v → Below w1.heap.size w1 w2 → R w2 v)
    (f : FuncId) (ts : Array TypeId) (hf : ∀ (args : Array Value) (w : World), (callFunc f args).run P w = .ok (.enter f args) w)
    (cf : ∀ w1, Below W.heap.size W w1 → Calls P f #[va] w1 fun e w2 => ∃ v, e = .returned v ∧ R w2 v ∧ Below w1.heap.size w1 w2)
    (g : FuncId) (us : Array TypeId) (hg : ∀ (args : Array Value) (w : World), (callFunc g args).run P w = .ok (.enter g args) w)
    (cg : ∀ w1 v, Below W.heap.size W w1 → R w1 v → Calls P g #[vx, v] w1 fun e w2 => e = .returned (.bool true) ∧ Below w1.heap.size w1 w2)
    (h0 : x0.op = .load tx (.tmp sx)) (t0 : x0.dst = some (d 0)) (w0 : x0.guard = none)
    (h1 : x1.op = .load ta (.tmp sa)) (t1 : x1.dst = some (d 1)) (w1 : x1.guard = none)
    (h2 : x2.op = .call { callee := .value (.func f), args := #[.tmp (d 1)], argTypes := ts }) (t2 : x2.dst = some (d 2)) (w2 : x2.guard = none) (e2 : ∀ L : Nat → Bool, (x2.after.all fun e => !Region.binds .any e || L e.on) = true → L 1 = true)
    (h3 : x3.op = .call { callee := .value (.func g), args := #[.tmp (d 0), .tmp (d 2)], argTypes := us }) (t3 : x3.dst = some (d 3)) (w3 : x3.guard = none) (e3 : ∀ L : Nat → Bool, (x3.after.all fun e => !Region.binds .any e || L e.on) = true → L 0 = true ∧ L 2 = true)
    (tb : TypeId) (h4 : x4.op = .unOp .not tb (.tmp (d 3))) (t4 : x4.dst = some (d 4)) (w4 : x4.guard = none) (e4 : ∀ L : Nat → Bool, (x4.after.all fun e => !Region.binds .any e || L e.on) = true → L 3 = true)
    (fin : ∀ (w1 : World) (u0 u1 u2 u3 : Value), Below W.heap.size W w1 → Q .normal (frameWith A0 [(d 0, u0), (d 1, u1), (d 2, u2), (d 3, u3), (d 4, .bool false)]) w1) :
    (Code.region id [x0, x1, x2, x3, x4].toArray true).wp P Q A0 W := by
  refine wp_region_inv hm hB (fun L a' w' => EqI d A0 W vx va R L a' w') ?_ ?_ ?_
  · exact ⟨rfl, rfl, fun _ _ => rfl, (Below.refl _ _).drew, (fun h => by cases h), (fun h => by cases h), (fun h => by cases h), (fun h => by cases h), (fun h => by cases h)⟩
  · intro L a' w' s hall
    have hL4 := hall 4 (by simp)
    have ha := frame_of (a := A0) (a' := a') [d 0, d 1, d 2, d 3, d 4] s.sz s.df (fun k hk => s.out k (fun i hi e => hk (by
      subst e
      match i, hi with
      | 0, _ => simp
      | 1, _ => simp
      | 2, _ => simp
      | 3, _ => simp
      | 4, _ => simp
      )))
    simp only [List.map_cons, List.map_nil] at ha
    rw [s.f4 hL4] at ha
    rw [ha]
    exact fin w' _ _ _ _ s.bel
  · intro i hi L a' w' s hun hed K hK
    match i, hi with
    | 0, _ =>
      have hun : L 0 = false := hun
      show if Region.wanted x0 _ = true then x0.wp P a' w' K Q else K (a'.put x0.dst undef) w'
      rw [if_pos (by simp [Region.wanted, w0])]
      refine wp_load_run tx (.tmp sx) h0 vx ?_ ?_
      · rw [ev_get (s.out sx hsx)]; exact hlx w' s.bel
      rw [t0]
      have nd : ∀ i, i < 5 → i ≠ 0 → d i ≠ d 0 := fun i hi hne e => hne (hd i hi 0 (by omega) e)
      refine hK _ _ ?_
      exact {
        sz := (put_size _ _ _).trans s.sz
        df := (put_defers _ _ _).trans s.df
        out := fun k hk => (put_get _ _ _ _ (hk 0 (by omega))).trans (s.out k hk)
        bel := s.bel
        f0 := fun _ => ev_same _ (by rw [s.sz]; exact hN 0 (by omega))
        f1 := fun h => by rw [ev_ne _ (nd 1 (by omega) (by omega))]; exact s.f1 (by simpa [upd] using h)
        f2 := fun h h2 => by rw [ev_ne _ (nd 2 (by omega) (by omega))]; exact s.f2 (by simpa [upd] using h) (by simpa [upd] using h2)
        f3 := fun h => by rw [ev_ne _ (nd 3 (by omega) (by omega))]; exact s.f3 (by simpa [upd] using h)
        f4 := fun h => by rw [ev_ne _ (nd 4 (by omega) (by omega))]; exact s.f4 (by simpa [upd] using h)
      }
    | 1, _ =>
      have hun : L 1 = false := hun
      show if Region.wanted x1 _ = true then x1.wp P a' w' K Q else K (a'.put x1.dst undef) w'
      rw [if_pos (by simp [Region.wanted, w1])]
      refine wp_load_run ta (.tmp sa) h1 va ?_ ?_
      · rw [ev_get (s.out sa hsa)]; exact hla w' s.bel
      rw [t1]
      have nd : ∀ i, i < 5 → i ≠ 1 → d i ≠ d 1 := fun i hi hne e => hne (hd i hi 1 (by omega) e)
      refine hK _ _ ?_
      exact {
        sz := (put_size _ _ _).trans s.sz
        df := (put_defers _ _ _).trans s.df
        out := fun k hk => (put_get _ _ _ _ (hk 1 (by omega))).trans (s.out k hk)
        bel := s.bel
        f0 := fun h => by rw [ev_ne _ (nd 0 (by omega) (by omega))]; exact s.f0 (by simpa [upd] using h)
        f1 := fun _ => ev_same _ (by rw [s.sz]; exact hN 1 (by omega))
        f2 := fun h h2 => by rw [ev_ne _ (nd 2 (by omega) (by omega))]; exact s.f2 (by simpa [upd] using h) (by simpa [upd] using h2)
        f3 := fun h => by rw [ev_ne _ (nd 3 (by omega) (by omega))]; exact s.f3 (by simpa [upd] using h)
        f4 := fun h => by rw [ev_ne _ (nd 4 (by omega) (by omega))]; exact s.f4 (by simpa [upd] using h)
      }
    | 2, _ =>
      have hun : L 2 = false := hun
      have hp := e2 L hed
      show if Region.wanted x2 _ = true then x2.wp P a' w' K Q else K (a'.put x2.dst undef) w'
      rw [if_pos (by simp [Region.wanted, w2])]
      refine wp_call_fn f _ _ h2 hf ?_
      have he : (#[.tmp (d 1)] : Array Operand).map a'.eval = #[va] := by simp [s.f1 hp]
      rw [he]
      refine (cf w' s.bel).mono ?_
      rintro e w2 ⟨y, rfl, hy, hb⟩
      refine ⟨y, rfl, ?_⟩
      rw [t2]
      have nd : ∀ i, i < 5 → i ≠ 2 → d i ≠ d 2 := fun i hi hne e => hne (hd i hi 2 (by omega) e)
      refine hK _ _ ?_
      exact {
        sz := (put_size _ _ _).trans s.sz
        df := (put_defers _ _ _).trans s.df
        out := fun k hk => (put_get _ _ _ _ (hk 2 (by omega))).trans (s.out k hk)
        bel := s.bel.trans (hb.mono s.bel.size)
        f0 := fun h => by rw [ev_ne _ (nd 0 (by omega) (by omega))]; exact s.f0 (by simpa [upd] using h)
        f1 := fun h => by rw [ev_ne _ (nd 1 (by omega) (by omega))]; exact s.f1 (by simpa [upd] using h)
        f2 := fun _ _ => by rw [ev_same _ (by rw [s.sz]; exact hN 2 (by omega))]; exact hy
        f3 := fun h => by rw [ev_ne _ (nd 3 (by omega) (by omega))]; exact s.f3 (by simpa [upd] using h)
        f4 := fun h => by rw [ev_ne _ (nd 4 (by omega) (by omega))]; exact s.f4 (by simpa [upd] using h)
      }
    | 3, _ =>
      have hun : L 3 = false := hun
      have hp := e3 L hed
      show if Region.wanted x3 _ = true then x3.wp P a' w' K Q else K (a'.put x3.dst undef) w'
      rw [if_pos (by simp [Region.wanted, w3])]
      refine wp_call_fn g _ _ h3 hg ?_
      have he : (#[.tmp (d 0), .tmp (d 2)] : Array Operand).map a'.eval = #[vx, a'.eval (.tmp (d 2))] := by simp [s.f0 hp.1]
      rw [he]
      refine (cg w' _ s.bel (s.f2 hp.2 hun)).mono ?_
      rintro e w2 ⟨rfl, hb⟩
      refine ⟨_, rfl, ?_⟩
      rw [t3]
      have nd : ∀ i, i < 5 → i ≠ 3 → d i ≠ d 3 := fun i hi hne e => hne (hd i hi 3 (by omega) e)
      refine hK _ _ ?_
      exact {
        sz := (put_size _ _ _).trans s.sz
        df := (put_defers _ _ _).trans s.df
        out := fun k hk => (put_get _ _ _ _ (hk 3 (by omega))).trans (s.out k hk)
        bel := s.bel.trans (hb.mono s.bel.size)
        f0 := fun h => by rw [ev_ne _ (nd 0 (by omega) (by omega))]; exact s.f0 (by simpa [upd] using h)
        f1 := fun h => by rw [ev_ne _ (nd 1 (by omega) (by omega))]; exact s.f1 (by simpa [upd] using h)
        f2 := fun _ h => by simp [upd] at h
        f3 := fun _ => ev_same _ (by rw [s.sz]; exact hN 3 (by omega))
        f4 := fun h => by rw [ev_ne _ (nd 4 (by omega) (by omega))]; exact s.f4 (by simpa [upd] using h)
      }
    | 4, _ =>
      have hun : L 4 = false := hun
      have hp := e4 L hed
      show if Region.wanted x4 _ = true then x4.wp P a' w' K Q else K (a'.put x4.dst undef) w'
      rw [if_pos (by simp [Region.wanted, w4])]
      refine wp_unop .not tb _ h4 (.bool false) ?_ ?_
      · rw [s.f3 hp]; simp [Op.unary, go_sem]
      rw [t4]
      have nd : ∀ i, i < 5 → i ≠ 4 → d i ≠ d 4 := fun i hi hne e => hne (hd i hi 4 (by omega) e)
      refine hK _ _ ?_
      exact {
        sz := (put_size _ _ _).trans s.sz
        df := (put_defers _ _ _).trans s.df
        out := fun k hk => (put_get _ _ _ _ (hk 4 (by omega))).trans (s.out k hk)
        bel := s.bel
        f0 := fun h => by rw [ev_ne _ (nd 0 (by omega) (by omega))]; exact s.f0 (by simpa [upd] using h)
        f1 := fun h => by rw [ev_ne _ (nd 1 (by omega) (by omega))]; exact s.f1 (by simpa [upd] using h)
        f2 := fun h h2 => by rw [ev_ne _ (nd 2 (by omega) (by omega))]; exact s.f2 (by simpa [upd] using h) (by simpa [upd] using h2)
        f3 := fun h => by rw [ev_ne _ (nd 3 (by omega) (by omega))]; exact s.f3 (by simpa [upd] using h)
        f4 := fun _ => ev_same _ (by rw [s.sz]; exact hN 4 (by omega))
      }
end Go.Proofs.Ytkgmilobmbeplaa
