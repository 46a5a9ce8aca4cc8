/- Drawn regions of a fixed shape: arguments made, one call, its results laid down. Printed by a program (wip/gen/shape.py). No program in sight. -/
import Derived.Test.YtkgmilobmbeplaaReg
namespace Go.Proofs.Ytkgmilobmbeplaa
open Go.RowKit

theorem wp_load_run {P : Program} {o : Oper} {a : Act} {w : World} {K : Act → World → Prop} {Q : Exit → Act → World → Prop} (ty : TypeId) (x : Operand) (ho : o.op = .load ty x) (v : Value) (hr : (Instr.loadAt ty (a.eval x)).run P w = .ok v w) (h : K (a.put o.dst v) w) : o.wp P a w K Q := by
  unfold Oper.wp execOp
  simp only [ho, Sem.run_bind, hr, Result.andThen_ok, Sem.run_pure]
  exact h

/-- S1: what holds while the region runs. -/
structure S1I (d : Nat → Nat) (A0 : Act) (W : World) (RM : World → Nat → Nat → Value → Value → Prop) (va0 : Value) (va2 : Value) (R1 : World → Value → Prop) (R3 : World → Value → Prop) (n0 : Nat) (T0 : TypeId) (Z0 : List Value) (L : Nat → Bool) (a' : Act) (w' : World) (v0 : Value) (v1 : Value) (B C b0 : Nat) : Prop where
  sz : a'.tmps.size = A0.tmps.size
  df : a'.defers = A0.defers
  out : ∀ k, (∀ i, i < 10 → k ≠ d i) → a'.tmps[k]? = A0.tmps[k]?
  bel : Below W.heap.size W w'
  f0 : L 0 = true → a'.eval (.tmp (d 0)) = va0
  f1 : L 1 = true → L 4 = false → R1 w' (a'.eval (.tmp (d 1)))
  f2 : L 2 = true → a'.eval (.tmp (d 2)) = va2
  f3 : L 3 = true → L 4 = false → R3 w' (a'.eval (.tmp (d 3)))
  f4 : L 4 = true → a'.eval (.tmp (d 4)) = .tuple #[v0, v1] ∧ Cells n0 v0 ∧  RM w' B C v0 v1 ∧ W.heap.size ≤ B ∧ B ≤ C ∧ C ≤ w'.heap.size
  f5 : L 5 = true → a'.eval (.tmp (d 5)) = .tuple #[v0, v1]
  f6 : L 6 = true → a'.eval (.tmp (d 6)) = v0
  f7 : L 7 = true → a'.eval (.tmp (d 7)) = v1
  f8 : L 8 = true → a'.eval (.tmp (d 8)) = .pointer (some ⟨b0, 0, none⟩) ∧ W.heap.size ≤ b0 ∧ b0 < w'.heap.size ∧ (L 9 = false → Box w' b0 n0 T0 (.agg Z0.toArray)) ∧ (L 4 = true → b0 < B ∨ C ≤ b0)
  f9 : L 9 = true → Box w' b0 n0 T0 v0
  f10 : L 10 = true → a'.eval (.tmp (d 9)) = v1
  q5 : L 5 = true → L 4 = true
  q6 : L 6 = true → L 5 = true
  q7 : L 7 = true → L 5 = true
  q9 : L 9 = true → L 8 = true ∧ L 6 = true
  q10 : L 10 = true → L 7 = true

theorem region_S1 {P : Program} {id : Nat} {Q : Exit → Act → World → Prop} {A0 : Act} {W : World} {x0 x1 x2 x3 x4 x5 x6 x7 x8 x9 x10 : Oper} (hm : P.follows .mixedOrders = true) (hB : backB [x0, x1, x2, x3, x4, x5, x6, x7, x8, x9, x10] = true)
    (d : Nat → Nat) (hd : ∀ i, i < 10 → ∀ j, j < 10 → d i = d j → i = j) (hN : ∀ i, i < 10 → d i < A0.tmps.size)
    (RM : World → Nat → Nat → Value → Value → Prop) (hRM : ∀ w1 w2 B C v0 v1, RM w1 B C v0 v1 → Below w1.heap.size w1 w2 → RM w2 B C v0 v1) (hRMo : ∀ w1 w2 B C v0 v1 b, RM w1 B C v0 v1 → Outside b (b + 1) w1 w2 → (b < B ∨ C ≤ b) → RM w2 B C v0 v1)
    (va0 : Value) (s0 : Nat) (hs0 : ∀ i, i < 10 → s0 ≠ d i) (ty0 : TypeId) (hl0 : ∀ w1, Below W.heap.size W w1 → (Instr.loadAt ty0 (A0.eval (.tmp s0))).run P w1 = .ok va0 w1)
    (va2 : Value) (s2 : Nat) (hs2 : ∀ i, i < 10 → s2 ≠ d i) (ty2 : TypeId) (hl2 : ∀ w1, Below W.heap.size W w1 → (Instr.loadAt ty2 (A0.eval (.tmp s2))).run P w1 = .ok va2 w1)
    (R1 : World → Value → Prop) (hR1 : ∀ w1 w2 v, R1 w1 v → Below w1.heap.size w1 w2 → R1 w2 v) (g1 : FuncId) (ts1 : Array TypeId) (hg1 : ∀ (args : Array Value) (w : World), (callFunc g1 args).run P w = .ok (.enter g1 args) w)
    (c1 : ∀ w1, Below W.heap.size W w1 → Calls P g1 #[va0] w1 fun e w2 => ∃ v, e = .returned v ∧ R1 w2 v ∧ Below w1.heap.size w1 w2)
    (R3 : World → Value → Prop) (hR3 : ∀ w1 w2 v, R3 w1 v → Below w1.heap.size w1 w2 → R3 w2 v) (g3 : FuncId) (ts3 : Array TypeId) (hg3 : ∀ (args : Array Value) (w : World), (callFunc g3 args).run P w = .ok (.enter g3 args) w)
    (c3 : ∀ w1, Below W.heap.size W w1 → Calls P g3 #[va2] w1 fun e w2 => ∃ v, e = .returned v ∧ R3 w2 v ∧ Below w1.heap.size w1 w2)
    (gm : FuncId) (tsm : Array TypeId) (hgm : ∀ (args : Array Value) (w : World), (callFunc gm args).run P w = .ok (.enter gm args) w)
    (n0 : Nat) (T0 : TypeId) (Z0 : List Value) (hZ0 : (Z0.all fun u => u.oneCell') = true) (hZn0 : Z0.length = n0) (hal0 : ∀ w : World, (Instr.alloc T0 true (.tuple #[])).run P w = .ok (.pointer (some ⟨w.heap.size, 0, none⟩)) (w.alloc (.cells Z0.toArray T0))) (hi0 : (P.info? T0).map (·.size) = some n0)
    (cm : ∀ w1 y1 y3, Below W.heap.size W w1 → R1 w1 y1 → R3 w1 y3 → Calls P gm #[y1, y3] w1 fun e w2 => ∃ v0 v1, e = .returned (.tuple #[v0, v1]) ∧ Cells n0 v0 ∧ RM w2 w1.heap.size w2.heap.size v0 v1 ∧ Below w1.heap.size w1 w2)
    (h0 : x0.op = .load ty0 (.tmp s0)) (t0 : x0.dst = some (d 0)) (w0 : x0.guard = none)
    (h1 : x1.op = .call { callee := .value (.func g1), args := #[.tmp (d 0)], argTypes := ts1 }) (t1 : x1.dst = some (d 1)) (w1 : x1.guard = none) (e1 : ∀ L : Nat → Bool, (x1.after.all fun e => !Region.binds .any e || L e.on) = true → L 0 = true)
    (h2 : x2.op = .load ty2 (.tmp s2)) (t2 : x2.dst = some (d 2)) (w2 : x2.guard = none)
    (h3 : x3.op = .call { callee := .value (.func g3), args := #[.tmp (d 2)], argTypes := ts3 }) (t3 : x3.dst = some (d 3)) (w3 : x3.guard = none) (e3 : ∀ L : Nat → Bool, (x3.after.all fun e => !Region.binds .any e || L e.on) = true → L 2 = true)
    (h4 : x4.op = .call { callee := .value (.func gm), args := #[.tmp (d 1), .tmp (d 3)], argTypes := tsm }) (t4 : x4.dst = some (d 4)) (w4 : x4.guard = none) (e4 : ∀ L : Nat → Bool, (x4.after.all fun e => !Region.binds .any e || L e.on) = true → L 1 = true ∧ L 3 = true)
    (h5 : x5.op = .move (.tmp (d 4))) (t5 : x5.dst = some (d 5)) (w5 : x5.guard = none) (e5 : ∀ L : Nat → Bool, (x5.after.all fun e => !Region.binds .any e || L e.on) = true → L 4 = true)
    (h6 : x6.op = .extract (.tmp (d 5)) 0) (t6 : x6.dst = some (d 6)) (w6 : x6.guard = none) (e6 : ∀ L : Nat → Bool, (x6.after.all fun e => !Region.binds .any e || L e.on) = true → L 5 = true)
    (h7 : x7.op = .extract (.tmp (d 5)) 1) (t7 : x7.dst = some (d 7)) (w7 : x7.guard = none) (e7 : ∀ L : Nat → Bool, (x7.after.all fun e => !Region.binds .any e || L e.on) = true → L 5 = true)
    (h8 : x8.op = .alloc T0) (t8 : x8.dst = some (d 8)) (w8 : x8.guard = none)
    (h9 : x9.op = .store T0 (.tmp (d 8)) (.tmp (d 6))) (t9 : x9.dst = none) (w9 : x9.guard = none) (e9 : ∀ L : Nat → Bool, (x9.after.all fun e => !Region.binds .any e || L e.on) = true → L 4 = true ∧ L 6 = true ∧ L 8 = true)
    (h10 : x10.op = .assign (.tmp (d 7))) (t10 : x10.dst = some (d 9)) (w10 : x10.guard = none) (e10 : ∀ L : Nat → Bool, (x10.after.all fun e => !Region.binds .any e || L e.on) = true → L 7 = true)
    (fin : ∀ w1 (v0 : Value) (v1 : Value) (B C b0 : Nat) (u0 : Value) (u1 : Value) (u2 : Value) (u3 : Value) (u4 : Value) (u5 : Value) (u6 : Value) (u7 : Value), Below W.heap.size W w1 → RM w1 B C v0 v1 → W.heap.size ≤ B → B ≤ C → C ≤ w1.heap.size → Box w1 b0 n0 T0 v0 → W.heap.size ≤ b0 → (b0 < B ∨ C ≤ b0) → Q .normal (frameWith A0 [(d 0, u0), (d 1, u1), (d 2, u2), (d 3, u3), (d 4, u4), (d 5, u5), (d 6, u6), (d 7, u7), (d 8, .pointer (some ⟨b0, 0, none⟩)), (d 9, v1)]) w1) :
    (Code.region id [x0, x1, x2, x3, x4, x5, x6, x7, x8, x9, x10].toArray true).wp P Q A0 W := by
  refine wp_region_inv hm hB (fun L a' w' => ∃ (v0 : Value) (v1 : Value) (B C b0 : Nat), S1I d A0 W RM va0 va2 R1 R3 n0 T0 Z0 L a' w' v0 v1 B C b0) ?_ ?_ ?_
  · refine ⟨undef, undef, 0, 0, 0, ⟨rfl, rfl, fun _ _ => rfl, (Below.refl _ _).drew, (fun h => by cases h), (fun h => by cases h), (fun h => by cases h), (fun h => by cases h), (fun h => by cases h), (fun h => by cases h), (fun h => by cases h), (fun h => by cases h), (fun h => by cases h), (fun h => by cases h), (fun h => by cases h), (fun h => by cases h), (fun h => by cases h), (fun h => by cases h), (fun h => by cases h), (fun h => by cases h)⟩⟩
  · rintro L a' w' ⟨v0, v1, B, C, b0, s⟩ hall
    have hL0 := hall 0 (by simp)
    have hL1 := hall 1 (by simp)
    have hL2 := hall 2 (by simp)
    have hL3 := hall 3 (by simp)
    have hL4 := hall 4 (by simp)
    have hL5 := hall 5 (by simp)
    have hL6 := hall 6 (by simp)
    have hL7 := hall 7 (by simp)
    have hL8 := hall 8 (by simp)
    have hL9 := hall 9 (by simp)
    have hL10 := hall 10 (by simp)
    have ha := frame_of (a := A0) (a' := a') [d 0, d 1, d 2, d 3, d 4, d 5, d 6, d 7, d 8, d 9] s.sz s.df (fun k hk => s.out k (fun i hi e => hk (by
      subst e
      match i, hi with
      | 0, _ => simp
      | 1, _ => simp
      | 2, _ => simp
      | 3, _ => simp
      | 4, _ => simp
      | 5, _ => simp
      | 6, _ => simp
      | 7, _ => simp
      | 8, _ => simp
      | 9, _ => simp
      )))
    simp only [List.map_cons, List.map_nil] at ha
    rw [(s.f8 hL8).1] at ha
    rw [s.f10 hL10] at ha
    rw [ha]
    obtain ⟨_, _, hr, hb1, hb2, hb3⟩ := s.f4 hL4
    exact fin w' v0 v1 B C b0 _ _ _ _ _ _ _ _ s.bel hr hb1 hb2 hb3 (s.f9 hL9) (s.f8 hL8).2.1 ((s.f8 hL8).2.2.2.2 hL4)
  · intro i hi L a' w'
    rintro ⟨v0, v1, B, C, b0, s⟩ hun hed K hK
    match i, hi with
    | 0, _ =>
      have hun : L 0 = false := hun
      show if Region.wanted x0 _ = true then x0.wp P a' w' K Q else K (a'.put x0.dst undef) w'
      rw [if_pos (by simp [Region.wanted, w0])]
      refine wp_load_run ty0 (.tmp s0) h0 va0 ?_ ?_
      · rw [ev_get (s.out s0 (hs0))]; exact hl0 w' s.bel
      rw [t0]
      have nd : ∀ i, i < 10 → i ≠ 0 → d i ≠ d 0 := fun i hi hne e => hne (hd i hi 0 (by omega) e)
      refine hK _ _ ⟨v0, v1, B, C, b0, ?_⟩
      exact {
        sz := (put_size _ _ _).trans s.sz
        df := (put_defers _ _ _).trans s.df
        out := fun k hk => (put_get _ _ _ _ (hk 0 (by omega))).trans (s.out k hk)
        bel := s.bel
        f0 := fun _ => ev_same _ (by rw [s.sz]; exact hN 0 (by omega))
        f1 := fun h h2 => by rw [ev_ne _ (nd 1 (by omega) (by omega))]; exact s.f1 (by simpa [upd] using h) (by simpa [upd] using h2)
        f2 := fun h => by rw [ev_ne _ (nd 2 (by omega) (by omega))]; exact s.f2 (by simpa [upd] using h)
        f3 := fun h h2 => by rw [ev_ne _ (nd 3 (by omega) (by omega))]; exact s.f3 (by simpa [upd] using h) (by simpa [upd] using h2)
        f4 := fun h => by rw [ev_ne _ (nd 4 (by omega) (by omega))]; exact s.f4 (by simpa [upd] using h)
        f5 := fun h => by rw [ev_ne _ (nd 5 (by omega) (by omega))]; exact s.f5 (by simpa [upd] using h)
        f6 := fun h => by rw [ev_ne _ (nd 6 (by omega) (by omega))]; exact s.f6 (by simpa [upd] using h)
        f7 := fun h => by rw [ev_ne _ (nd 7 (by omega) (by omega))]; exact s.f7 (by simpa [upd] using h)
        f8 := fun h => by obtain ⟨k0, k1, k2, k3, k4⟩ := s.f8 (by simpa [upd] using h); exact ⟨(ev_ne _ (nd 8 (by omega) (by omega))).trans k0, k1, k2, fun h2 => (k3 (by simpa [upd] using h2)), fun h2 => k4 (by simpa [upd] using h2)⟩
        f9 := fun h => s.f9 (by simpa [upd] using h)
        f10 := fun h => by rw [ev_ne _ (nd 9 (by omega) (by omega))]; exact s.f10 (by simpa [upd] using h)
        q5 := fun h => by have h3 := s.q5 (by simpa [upd] using h); simp [upd, h3]
        q6 := fun h => by have h3 := s.q6 (by simpa [upd] using h); simp [upd, h3]
        q7 := fun h => by have h3 := s.q7 (by simpa [upd] using h); simp [upd, h3]
        q9 := fun h => by have h3 := s.q9 (by simpa [upd] using h); simp [upd, h3]
        q10 := fun h => by have h3 := s.q10 (by simpa [upd] using h); simp [upd, h3]
      }
    | 1, _ =>
      have hun : L 1 = false := hun
      have hp := e1 L hed
      show if Region.wanted x1 _ = true then x1.wp P a' w' K Q else K (a'.put x1.dst undef) w'
      rw [if_pos (by simp [Region.wanted, w1])]
      refine wp_call_fn g1 _ _ h1 hg1 ?_
      have he : (#[.tmp (d 0)] : Array Operand).map a'.eval = #[va0] := by simp [s.f0 hp]
      rw [he]
      refine (c1 w' s.bel).mono ?_
      rintro e w2 ⟨y, rfl, hy, hb⟩
      refine ⟨y, rfl, ?_⟩
      rw [t1]
      have nd : ∀ i, i < 10 → i ≠ 1 → d i ≠ d 1 := fun i hi hne e => hne (hd i hi 1 (by omega) e)
      refine hK _ _ ⟨v0, v1, B, C, b0, ?_⟩
      exact {
        sz := (put_size _ _ _).trans s.sz
        df := (put_defers _ _ _).trans s.df
        out := fun k hk => (put_get _ _ _ _ (hk 1 (by omega))).trans (s.out k hk)
        bel := s.bel.trans (hb.mono s.bel.size)
        f0 := fun h => by rw [ev_ne _ (nd 0 (by omega) (by omega))]; exact s.f0 (by simpa [upd] using h)
        f1 := fun _ _ => by rw [ev_same _ (by rw [s.sz]; exact hN 1 (by omega))]; exact hy
        f2 := fun h => by rw [ev_ne _ (nd 2 (by omega) (by omega))]; exact s.f2 (by simpa [upd] using h)
        f3 := fun h h2 => by rw [ev_ne _ (nd 3 (by omega) (by omega))]; exact hR3 _ _ _ (s.f3 (by simpa [upd] using h) (by simpa [upd] using h2)) hb
        f4 := fun h => by obtain ⟨k0, kc0, kr, k1, k2, k3⟩ := s.f4 (by simpa [upd] using h); exact ⟨(ev_ne _ (nd 4 (by omega) (by omega))).trans k0, kc0, hRM _ _ _ _ _ _ kr hb, k1, k2, Nat.le_trans k3 hb.size⟩
        f5 := fun h => by rw [ev_ne _ (nd 5 (by omega) (by omega))]; exact s.f5 (by simpa [upd] using h)
        f6 := fun h => by rw [ev_ne _ (nd 6 (by omega) (by omega))]; exact s.f6 (by simpa [upd] using h)
        f7 := fun h => by rw [ev_ne _ (nd 7 (by omega) (by omega))]; exact s.f7 (by simpa [upd] using h)
        f8 := fun h => by obtain ⟨k0, k1, k2, k3, k4⟩ := s.f8 (by simpa [upd] using h); exact ⟨(ev_ne _ (nd 8 (by omega) (by omega))).trans k0, k1, Nat.lt_of_lt_of_le k2 hb.size, fun h2 => (k3 (by simpa [upd] using h2)).below hb (Nat.le_refl _), fun h2 => k4 (by simpa [upd] using h2)⟩
        f9 := fun h => (s.f9 (by simpa [upd] using h)).below hb (Nat.le_refl _)
        f10 := fun h => by rw [ev_ne _ (nd 9 (by omega) (by omega))]; exact s.f10 (by simpa [upd] using h)
        q5 := fun h => by have h3 := s.q5 (by simpa [upd] using h); simp [upd, h3]
        q6 := fun h => by have h3 := s.q6 (by simpa [upd] using h); simp [upd, h3]
        q7 := fun h => by have h3 := s.q7 (by simpa [upd] using h); simp [upd, h3]
        q9 := fun h => by have h3 := s.q9 (by simpa [upd] using h); simp [upd, h3]
        q10 := fun h => by have h3 := s.q10 (by simpa [upd] using h); simp [upd, h3]
      }
    | 2, _ =>
      have hun : L 2 = false := hun
      show if Region.wanted x2 _ = true then x2.wp P a' w' K Q else K (a'.put x2.dst undef) w'
      rw [if_pos (by simp [Region.wanted, w2])]
      refine wp_load_run ty2 (.tmp s2) h2 va2 ?_ ?_
      · rw [ev_get (s.out s2 (hs2))]; exact hl2 w' s.bel
      rw [t2]
      have nd : ∀ i, i < 10 → i ≠ 2 → d i ≠ d 2 := fun i hi hne e => hne (hd i hi 2 (by omega) e)
      refine hK _ _ ⟨v0, v1, B, C, b0, ?_⟩
      exact {
        sz := (put_size _ _ _).trans s.sz
        df := (put_defers _ _ _).trans s.df
        out := fun k hk => (put_get _ _ _ _ (hk 2 (by omega))).trans (s.out k hk)
        bel := s.bel
        f0 := fun h => by rw [ev_ne _ (nd 0 (by omega) (by omega))]; exact s.f0 (by simpa [upd] using h)
        f1 := fun h h2 => by rw [ev_ne _ (nd 1 (by omega) (by omega))]; exact s.f1 (by simpa [upd] using h) (by simpa [upd] using h2)
        f2 := fun _ => ev_same _ (by rw [s.sz]; exact hN 2 (by omega))
        f3 := fun h h2 => by rw [ev_ne _ (nd 3 (by omega) (by omega))]; exact s.f3 (by simpa [upd] using h) (by simpa [upd] using h2)
        f4 := fun h => by rw [ev_ne _ (nd 4 (by omega) (by omega))]; exact s.f4 (by simpa [upd] using h)
        f5 := fun h => by rw [ev_ne _ (nd 5 (by omega) (by omega))]; exact s.f5 (by simpa [upd] using h)
        f6 := fun h => by rw [ev_ne _ (nd 6 (by omega) (by omega))]; exact s.f6 (by simpa [upd] using h)
        f7 := fun h => by rw [ev_ne _ (nd 7 (by omega) (by omega))]; exact s.f7 (by simpa [upd] using h)
        f8 := fun h => by obtain ⟨k0, k1, k2, k3, k4⟩ := s.f8 (by simpa [upd] using h); exact ⟨(ev_ne _ (nd 8 (by omega) (by omega))).trans k0, k1, k2, fun h2 => (k3 (by simpa [upd] using h2)), fun h2 => k4 (by simpa [upd] using h2)⟩
        f9 := fun h => s.f9 (by simpa [upd] using h)
        f10 := fun h => by rw [ev_ne _ (nd 9 (by omega) (by omega))]; exact s.f10 (by simpa [upd] using h)
        q5 := fun h => by have h3 := s.q5 (by simpa [upd] using h); simp [upd, h3]
        q6 := fun h => by have h3 := s.q6 (by simpa [upd] using h); simp [upd, h3]
        q7 := fun h => by have h3 := s.q7 (by simpa [upd] using h); simp [upd, h3]
        q9 := fun h => by have h3 := s.q9 (by simpa [upd] using h); simp [upd, h3]
        q10 := fun h => by have h3 := s.q10 (by simpa [upd] using h); simp [upd, h3]
      }
    | 3, _ =>
      have hun : L 3 = false := hun
      have hp := e3 L hed
      show if Region.wanted x3 _ = true then x3.wp P a' w' K Q else K (a'.put x3.dst undef) w'
      rw [if_pos (by simp [Region.wanted, w3])]
      refine wp_call_fn g3 _ _ h3 hg3 ?_
      have he : (#[.tmp (d 2)] : Array Operand).map a'.eval = #[va2] := by simp [s.f2 hp]
      rw [he]
      refine (c3 w' s.bel).mono ?_
      rintro e w2 ⟨y, rfl, hy, hb⟩
      refine ⟨y, rfl, ?_⟩
      rw [t3]
      have nd : ∀ i, i < 10 → i ≠ 3 → d i ≠ d 3 := fun i hi hne e => hne (hd i hi 3 (by omega) e)
      refine hK _ _ ⟨v0, v1, B, C, b0, ?_⟩
      exact {
        sz := (put_size _ _ _).trans s.sz
        df := (put_defers _ _ _).trans s.df
        out := fun k hk => (put_get _ _ _ _ (hk 3 (by omega))).trans (s.out k hk)
        bel := s.bel.trans (hb.mono s.bel.size)
        f0 := fun h => by rw [ev_ne _ (nd 0 (by omega) (by omega))]; exact s.f0 (by simpa [upd] using h)
        f1 := fun h h2 => by rw [ev_ne _ (nd 1 (by omega) (by omega))]; exact hR1 _ _ _ (s.f1 (by simpa [upd] using h) (by simpa [upd] using h2)) hb
        f2 := fun h => by rw [ev_ne _ (nd 2 (by omega) (by omega))]; exact s.f2 (by simpa [upd] using h)
        f3 := fun _ _ => by rw [ev_same _ (by rw [s.sz]; exact hN 3 (by omega))]; exact hy
        f4 := fun h => by obtain ⟨k0, kc0, kr, k1, k2, k3⟩ := s.f4 (by simpa [upd] using h); exact ⟨(ev_ne _ (nd 4 (by omega) (by omega))).trans k0, kc0, hRM _ _ _ _ _ _ kr hb, k1, k2, Nat.le_trans k3 hb.size⟩
        f5 := fun h => by rw [ev_ne _ (nd 5 (by omega) (by omega))]; exact s.f5 (by simpa [upd] using h)
        f6 := fun h => by rw [ev_ne _ (nd 6 (by omega) (by omega))]; exact s.f6 (by simpa [upd] using h)
        f7 := fun h => by rw [ev_ne _ (nd 7 (by omega) (by omega))]; exact s.f7 (by simpa [upd] using h)
        f8 := fun h => by obtain ⟨k0, k1, k2, k3, k4⟩ := s.f8 (by simpa [upd] using h); exact ⟨(ev_ne _ (nd 8 (by omega) (by omega))).trans k0, k1, Nat.lt_of_lt_of_le k2 hb.size, fun h2 => (k3 (by simpa [upd] using h2)).below hb (Nat.le_refl _), fun h2 => k4 (by simpa [upd] using h2)⟩
        f9 := fun h => (s.f9 (by simpa [upd] using h)).below hb (Nat.le_refl _)
        f10 := fun h => by rw [ev_ne _ (nd 9 (by omega) (by omega))]; exact s.f10 (by simpa [upd] using h)
        q5 := fun h => by have h3 := s.q5 (by simpa [upd] using h); simp [upd, h3]
        q6 := fun h => by have h3 := s.q6 (by simpa [upd] using h); simp [upd, h3]
        q7 := fun h => by have h3 := s.q7 (by simpa [upd] using h); simp [upd, h3]
        q9 := fun h => by have h3 := s.q9 (by simpa [upd] using h); simp [upd, h3]
        q10 := fun h => by have h3 := s.q10 (by simpa [upd] using h); simp [upd, h3]
      }
    | 4, _ =>
      have hun : L 4 = false := hun
      have hp := e4 L hed
      show if Region.wanted x4 _ = true then x4.wp P a' w' K Q else K (a'.put x4.dst undef) w'
      rw [if_pos (by simp [Region.wanted, w4])]
      refine wp_call_fn gm _ _ h4 hgm ?_
      have he : (#[.tmp (d 1), .tmp (d 3)] : Array Operand).map a'.eval = #[a'.eval (.tmp (d 1)), a'.eval (.tmp (d 3))] := by simp
      rw [he]
      refine (cm w' _ _ s.bel (s.f1 hp.1 hun) (s.f3 hp.2 hun)).mono ?_
      rintro e w2 ⟨z0, z1, rfl, hc0, hr, hb⟩
      refine ⟨_, rfl, ?_⟩
      rw [t4]
      have nd : ∀ i, i < 10 → i ≠ 4 → d i ≠ d 4 := fun i hi hne e => hne (hd i hi 4 (by omega) e)
      refine hK _ _ ⟨z0, z1, w'.heap.size, w2.heap.size, b0, ?_⟩
      exact {
        sz := (put_size _ _ _).trans s.sz
        df := (put_defers _ _ _).trans s.df
        out := fun k hk => (put_get _ _ _ _ (hk 4 (by omega))).trans (s.out k hk)
        bel := s.bel.trans (hb.mono s.bel.size)
        f0 := fun h => by rw [ev_ne _ (nd 0 (by omega) (by omega))]; exact s.f0 (by simpa [upd] using h)
        f1 := fun _ h => by simp [upd] at h
        f2 := fun h => by rw [ev_ne _ (nd 2 (by omega) (by omega))]; exact s.f2 (by simpa [upd] using h)
        f3 := fun _ h => by simp [upd] at h
        f4 := fun _ => ⟨ev_same _ (by rw [s.sz]; exact hN 4 (by omega)), hc0, hr, s.bel.size, hb.size, Nat.le_refl _⟩
        f5 := fun h => by have h3 := s.q5 (by simpa [upd] using h); rw [hun] at h3; cases h3
        f6 := fun h => by have h3 := s.q5 (s.q6 (by simpa [upd] using h)); rw [hun] at h3; cases h3
        f7 := fun h => by have h3 := s.q5 (s.q7 (by simpa [upd] using h)); rw [hun] at h3; cases h3
        f8 := fun h => by obtain ⟨k0, k1, k2, k3, k4⟩ := s.f8 (by simpa [upd] using h); exact ⟨(ev_ne _ (nd 8 (by omega) (by omega))).trans k0, k1, Nat.lt_of_lt_of_le k2 hb.size, fun h2 => (k3 (by simpa [upd] using h2)).below hb (Nat.le_refl _), fun _ => .inl k2⟩
        f9 := fun h => by have h3 := s.q5 (s.q6 (s.q9 (by simpa [upd] using h)).2); rw [hun] at h3; cases h3
        f10 := fun h => by have h3 := s.q5 (s.q7 (s.q10 (by simpa [upd] using h))); rw [hun] at h3; cases h3
        q5 := fun h => by have h3 := s.q5 (by simpa [upd] using h); simp [upd, h3]
        q6 := fun h => by have h3 := s.q6 (by simpa [upd] using h); simp [upd, h3]
        q7 := fun h => by have h3 := s.q7 (by simpa [upd] using h); simp [upd, h3]
        q9 := fun h => by have h3 := s.q9 (by simpa [upd] using h); simp [upd, h3]
        q10 := fun h => by have h3 := s.q10 (by simpa [upd] using h); simp [upd, h3]
      }
    | 5, _ =>
      have hun : L 5 = false := hun
      have hp := e5 L hed
      show if Region.wanted x5 _ = true then x5.wp P a' w' K Q else K (a'.put x5.dst undef) w'
      rw [if_pos (by simp [Region.wanted, w5])]
      refine BigFrame.wp_move _ h5 ?_
      rw [t5]
      have nd : ∀ i, i < 10 → i ≠ 5 → d i ≠ d 5 := fun i hi hne e => hne (hd i hi 5 (by omega) e)
      refine hK _ _ ⟨v0, v1, B, C, b0, ?_⟩
      exact {
        sz := (put_size _ _ _).trans s.sz
        df := (put_defers _ _ _).trans s.df
        out := fun k hk => (put_get _ _ _ _ (hk 5 (by omega))).trans (s.out k hk)
        bel := s.bel
        f0 := fun h => by rw [ev_ne _ (nd 0 (by omega) (by omega))]; exact s.f0 (by simpa [upd] using h)
        f1 := fun h h2 => by rw [ev_ne _ (nd 1 (by omega) (by omega))]; exact s.f1 (by simpa [upd] using h) (by simpa [upd] using h2)
        f2 := fun h => by rw [ev_ne _ (nd 2 (by omega) (by omega))]; exact s.f2 (by simpa [upd] using h)
        f3 := fun h h2 => by rw [ev_ne _ (nd 3 (by omega) (by omega))]; exact s.f3 (by simpa [upd] using h) (by simpa [upd] using h2)
        f4 := fun h => by rw [ev_ne _ (nd 4 (by omega) (by omega))]; exact s.f4 (by simpa [upd] using h)
        f5 := fun _ => by rw [ev_same _ (by rw [s.sz]; exact hN 5 (by omega))]; exact (s.f4 hp).1
        f6 := fun h => by rw [ev_ne _ (nd 6 (by omega) (by omega))]; exact s.f6 (by simpa [upd] using h)
        f7 := fun h => by rw [ev_ne _ (nd 7 (by omega) (by omega))]; exact s.f7 (by simpa [upd] using h)
        f8 := fun h => by obtain ⟨k0, k1, k2, k3, k4⟩ := s.f8 (by simpa [upd] using h); exact ⟨(ev_ne _ (nd 8 (by omega) (by omega))).trans k0, k1, k2, fun h2 => (k3 (by simpa [upd] using h2)), fun h2 => k4 (by simpa [upd] using h2)⟩
        f9 := fun h => s.f9 (by simpa [upd] using h)
        f10 := fun h => by rw [ev_ne _ (nd 9 (by omega) (by omega))]; exact s.f10 (by simpa [upd] using h)
        q5 := fun _ => by simpa [upd] using hp
        q6 := fun h => by have h3 := s.q6 (by simpa [upd] using h); simp [upd, h3]
        q7 := fun h => by have h3 := s.q7 (by simpa [upd] using h); simp [upd, h3]
        q9 := fun h => by have h3 := s.q9 (by simpa [upd] using h); simp [upd, h3]
        q10 := fun h => by have h3 := s.q10 (by simpa [upd] using h); simp [upd, h3]
      }
    | 6, _ =>
      have hun : L 6 = false := hun
      have hp := e6 L hed
      show if Region.wanted x6 _ = true then x6.wp P a' w' K Q else K (a'.put x6.dst undef) w'
      rw [if_pos (by simp [Region.wanted, w6])]
      refine wp_extract _ _ h6 _ v0 (s.f5 hp) (by rfl) ?_
      rw [t6]
      have nd : ∀ i, i < 10 → i ≠ 6 → d i ≠ d 6 := fun i hi hne e => hne (hd i hi 6 (by omega) e)
      refine hK _ _ ⟨v0, v1, B, C, b0, ?_⟩
      exact {
        sz := (put_size _ _ _).trans s.sz
        df := (put_defers _ _ _).trans s.df
        out := fun k hk => (put_get _ _ _ _ (hk 6 (by omega))).trans (s.out k hk)
        bel := s.bel
        f0 := fun h => by rw [ev_ne _ (nd 0 (by omega) (by omega))]; exact s.f0 (by simpa [upd] using h)
        f1 := fun h h2 => by rw [ev_ne _ (nd 1 (by omega) (by omega))]; exact s.f1 (by simpa [upd] using h) (by simpa [upd] using h2)
        f2 := fun h => by rw [ev_ne _ (nd 2 (by omega) (by omega))]; exact s.f2 (by simpa [upd] using h)
        f3 := fun h h2 => by rw [ev_ne _ (nd 3 (by omega) (by omega))]; exact s.f3 (by simpa [upd] using h) (by simpa [upd] using h2)
        f4 := fun h => by rw [ev_ne _ (nd 4 (by omega) (by omega))]; exact s.f4 (by simpa [upd] using h)
        f5 := fun h => by rw [ev_ne _ (nd 5 (by omega) (by omega))]; exact s.f5 (by simpa [upd] using h)
        f6 := fun _ => ev_same _ (by rw [s.sz]; exact hN 6 (by omega))
        f7 := fun h => by rw [ev_ne _ (nd 7 (by omega) (by omega))]; exact s.f7 (by simpa [upd] using h)
        f8 := fun h => by obtain ⟨k0, k1, k2, k3, k4⟩ := s.f8 (by simpa [upd] using h); exact ⟨(ev_ne _ (nd 8 (by omega) (by omega))).trans k0, k1, k2, fun h2 => (k3 (by simpa [upd] using h2)), fun h2 => k4 (by simpa [upd] using h2)⟩
        f9 := fun h => s.f9 (by simpa [upd] using h)
        f10 := fun h => by rw [ev_ne _ (nd 9 (by omega) (by omega))]; exact s.f10 (by simpa [upd] using h)
        q5 := fun h => by have h3 := s.q5 (by simpa [upd] using h); simp [upd, h3]
        q6 := fun _ => by simpa [upd] using hp
        q7 := fun h => by have h3 := s.q7 (by simpa [upd] using h); simp [upd, h3]
        q9 := fun h => by have h3 := s.q9 (by simpa [upd] using h); simp [upd, h3]
        q10 := fun h => by have h3 := s.q10 (by simpa [upd] using h); simp [upd, h3]
      }
    | 7, _ =>
      have hun : L 7 = false := hun
      have hp := e7 L hed
      show if Region.wanted x7 _ = true then x7.wp P a' w' K Q else K (a'.put x7.dst undef) w'
      rw [if_pos (by simp [Region.wanted, w7])]
      refine wp_extract _ _ h7 _ v1 (s.f5 hp) (by rfl) ?_
      rw [t7]
      have nd : ∀ i, i < 10 → i ≠ 7 → d i ≠ d 7 := fun i hi hne e => hne (hd i hi 7 (by omega) e)
      refine hK _ _ ⟨v0, v1, B, C, b0, ?_⟩
      exact {
        sz := (put_size _ _ _).trans s.sz
        df := (put_defers _ _ _).trans s.df
        out := fun k hk => (put_get _ _ _ _ (hk 7 (by omega))).trans (s.out k hk)
        bel := s.bel
        f0 := fun h => by rw [ev_ne _ (nd 0 (by omega) (by omega))]; exact s.f0 (by simpa [upd] using h)
        f1 := fun h h2 => by rw [ev_ne _ (nd 1 (by omega) (by omega))]; exact s.f1 (by simpa [upd] using h) (by simpa [upd] using h2)
        f2 := fun h => by rw [ev_ne _ (nd 2 (by omega) (by omega))]; exact s.f2 (by simpa [upd] using h)
        f3 := fun h h2 => by rw [ev_ne _ (nd 3 (by omega) (by omega))]; exact s.f3 (by simpa [upd] using h) (by simpa [upd] using h2)
        f4 := fun h => by rw [ev_ne _ (nd 4 (by omega) (by omega))]; exact s.f4 (by simpa [upd] using h)
        f5 := fun h => by rw [ev_ne _ (nd 5 (by omega) (by omega))]; exact s.f5 (by simpa [upd] using h)
        f6 := fun h => by rw [ev_ne _ (nd 6 (by omega) (by omega))]; exact s.f6 (by simpa [upd] using h)
        f7 := fun _ => ev_same _ (by rw [s.sz]; exact hN 7 (by omega))
        f8 := fun h => by obtain ⟨k0, k1, k2, k3, k4⟩ := s.f8 (by simpa [upd] using h); exact ⟨(ev_ne _ (nd 8 (by omega) (by omega))).trans k0, k1, k2, fun h2 => (k3 (by simpa [upd] using h2)), fun h2 => k4 (by simpa [upd] using h2)⟩
        f9 := fun h => s.f9 (by simpa [upd] using h)
        f10 := fun h => by rw [ev_ne _ (nd 9 (by omega) (by omega))]; exact s.f10 (by simpa [upd] using h)
        q5 := fun h => by have h3 := s.q5 (by simpa [upd] using h); simp [upd, h3]
        q6 := fun h => by have h3 := s.q6 (by simpa [upd] using h); simp [upd, h3]
        q7 := fun _ => by simpa [upd] using hp
        q9 := fun h => by have h3 := s.q9 (by simpa [upd] using h); simp [upd, h3]
        q10 := fun h => by have h3 := s.q10 (by simpa [upd] using h); simp [upd, h3]
      }
    | 8, _ =>
      have hun : L 8 = false := hun
      show if Region.wanted x8 _ = true then x8.wp P a' w' K Q else K (a'.put x8.dst undef) w'
      rw [if_pos (by simp [Region.wanted, w8])]
      refine wp_alloc_op _ h8 _ (hal0 w') ?_
      have hb : Below w'.heap.size w' (w'.alloc (.cells Z0.toArray T0)) := (Below.refl _ _).alloc (Nat.le_refl _) _
      have hnew : Box (w'.alloc (.cells Z0.toArray T0)) w'.heap.size n0 T0 (.agg Z0.toArray) := by rw [← hZn0]; exact Box.new w' Z0 T0 hZ0 rfl
      rw [t8]
      have nd : ∀ i, i < 10 → i ≠ 8 → d i ≠ d 8 := fun i hi hne e => hne (hd i hi 8 (by omega) e)
      refine hK _ _ ⟨v0, v1, B, C, w'.heap.size, ?_⟩
      exact {
        sz := (put_size _ _ _).trans s.sz
        df := (put_defers _ _ _).trans s.df
        out := fun k hk => (put_get _ _ _ _ (hk 8 (by omega))).trans (s.out k hk)
        bel := s.bel.trans (hb.mono s.bel.size)
        f0 := fun h => by rw [ev_ne _ (nd 0 (by omega) (by omega))]; exact s.f0 (by simpa [upd] using h)
        f1 := fun h h2 => by rw [ev_ne _ (nd 1 (by omega) (by omega))]; exact hR1 _ _ _ (s.f1 (by simpa [upd] using h) (by simpa [upd] using h2)) hb
        f2 := fun h => by rw [ev_ne _ (nd 2 (by omega) (by omega))]; exact s.f2 (by simpa [upd] using h)
        f3 := fun h h2 => by rw [ev_ne _ (nd 3 (by omega) (by omega))]; exact hR3 _ _ _ (s.f3 (by simpa [upd] using h) (by simpa [upd] using h2)) hb
        f4 := fun h => by obtain ⟨k0, kc0, kr, k1, k2, k3⟩ := s.f4 (by simpa [upd] using h); exact ⟨(ev_ne _ (nd 4 (by omega) (by omega))).trans k0, kc0, hRM _ _ _ _ _ _ kr hb, k1, k2, Nat.le_trans k3 hb.size⟩
        f5 := fun h => by rw [ev_ne _ (nd 5 (by omega) (by omega))]; exact s.f5 (by simpa [upd] using h)
        f6 := fun h => by rw [ev_ne _ (nd 6 (by omega) (by omega))]; exact s.f6 (by simpa [upd] using h)
        f7 := fun h => by rw [ev_ne _ (nd 7 (by omega) (by omega))]; exact s.f7 (by simpa [upd] using h)
        f8 := fun _ => ⟨ev_same _ (by rw [s.sz]; exact hN 8 (by omega)), s.bel.size, hnew.lt, fun _ => hnew, fun h => .inr (s.f4 (by simpa [upd] using h)).2.2.2.2.2⟩
        f9 := fun h => by have h3 := (s.q9 (by simpa [upd] using h)).1; rw [hun] at h3; cases h3
        f10 := fun h => by rw [ev_ne _ (nd 9 (by omega) (by omega))]; exact s.f10 (by simpa [upd] using h)
        q5 := fun h => by have h3 := s.q5 (by simpa [upd] using h); simp [upd, h3]
        q6 := fun h => by have h3 := s.q6 (by simpa [upd] using h); simp [upd, h3]
        q7 := fun h => by have h3 := s.q7 (by simpa [upd] using h); simp [upd, h3]
        q9 := fun h => by have h3 := s.q9 (by simpa [upd] using h); simp [upd, h3]
        q10 := fun h => by have h3 := s.q10 (by simpa [upd] using h); simp [upd, h3]
      }
    | 9, _ =>
      have hun : L 9 = false := hun
      have hp := e9 L hed
      show if Region.wanted x9 _ = true then x9.wp P a' w' K Q else K (a'.put x9.dst undef) w'
      rw [if_pos (by simp [Region.wanted, w9])]
      have hst := s.f8 hp.2.2
      refine wp_store_box _ _ _ h9 b0 n0 T0 _ v0 hst.1 (s.f6 hp.2.1) (hst.2.2.2.1 hun) (s.f4 hp.1).2.1 hi0 ?_
      intro w2 hbox hO hsz
      rw [t9]
      refine hK _ _ ⟨v0, v1, B, C, b0, ?_⟩
      exact {
        sz := s.sz
        df := s.df
        out := s.out
        bel := s.bel.trans ((hO.below (by have := hst.2.2.1; omega)).mono hst.2.1)
        f0 := fun h => by exact s.f0 (by simpa [upd] using h)
        f1 := fun h h2 => by have h3 : L 4 = false := (by simpa [upd] using h2); rw [hp.1] at h3; cases h3
        f2 := fun h => by exact s.f2 (by simpa [upd] using h)
        f3 := fun h h2 => by have h3 : L 4 = false := (by simpa [upd] using h2); rw [hp.1] at h3; cases h3
        f4 := fun h => by obtain ⟨k0, kc0, kr, k1, k2, k3⟩ := s.f4 (by simpa [upd] using h); exact ⟨k0, kc0, hRMo _ _ _ _ _ _ _ kr hO ((hst.2.2.2.2) hp.1), k1, k2, by omega⟩
        f5 := fun h => by exact s.f5 (by simpa [upd] using h)
        f6 := fun h => by exact s.f6 (by simpa [upd] using h)
        f7 := fun h => by exact s.f7 (by simpa [upd] using h)
        f8 := fun h => by obtain ⟨k0, k1, k2, k3, k4⟩ := s.f8 (by simpa [upd] using h); exact ⟨k0, k1, by omega, fun h2 => by simp [upd] at h2, fun h2 => k4 (by simpa [upd] using h2)⟩
        f9 := fun _ => hbox
        f10 := fun h => by exact s.f10 (by simpa [upd] using h)
        q5 := fun h => by have h3 := s.q5 (by simpa [upd] using h); simp [upd, h3]
        q6 := fun h => by have h3 := s.q6 (by simpa [upd] using h); simp [upd, h3]
        q7 := fun h => by have h3 := s.q7 (by simpa [upd] using h); simp [upd, h3]
        q9 := fun _ => ⟨by simpa [upd] using hp.2.2, by simpa [upd] using hp.2.1⟩
        q10 := fun h => by have h3 := s.q10 (by simpa [upd] using h); simp [upd, h3]
      }
    | 10, _ =>
      have hun : L 10 = false := hun
      have hp := e10 L hed
      show if Region.wanted x10 _ = true then x10.wp P a' w' K Q else K (a'.put x10.dst undef) w'
      rw [if_pos (by simp [Region.wanted, w10])]
      refine BigFrame.wp_assign _ h10 ?_
      rw [t10]
      have nd : ∀ i, i < 10 → i ≠ 9 → d i ≠ d 9 := fun i hi hne e => hne (hd i hi 9 (by omega) e)
      refine hK _ _ ⟨v0, v1, B, C, b0, ?_⟩
      exact {
        sz := (put_size _ _ _).trans s.sz
        df := (put_defers _ _ _).trans s.df
        out := fun k hk => (put_get _ _ _ _ (hk 9 (by omega))).trans (s.out k hk)
        bel := s.bel
        f0 := fun h => by rw [ev_ne _ (nd 0 (by omega) (by omega))]; exact s.f0 (by simpa [upd] using h)
        f1 := fun h h2 => by rw [ev_ne _ (nd 1 (by omega) (by omega))]; exact s.f1 (by simpa [upd] using h) (by simpa [upd] using h2)
        f2 := fun h => by rw [ev_ne _ (nd 2 (by omega) (by omega))]; exact s.f2 (by simpa [upd] using h)
        f3 := fun h h2 => by rw [ev_ne _ (nd 3 (by omega) (by omega))]; exact s.f3 (by simpa [upd] using h) (by simpa [upd] using h2)
        f4 := fun h => by rw [ev_ne _ (nd 4 (by omega) (by omega))]; exact s.f4 (by simpa [upd] using h)
        f5 := fun h => by rw [ev_ne _ (nd 5 (by omega) (by omega))]; exact s.f5 (by simpa [upd] using h)
        f6 := fun h => by rw [ev_ne _ (nd 6 (by omega) (by omega))]; exact s.f6 (by simpa [upd] using h)
        f7 := fun h => by rw [ev_ne _ (nd 7 (by omega) (by omega))]; exact s.f7 (by simpa [upd] using h)
        f8 := fun h => by obtain ⟨k0, k1, k2, k3, k4⟩ := s.f8 (by simpa [upd] using h); exact ⟨(ev_ne _ (nd 8 (by omega) (by omega))).trans k0, k1, k2, fun h2 => (k3 (by simpa [upd] using h2)), fun h2 => k4 (by simpa [upd] using h2)⟩
        f9 := fun h => s.f9 (by simpa [upd] using h)
        f10 := fun _ => by rw [ev_same _ (by rw [s.sz]; exact hN 9 (by omega))]; exact s.f7 hp
        q5 := fun h => by have h3 := s.q5 (by simpa [upd] using h); simp [upd, h3]
        q6 := fun h => by have h3 := s.q6 (by simpa [upd] using h); simp [upd, h3]
        q7 := fun h => by have h3 := s.q7 (by simpa [upd] using h); simp [upd, h3]
        q9 := fun h => by have h3 := s.q9 (by simpa [upd] using h); simp [upd, h3]
        q10 := fun _ => by simpa [upd] using hp
      }

/-- S2: what holds while the region runs. -/
structure S2I (d : Nat → Nat) (A0 : Act) (W : World) (RM : World → Nat → Nat → Value → Value → Prop) (va0 : Value) (va1 : Value) (R2 : World → Value → Prop) (n0 : Nat) (T0 : TypeId) (Z0 : List Value) (L : Nat → Bool) (a' : Act) (w' : World) (v0 : Value) (v1 : Value) (B C b0 : Nat) : Prop where
  sz : a'.tmps.size = A0.tmps.size
  df : a'.defers = A0.defers
  out : ∀ k, (∀ i, i < 9 → k ≠ d i) → a'.tmps[k]? = A0.tmps[k]?
  bel : Below W.heap.size W w'
  f0 : L 0 = true → a'.eval (.tmp (d 0)) = va0
  f1 : L 1 = true → a'.eval (.tmp (d 1)) = va1
  f2 : L 2 = true → L 3 = false → R2 w' (a'.eval (.tmp (d 2)))
  f3 : L 3 = true → a'.eval (.tmp (d 3)) = .tuple #[v0, v1] ∧ Cells n0 v0 ∧  RM w' B C v0 v1 ∧ W.heap.size ≤ B ∧ B ≤ C ∧ C ≤ w'.heap.size
  f4 : L 4 = true → a'.eval (.tmp (d 4)) = .tuple #[v0, v1]
  f5 : L 5 = true → a'.eval (.tmp (d 5)) = v0
  f6 : L 6 = true → a'.eval (.tmp (d 6)) = v1
  f7 : L 7 = true → a'.eval (.tmp (d 7)) = .pointer (some ⟨b0, 0, none⟩) ∧ W.heap.size ≤ b0 ∧ b0 < w'.heap.size ∧ (L 8 = false → Box w' b0 n0 T0 (.agg Z0.toArray)) ∧ (L 3 = true → b0 < B ∨ C ≤ b0)
  f8 : L 8 = true → Box w' b0 n0 T0 v0
  f9 : L 9 = true → a'.eval (.tmp (d 8)) = v1
  q4 : L 4 = true → L 3 = true
  q5 : L 5 = true → L 4 = true
  q6 : L 6 = true → L 4 = true
  q8 : L 8 = true → L 7 = true ∧ L 5 = true
  q9 : L 9 = true → L 6 = true

theorem region_S2 {P : Program} {id : Nat} {Q : Exit → Act → World → Prop} {A0 : Act} {W : World} {x0 x1 x2 x3 x4 x5 x6 x7 x8 x9 : Oper} (hm : P.follows .mixedOrders = true) (hB : backB [x0, x1, x2, x3, x4, x5, x6, x7, x8, x9] = true)
    (d : Nat → Nat) (hd : ∀ i, i < 9 → ∀ j, j < 9 → d i = d j → i = j) (hN : ∀ i, i < 9 → d i < A0.tmps.size)
    (RM : World → Nat → Nat → Value → Value → Prop) (hRM : ∀ w1 w2 B C v0 v1, RM w1 B C v0 v1 → Below w1.heap.size w1 w2 → RM w2 B C v0 v1) (hRMo : ∀ w1 w2 B C v0 v1 b, RM w1 B C v0 v1 → Outside b (b + 1) w1 w2 → (b < B ∨ C ≤ b) → RM w2 B C v0 v1)
    (va0 : Value) (s0 : Nat) (hs0 : ∀ i, i < 9 → s0 ≠ d i) (ty0 : TypeId) (hl0 : ∀ w1, Below W.heap.size W w1 → (Instr.loadAt ty0 (A0.eval (.tmp s0))).run P w1 = .ok va0 w1)
    (va1 : Value) (s1 : Nat) (hs1 : ∀ i, i < 9 → s1 ≠ d i) (ty1 : TypeId) (hl1 : ∀ w1, Below W.heap.size W w1 → (Instr.loadAt ty1 (A0.eval (.tmp s1))).run P w1 = .ok va1 w1)
    (R2 : World → Value → Prop) (hR2 : ∀ w1 w2 v, R2 w1 v → Below w1.heap.size w1 w2 → R2 w2 v) (g2 : FuncId) (ts2 : Array TypeId) (hg2 : ∀ (args : Array Value) (w : World), (callFunc g2 args).run P w = .ok (.enter g2 args) w)
    (c2 : ∀ w1, Below W.heap.size W w1 → Calls P g2 #[va1] w1 fun e w2 => ∃ v, e = .returned v ∧ R2 w2 v ∧ Below w1.heap.size w1 w2)
    (gm : FuncId) (tsm : Array TypeId) (hgm : ∀ (args : Array Value) (w : World), (callFunc gm args).run P w = .ok (.enter gm args) w)
    (n0 : Nat) (T0 : TypeId) (Z0 : List Value) (hZ0 : (Z0.all fun u => u.oneCell') = true) (hZn0 : Z0.length = n0) (hal0 : ∀ w : World, (Instr.alloc T0 true (.tuple #[])).run P w = .ok (.pointer (some ⟨w.heap.size, 0, none⟩)) (w.alloc (.cells Z0.toArray T0))) (hi0 : (P.info? T0).map (·.size) = some n0)
    (cm : ∀ w1 y2, Below W.heap.size W w1 → R2 w1 y2 → Calls P gm #[va0, y2] w1 fun e w2 => ∃ v0 v1, e = .returned (.tuple #[v0, v1]) ∧ Cells n0 v0 ∧ RM w2 w1.heap.size w2.heap.size v0 v1 ∧ Below w1.heap.size w1 w2)
    (h0 : x0.op = .load ty0 (.tmp s0)) (t0 : x0.dst = some (d 0)) (w0 : x0.guard = none)
    (h1 : x1.op = .load ty1 (.tmp s1)) (t1 : x1.dst = some (d 1)) (w1 : x1.guard = none)
    (h2 : x2.op = .call { callee := .value (.func g2), args := #[.tmp (d 1)], argTypes := ts2 }) (t2 : x2.dst = some (d 2)) (w2 : x2.guard = none) (e2 : ∀ L : Nat → Bool, (x2.after.all fun e => !Region.binds .any e || L e.on) = true → L 1 = true)
    (h3 : x3.op = .call { callee := .value (.func gm), args := #[.tmp (d 0), .tmp (d 2)], argTypes := tsm }) (t3 : x3.dst = some (d 3)) (w3 : x3.guard = none) (e3 : ∀ L : Nat → Bool, (x3.after.all fun e => !Region.binds .any e || L e.on) = true → L 0 = true ∧ L 2 = true)
    (h4 : x4.op = .move (.tmp (d 3))) (t4 : x4.dst = some (d 4)) (w4 : x4.guard = none) (e4 : ∀ L : Nat → Bool, (x4.after.all fun e => !Region.binds .any e || L e.on) = true → L 3 = true)
    (h5 : x5.op = .extract (.tmp (d 4)) 0) (t5 : x5.dst = some (d 5)) (w5 : x5.guard = none) (e5 : ∀ L : Nat → Bool, (x5.after.all fun e => !Region.binds .any e || L e.on) = true → L 4 = true)
    (h6 : x6.op = .extract (.tmp (d 4)) 1) (t6 : x6.dst = some (d 6)) (w6 : x6.guard = none) (e6 : ∀ L : Nat → Bool, (x6.after.all fun e => !Region.binds .any e || L e.on) = true → L 4 = true)
    (h7 : x7.op = .alloc T0) (t7 : x7.dst = some (d 7)) (w7 : x7.guard = none)
    (h8 : x8.op = .store T0 (.tmp (d 7)) (.tmp (d 5))) (t8 : x8.dst = none) (w8 : x8.guard = none) (e8 : ∀ L : Nat → Bool, (x8.after.all fun e => !Region.binds .any e || L e.on) = true → L 3 = true ∧ L 5 = true ∧ L 7 = true)
    (h9 : x9.op = .assign (.tmp (d 6))) (t9 : x9.dst = some (d 8)) (w9 : x9.guard = none) (e9 : ∀ L : Nat → Bool, (x9.after.all fun e => !Region.binds .any e || L e.on) = true → L 6 = true)
    (fin : ∀ w1 (v0 : Value) (v1 : Value) (B C b0 : Nat) (u0 : Value) (u1 : Value) (u2 : Value) (u3 : Value) (u4 : Value) (u5 : Value) (u6 : Value), Below W.heap.size W w1 → RM w1 B C v0 v1 → W.heap.size ≤ B → B ≤ C → C ≤ w1.heap.size → Box w1 b0 n0 T0 v0 → W.heap.size ≤ b0 → (b0 < B ∨ C ≤ b0) → Q .normal (frameWith A0 [(d 0, u0), (d 1, u1), (d 2, u2), (d 3, u3), (d 4, u4), (d 5, u5), (d 6, u6), (d 7, .pointer (some ⟨b0, 0, none⟩)), (d 8, v1)]) w1) :
    (Code.region id [x0, x1, x2, x3, x4, x5, x6, x7, x8, x9].toArray true).wp P Q A0 W := by
  refine wp_region_inv hm hB (fun L a' w' => ∃ (v0 : Value) (v1 : Value) (B C b0 : Nat), S2I d A0 W RM va0 va1 R2 n0 T0 Z0 L a' w' v0 v1 B C b0) ?_ ?_ ?_
  · refine ⟨undef, undef, 0, 0, 0, ⟨rfl, rfl, fun _ _ => rfl, (Below.refl _ _).drew, (fun h => by cases h), (fun h => by cases h), (fun h => by cases h), (fun h => by cases h), (fun h => by cases h), (fun h => by cases h), (fun h => by cases h), (fun h => by cases h), (fun h => by cases h), (fun h => by cases h), (fun h => by cases h), (fun h => by cases h), (fun h => by cases h), (fun h => by cases h), (fun h => by cases h)⟩⟩
  · rintro L a' w' ⟨v0, v1, B, C, b0, s⟩ hall
    have hL0 := hall 0 (by simp)
    have hL1 := hall 1 (by simp)
    have hL2 := hall 2 (by simp)
    have hL3 := hall 3 (by simp)
    have hL4 := hall 4 (by simp)
    have hL5 := hall 5 (by simp)
    have hL6 := hall 6 (by simp)
    have hL7 := hall 7 (by simp)
    have hL8 := hall 8 (by simp)
    have hL9 := hall 9 (by simp)
    have ha := frame_of (a := A0) (a' := a') [d 0, d 1, d 2, d 3, d 4, d 5, d 6, d 7, d 8] s.sz s.df (fun k hk => s.out k (fun i hi e => hk (by
      subst e
      match i, hi with
      | 0, _ => simp
      | 1, _ => simp
      | 2, _ => simp
      | 3, _ => simp
      | 4, _ => simp
      | 5, _ => simp
      | 6, _ => simp
      | 7, _ => simp
      | 8, _ => simp
      )))
    simp only [List.map_cons, List.map_nil] at ha
    rw [(s.f7 hL7).1] at ha
    rw [s.f9 hL9] at ha
    rw [ha]
    obtain ⟨_, _, hr, hb1, hb2, hb3⟩ := s.f3 hL3
    exact fin w' v0 v1 B C b0 _ _ _ _ _ _ _ s.bel hr hb1 hb2 hb3 (s.f8 hL8) (s.f7 hL7).2.1 ((s.f7 hL7).2.2.2.2 hL3)
  · intro i hi L a' w'
    rintro ⟨v0, v1, B, C, b0, s⟩ hun hed K hK
    match i, hi with
    | 0, _ =>
      have hun : L 0 = false := hun
      show if Region.wanted x0 _ = true then x0.wp P a' w' K Q else K (a'.put x0.dst undef) w'
      rw [if_pos (by simp [Region.wanted, w0])]
      refine wp_load_run ty0 (.tmp s0) h0 va0 ?_ ?_
      · rw [ev_get (s.out s0 (hs0))]; exact hl0 w' s.bel
      rw [t0]
      have nd : ∀ i, i < 9 → i ≠ 0 → d i ≠ d 0 := fun i hi hne e => hne (hd i hi 0 (by omega) e)
      refine hK _ _ ⟨v0, v1, B, C, b0, ?_⟩
      exact {
        sz := (put_size _ _ _).trans s.sz
        df := (put_defers _ _ _).trans s.df
        out := fun k hk => (put_get _ _ _ _ (hk 0 (by omega))).trans (s.out k hk)
        bel := s.bel
        f0 := fun _ => ev_same _ (by rw [s.sz]; exact hN 0 (by omega))
        f1 := fun h => by rw [ev_ne _ (nd 1 (by omega) (by omega))]; exact s.f1 (by simpa [upd] using h)
        f2 := fun h h2 => by rw [ev_ne _ (nd 2 (by omega) (by omega))]; exact s.f2 (by simpa [upd] using h) (by simpa [upd] using h2)
        f3 := fun h => by rw [ev_ne _ (nd 3 (by omega) (by omega))]; exact s.f3 (by simpa [upd] using h)
        f4 := fun h => by rw [ev_ne _ (nd 4 (by omega) (by omega))]; exact s.f4 (by simpa [upd] using h)
        f5 := fun h => by rw [ev_ne _ (nd 5 (by omega) (by omega))]; exact s.f5 (by simpa [upd] using h)
        f6 := fun h => by rw [ev_ne _ (nd 6 (by omega) (by omega))]; exact s.f6 (by simpa [upd] using h)
        f7 := fun h => by obtain ⟨k0, k1, k2, k3, k4⟩ := s.f7 (by simpa [upd] using h); exact ⟨(ev_ne _ (nd 7 (by omega) (by omega))).trans k0, k1, k2, fun h2 => (k3 (by simpa [upd] using h2)), fun h2 => k4 (by simpa [upd] using h2)⟩
        f8 := fun h => s.f8 (by simpa [upd] using h)
        f9 := fun h => by rw [ev_ne _ (nd 8 (by omega) (by omega))]; exact s.f9 (by simpa [upd] using h)
        q4 := fun h => by have h3 := s.q4 (by simpa [upd] using h); simp [upd, h3]
        q5 := fun h => by have h3 := s.q5 (by simpa [upd] using h); simp [upd, h3]
        q6 := fun h => by have h3 := s.q6 (by simpa [upd] using h); simp [upd, h3]
        q8 := fun h => by have h3 := s.q8 (by simpa [upd] using h); simp [upd, h3]
        q9 := fun h => by have h3 := s.q9 (by simpa [upd] using h); simp [upd, h3]
      }
    | 1, _ =>
      have hun : L 1 = false := hun
      show if Region.wanted x1 _ = true then x1.wp P a' w' K Q else K (a'.put x1.dst undef) w'
      rw [if_pos (by simp [Region.wanted, w1])]
      refine wp_load_run ty1 (.tmp s1) h1 va1 ?_ ?_
      · rw [ev_get (s.out s1 (hs1))]; exact hl1 w' s.bel
      rw [t1]
      have nd : ∀ i, i < 9 → i ≠ 1 → d i ≠ d 1 := fun i hi hne e => hne (hd i hi 1 (by omega) e)
      refine hK _ _ ⟨v0, v1, B, C, b0, ?_⟩
      exact {
        sz := (put_size _ _ _).trans s.sz
        df := (put_defers _ _ _).trans s.df
        out := fun k hk => (put_get _ _ _ _ (hk 1 (by omega))).trans (s.out k hk)
        bel := s.bel
        f0 := fun h => by rw [ev_ne _ (nd 0 (by omega) (by omega))]; exact s.f0 (by simpa [upd] using h)
        f1 := fun _ => ev_same _ (by rw [s.sz]; exact hN 1 (by omega))
        f2 := fun h h2 => by rw [ev_ne _ (nd 2 (by omega) (by omega))]; exact s.f2 (by simpa [upd] using h) (by simpa [upd] using h2)
        f3 := fun h => by rw [ev_ne _ (nd 3 (by omega) (by omega))]; exact s.f3 (by simpa [upd] using h)
        f4 := fun h => by rw [ev_ne _ (nd 4 (by omega) (by omega))]; exact s.f4 (by simpa [upd] using h)
        f5 := fun h => by rw [ev_ne _ (nd 5 (by omega) (by omega))]; exact s.f5 (by simpa [upd] using h)
        f6 := fun h => by rw [ev_ne _ (nd 6 (by omega) (by omega))]; exact s.f6 (by simpa [upd] using h)
        f7 := fun h => by obtain ⟨k0, k1, k2, k3, k4⟩ := s.f7 (by simpa [upd] using h); exact ⟨(ev_ne _ (nd 7 (by omega) (by omega))).trans k0, k1, k2, fun h2 => (k3 (by simpa [upd] using h2)), fun h2 => k4 (by simpa [upd] using h2)⟩
        f8 := fun h => s.f8 (by simpa [upd] using h)
        f9 := fun h => by rw [ev_ne _ (nd 8 (by omega) (by omega))]; exact s.f9 (by simpa [upd] using h)
        q4 := fun h => by have h3 := s.q4 (by simpa [upd] using h); simp [upd, h3]
        q5 := fun h => by have h3 := s.q5 (by simpa [upd] using h); simp [upd, h3]
        q6 := fun h => by have h3 := s.q6 (by simpa [upd] using h); simp [upd, h3]
        q8 := fun h => by have h3 := s.q8 (by simpa [upd] using h); simp [upd, h3]
        q9 := fun h => by have h3 := s.q9 (by simpa [upd] using h); simp [upd, h3]
      }
    | 2, _ =>
      have hun : L 2 = false := hun
      have hp := e2 L hed
      show if Region.wanted x2 _ = true then x2.wp P a' w' K Q else K (a'.put x2.dst undef) w'
      rw [if_pos (by simp [Region.wanted, w2])]
      refine wp_call_fn g2 _ _ h2 hg2 ?_
      have he : (#[.tmp (d 1)] : Array Operand).map a'.eval = #[va1] := by simp [s.f1 hp]
      rw [he]
      refine (c2 w' s.bel).mono ?_
      rintro e w2 ⟨y, rfl, hy, hb⟩
      refine ⟨y, rfl, ?_⟩
      rw [t2]
      have nd : ∀ i, i < 9 → i ≠ 2 → d i ≠ d 2 := fun i hi hne e => hne (hd i hi 2 (by omega) e)
      refine hK _ _ ⟨v0, v1, B, C, b0, ?_⟩
      exact {
        sz := (put_size _ _ _).trans s.sz
        df := (put_defers _ _ _).trans s.df
        out := fun k hk => (put_get _ _ _ _ (hk 2 (by omega))).trans (s.out k hk)
        bel := s.bel.trans (hb.mono s.bel.size)
        f0 := fun h => by rw [ev_ne _ (nd 0 (by omega) (by omega))]; exact s.f0 (by simpa [upd] using h)
        f1 := fun h => by rw [ev_ne _ (nd 1 (by omega) (by omega))]; exact s.f1 (by simpa [upd] using h)
        f2 := fun _ _ => by rw [ev_same _ (by rw [s.sz]; exact hN 2 (by omega))]; exact hy
        f3 := fun h => by obtain ⟨k0, kc0, kr, k1, k2, k3⟩ := s.f3 (by simpa [upd] using h); exact ⟨(ev_ne _ (nd 3 (by omega) (by omega))).trans k0, kc0, hRM _ _ _ _ _ _ kr hb, k1, k2, Nat.le_trans k3 hb.size⟩
        f4 := fun h => by rw [ev_ne _ (nd 4 (by omega) (by omega))]; exact s.f4 (by simpa [upd] using h)
        f5 := fun h => by rw [ev_ne _ (nd 5 (by omega) (by omega))]; exact s.f5 (by simpa [upd] using h)
        f6 := fun h => by rw [ev_ne _ (nd 6 (by omega) (by omega))]; exact s.f6 (by simpa [upd] using h)
        f7 := fun h => by obtain ⟨k0, k1, k2, k3, k4⟩ := s.f7 (by simpa [upd] using h); exact ⟨(ev_ne _ (nd 7 (by omega) (by omega))).trans k0, k1, Nat.lt_of_lt_of_le k2 hb.size, fun h2 => (k3 (by simpa [upd] using h2)).below hb (Nat.le_refl _), fun h2 => k4 (by simpa [upd] using h2)⟩
        f8 := fun h => (s.f8 (by simpa [upd] using h)).below hb (Nat.le_refl _)
        f9 := fun h => by rw [ev_ne _ (nd 8 (by omega) (by omega))]; exact s.f9 (by simpa [upd] using h)
        q4 := fun h => by have h3 := s.q4 (by simpa [upd] using h); simp [upd, h3]
        q5 := fun h => by have h3 := s.q5 (by simpa [upd] using h); simp [upd, h3]
        q6 := fun h => by have h3 := s.q6 (by simpa [upd] using h); simp [upd, h3]
        q8 := fun h => by have h3 := s.q8 (by simpa [upd] using h); simp [upd, h3]
        q9 := fun h => by have h3 := s.q9 (by simpa [upd] using h); simp [upd, h3]
      }
    | 3, _ =>
      have hun : L 3 = false := hun
      have hp := e3 L hed
      show if Region.wanted x3 _ = true then x3.wp P a' w' K Q else K (a'.put x3.dst undef) w'
      rw [if_pos (by simp [Region.wanted, w3])]
      refine wp_call_fn gm _ _ h3 hgm ?_
      have he : (#[.tmp (d 0), .tmp (d 2)] : Array Operand).map a'.eval = #[va0, a'.eval (.tmp (d 2))] := by simp [s.f0 hp.1]
      rw [he]
      refine (cm w' _ s.bel (s.f2 hp.2 hun)).mono ?_
      rintro e w2 ⟨z0, z1, rfl, hc0, hr, hb⟩
      refine ⟨_, rfl, ?_⟩
      rw [t3]
      have nd : ∀ i, i < 9 → i ≠ 3 → d i ≠ d 3 := fun i hi hne e => hne (hd i hi 3 (by omega) e)
      refine hK _ _ ⟨z0, z1, w'.heap.size, w2.heap.size, b0, ?_⟩
      exact {
        sz := (put_size _ _ _).trans s.sz
        df := (put_defers _ _ _).trans s.df
        out := fun k hk => (put_get _ _ _ _ (hk 3 (by omega))).trans (s.out k hk)
        bel := s.bel.trans (hb.mono s.bel.size)
        f0 := fun h => by rw [ev_ne _ (nd 0 (by omega) (by omega))]; exact s.f0 (by simpa [upd] using h)
        f1 := fun h => by rw [ev_ne _ (nd 1 (by omega) (by omega))]; exact s.f1 (by simpa [upd] using h)
        f2 := fun _ h => by simp [upd] at h
        f3 := fun _ => ⟨ev_same _ (by rw [s.sz]; exact hN 3 (by omega)), hc0, hr, s.bel.size, hb.size, Nat.le_refl _⟩
        f4 := fun h => by have h3 := s.q4 (by simpa [upd] using h); rw [hun] at h3; cases h3
        f5 := fun h => by have h3 := s.q4 (s.q5 (by simpa [upd] using h)); rw [hun] at h3; cases h3
        f6 := fun h => by have h3 := s.q4 (s.q6 (by simpa [upd] using h)); rw [hun] at h3; cases h3
        f7 := fun h => by obtain ⟨k0, k1, k2, k3, k4⟩ := s.f7 (by simpa [upd] using h); exact ⟨(ev_ne _ (nd 7 (by omega) (by omega))).trans k0, k1, Nat.lt_of_lt_of_le k2 hb.size, fun h2 => (k3 (by simpa [upd] using h2)).below hb (Nat.le_refl _), fun _ => .inl k2⟩
        f8 := fun h => by have h3 := s.q4 (s.q5 (s.q8 (by simpa [upd] using h)).2); rw [hun] at h3; cases h3
        f9 := fun h => by have h3 := s.q4 (s.q6 (s.q9 (by simpa [upd] using h))); rw [hun] at h3; cases h3
        q4 := fun h => by have h3 := s.q4 (by simpa [upd] using h); simp [upd, h3]
        q5 := fun h => by have h3 := s.q5 (by simpa [upd] using h); simp [upd, h3]
        q6 := fun h => by have h3 := s.q6 (by simpa [upd] using h); simp [upd, h3]
        q8 := fun h => by have h3 := s.q8 (by simpa [upd] using h); simp [upd, h3]
        q9 := fun h => by have h3 := s.q9 (by simpa [upd] using h); simp [upd, h3]
      }
    | 4, _ =>
      have hun : L 4 = false := hun
      have hp := e4 L hed
      show if Region.wanted x4 _ = true then x4.wp P a' w' K Q else K (a'.put x4.dst undef) w'
      rw [if_pos (by simp [Region.wanted, w4])]
      refine BigFrame.wp_move _ h4 ?_
      rw [t4]
      have nd : ∀ i, i < 9 → i ≠ 4 → d i ≠ d 4 := fun i hi hne e => hne (hd i hi 4 (by omega) e)
      refine hK _ _ ⟨v0, v1, B, C, b0, ?_⟩
      exact {
        sz := (put_size _ _ _).trans s.sz
        df := (put_defers _ _ _).trans s.df
        out := fun k hk => (put_get _ _ _ _ (hk 4 (by omega))).trans (s.out k hk)
        bel := s.bel
        f0 := fun h => by rw [ev_ne _ (nd 0 (by omega) (by omega))]; exact s.f0 (by simpa [upd] using h)
        f1 := fun h => by rw [ev_ne _ (nd 1 (by omega) (by omega))]; exact s.f1 (by simpa [upd] using h)
        f2 := fun h h2 => by rw [ev_ne _ (nd 2 (by omega) (by omega))]; exact s.f2 (by simpa [upd] using h) (by simpa [upd] using h2)
        f3 := fun h => by rw [ev_ne _ (nd 3 (by omega) (by omega))]; exact s.f3 (by simpa [upd] using h)
        f4 := fun _ => by rw [ev_same _ (by rw [s.sz]; exact hN 4 (by omega))]; exact (s.f3 hp).1
        f5 := fun h => by rw [ev_ne _ (nd 5 (by omega) (by omega))]; exact s.f5 (by simpa [upd] using h)
        f6 := fun h => by rw [ev_ne _ (nd 6 (by omega) (by omega))]; exact s.f6 (by simpa [upd] using h)
        f7 := fun h => by obtain ⟨k0, k1, k2, k3, k4⟩ := s.f7 (by simpa [upd] using h); exact ⟨(ev_ne _ (nd 7 (by omega) (by omega))).trans k0, k1, k2, fun h2 => (k3 (by simpa [upd] using h2)), fun h2 => k4 (by simpa [upd] using h2)⟩
        f8 := fun h => s.f8 (by simpa [upd] using h)
        f9 := fun h => by rw [ev_ne _ (nd 8 (by omega) (by omega))]; exact s.f9 (by simpa [upd] using h)
        q4 := fun _ => by simpa [upd] using hp
        q5 := fun h => by have h3 := s.q5 (by simpa [upd] using h); simp [upd, h3]
        q6 := fun h => by have h3 := s.q6 (by simpa [upd] using h); simp [upd, h3]
        q8 := fun h => by have h3 := s.q8 (by simpa [upd] using h); simp [upd, h3]
        q9 := fun h => by have h3 := s.q9 (by simpa [upd] using h); simp [upd, h3]
      }
    | 5, _ =>
      have hun : L 5 = false := hun
      have hp := e5 L hed
      show if Region.wanted x5 _ = true then x5.wp P a' w' K Q else K (a'.put x5.dst undef) w'
      rw [if_pos (by simp [Region.wanted, w5])]
      refine wp_extract _ _ h5 _ v0 (s.f4 hp) (by rfl) ?_
      rw [t5]
      have nd : ∀ i, i < 9 → i ≠ 5 → d i ≠ d 5 := fun i hi hne e => hne (hd i hi 5 (by omega) e)
      refine hK _ _ ⟨v0, v1, B, C, b0, ?_⟩
      exact {
        sz := (put_size _ _ _).trans s.sz
        df := (put_defers _ _ _).trans s.df
        out := fun k hk => (put_get _ _ _ _ (hk 5 (by omega))).trans (s.out k hk)
        bel := s.bel
        f0 := fun h => by rw [ev_ne _ (nd 0 (by omega) (by omega))]; exact s.f0 (by simpa [upd] using h)
        f1 := fun h => by rw [ev_ne _ (nd 1 (by omega) (by omega))]; exact s.f1 (by simpa [upd] using h)
        f2 := fun h h2 => by rw [ev_ne _ (nd 2 (by omega) (by omega))]; exact s.f2 (by simpa [upd] using h) (by simpa [upd] using h2)
        f3 := fun h => by rw [ev_ne _ (nd 3 (by omega) (by omega))]; exact s.f3 (by simpa [upd] using h)
        f4 := fun h => by rw [ev_ne _ (nd 4 (by omega) (by omega))]; exact s.f4 (by simpa [upd] using h)
        f5 := fun _ => ev_same _ (by rw [s.sz]; exact hN 5 (by omega))
        f6 := fun h => by rw [ev_ne _ (nd 6 (by omega) (by omega))]; exact s.f6 (by simpa [upd] using h)
        f7 := fun h => by obtain ⟨k0, k1, k2, k3, k4⟩ := s.f7 (by simpa [upd] using h); exact ⟨(ev_ne _ (nd 7 (by omega) (by omega))).trans k0, k1, k2, fun h2 => (k3 (by simpa [upd] using h2)), fun h2 => k4 (by simpa [upd] using h2)⟩
        f8 := fun h => s.f8 (by simpa [upd] using h)
        f9 := fun h => by rw [ev_ne _ (nd 8 (by omega) (by omega))]; exact s.f9 (by simpa [upd] using h)
        q4 := fun h => by have h3 := s.q4 (by simpa [upd] using h); simp [upd, h3]
        q5 := fun _ => by simpa [upd] using hp
        q6 := fun h => by have h3 := s.q6 (by simpa [upd] using h); simp [upd, h3]
        q8 := fun h => by have h3 := s.q8 (by simpa [upd] using h); simp [upd, h3]
        q9 := fun h => by have h3 := s.q9 (by simpa [upd] using h); simp [upd, h3]
      }
    | 6, _ =>
      have hun : L 6 = false := hun
      have hp := e6 L hed
      show if Region.wanted x6 _ = true then x6.wp P a' w' K Q else K (a'.put x6.dst undef) w'
      rw [if_pos (by simp [Region.wanted, w6])]
      refine wp_extract _ _ h6 _ v1 (s.f4 hp) (by rfl) ?_
      rw [t6]
      have nd : ∀ i, i < 9 → i ≠ 6 → d i ≠ d 6 := fun i hi hne e => hne (hd i hi 6 (by omega) e)
      refine hK _ _ ⟨v0, v1, B, C, b0, ?_⟩
      exact {
        sz := (put_size _ _ _).trans s.sz
        df := (put_defers _ _ _).trans s.df
        out := fun k hk => (put_get _ _ _ _ (hk 6 (by omega))).trans (s.out k hk)
        bel := s.bel
        f0 := fun h => by rw [ev_ne _ (nd 0 (by omega) (by omega))]; exact s.f0 (by simpa [upd] using h)
        f1 := fun h => by rw [ev_ne _ (nd 1 (by omega) (by omega))]; exact s.f1 (by simpa [upd] using h)
        f2 := fun h h2 => by rw [ev_ne _ (nd 2 (by omega) (by omega))]; exact s.f2 (by simpa [upd] using h) (by simpa [upd] using h2)
        f3 := fun h => by rw [ev_ne _ (nd 3 (by omega) (by omega))]; exact s.f3 (by simpa [upd] using h)
        f4 := fun h => by rw [ev_ne _ (nd 4 (by omega) (by omega))]; exact s.f4 (by simpa [upd] using h)
        f5 := fun h => by rw [ev_ne _ (nd 5 (by omega) (by omega))]; exact s.f5 (by simpa [upd] using h)
        f6 := fun _ => ev_same _ (by rw [s.sz]; exact hN 6 (by omega))
        f7 := fun h => by obtain ⟨k0, k1, k2, k3, k4⟩ := s.f7 (by simpa [upd] using h); exact ⟨(ev_ne _ (nd 7 (by omega) (by omega))).trans k0, k1, k2, fun h2 => (k3 (by simpa [upd] using h2)), fun h2 => k4 (by simpa [upd] using h2)⟩
        f8 := fun h => s.f8 (by simpa [upd] using h)
        f9 := fun h => by rw [ev_ne _ (nd 8 (by omega) (by omega))]; exact s.f9 (by simpa [upd] using h)
        q4 := fun h => by have h3 := s.q4 (by simpa [upd] using h); simp [upd, h3]
        q5 := fun h => by have h3 := s.q5 (by simpa [upd] using h); simp [upd, h3]
        q6 := fun _ => by simpa [upd] using hp
        q8 := fun h => by have h3 := s.q8 (by simpa [upd] using h); simp [upd, h3]
        q9 := fun h => by have h3 := s.q9 (by simpa [upd] using h); simp [upd, h3]
      }
    | 7, _ =>
      have hun : L 7 = false := hun
      show if Region.wanted x7 _ = true then x7.wp P a' w' K Q else K (a'.put x7.dst undef) w'
      rw [if_pos (by simp [Region.wanted, w7])]
      refine wp_alloc_op _ h7 _ (hal0 w') ?_
      have hb : Below w'.heap.size w' (w'.alloc (.cells Z0.toArray T0)) := (Below.refl _ _).alloc (Nat.le_refl _) _
      have hnew : Box (w'.alloc (.cells Z0.toArray T0)) w'.heap.size n0 T0 (.agg Z0.toArray) := by rw [← hZn0]; exact Box.new w' Z0 T0 hZ0 rfl
      rw [t7]
      have nd : ∀ i, i < 9 → i ≠ 7 → d i ≠ d 7 := fun i hi hne e => hne (hd i hi 7 (by omega) e)
      refine hK _ _ ⟨v0, v1, B, C, w'.heap.size, ?_⟩
      exact {
        sz := (put_size _ _ _).trans s.sz
        df := (put_defers _ _ _).trans s.df
        out := fun k hk => (put_get _ _ _ _ (hk 7 (by omega))).trans (s.out k hk)
        bel := s.bel.trans (hb.mono s.bel.size)
        f0 := fun h => by rw [ev_ne _ (nd 0 (by omega) (by omega))]; exact s.f0 (by simpa [upd] using h)
        f1 := fun h => by rw [ev_ne _ (nd 1 (by omega) (by omega))]; exact s.f1 (by simpa [upd] using h)
        f2 := fun h h2 => by rw [ev_ne _ (nd 2 (by omega) (by omega))]; exact hR2 _ _ _ (s.f2 (by simpa [upd] using h) (by simpa [upd] using h2)) hb
        f3 := fun h => by obtain ⟨k0, kc0, kr, k1, k2, k3⟩ := s.f3 (by simpa [upd] using h); exact ⟨(ev_ne _ (nd 3 (by omega) (by omega))).trans k0, kc0, hRM _ _ _ _ _ _ kr hb, k1, k2, Nat.le_trans k3 hb.size⟩
        f4 := fun h => by rw [ev_ne _ (nd 4 (by omega) (by omega))]; exact s.f4 (by simpa [upd] using h)
        f5 := fun h => by rw [ev_ne _ (nd 5 (by omega) (by omega))]; exact s.f5 (by simpa [upd] using h)
        f6 := fun h => by rw [ev_ne _ (nd 6 (by omega) (by omega))]; exact s.f6 (by simpa [upd] using h)
        f7 := fun _ => ⟨ev_same _ (by rw [s.sz]; exact hN 7 (by omega)), s.bel.size, hnew.lt, fun _ => hnew, fun h => .inr (s.f3 (by simpa [upd] using h)).2.2.2.2.2⟩
        f8 := fun h => by have h3 := (s.q8 (by simpa [upd] using h)).1; rw [hun] at h3; cases h3
        f9 := fun h => by rw [ev_ne _ (nd 8 (by omega) (by omega))]; exact s.f9 (by simpa [upd] using h)
        q4 := fun h => by have h3 := s.q4 (by simpa [upd] using h); simp [upd, h3]
        q5 := fun h => by have h3 := s.q5 (by simpa [upd] using h); simp [upd, h3]
        q6 := fun h => by have h3 := s.q6 (by simpa [upd] using h); simp [upd, h3]
        q8 := fun h => by have h3 := s.q8 (by simpa [upd] using h); simp [upd, h3]
        q9 := fun h => by have h3 := s.q9 (by simpa [upd] using h); simp [upd, h3]
      }
    | 8, _ =>
      have hun : L 8 = false := hun
      have hp := e8 L hed
      show if Region.wanted x8 _ = true then x8.wp P a' w' K Q else K (a'.put x8.dst undef) w'
      rw [if_pos (by simp [Region.wanted, w8])]
      have hst := s.f7 hp.2.2
      refine wp_store_box _ _ _ h8 b0 n0 T0 _ v0 hst.1 (s.f5 hp.2.1) (hst.2.2.2.1 hun) (s.f3 hp.1).2.1 hi0 ?_
      intro w2 hbox hO hsz
      rw [t8]
      refine hK _ _ ⟨v0, v1, B, C, b0, ?_⟩
      exact {
        sz := s.sz
        df := s.df
        out := s.out
        bel := s.bel.trans ((hO.below (by have := hst.2.2.1; omega)).mono hst.2.1)
        f0 := fun h => by exact s.f0 (by simpa [upd] using h)
        f1 := fun h => by exact s.f1 (by simpa [upd] using h)
        f2 := fun h h2 => by have h3 : L 3 = false := (by simpa [upd] using h2); rw [hp.1] at h3; cases h3
        f3 := fun h => by obtain ⟨k0, kc0, kr, k1, k2, k3⟩ := s.f3 (by simpa [upd] using h); exact ⟨k0, kc0, hRMo _ _ _ _ _ _ _ kr hO ((hst.2.2.2.2) hp.1), k1, k2, by omega⟩
        f4 := fun h => by exact s.f4 (by simpa [upd] using h)
        f5 := fun h => by exact s.f5 (by simpa [upd] using h)
        f6 := fun h => by exact s.f6 (by simpa [upd] using h)
        f7 := fun h => by obtain ⟨k0, k1, k2, k3, k4⟩ := s.f7 (by simpa [upd] using h); exact ⟨k0, k1, by omega, fun h2 => by simp [upd] at h2, fun h2 => k4 (by simpa [upd] using h2)⟩
        f8 := fun _ => hbox
        f9 := fun h => by exact s.f9 (by simpa [upd] using h)
        q4 := fun h => by have h3 := s.q4 (by simpa [upd] using h); simp [upd, h3]
        q5 := fun h => by have h3 := s.q5 (by simpa [upd] using h); simp [upd, h3]
        q6 := fun h => by have h3 := s.q6 (by simpa [upd] using h); simp [upd, h3]
        q8 := fun _ => ⟨by simpa [upd] using hp.2.2, by simpa [upd] using hp.2.1⟩
        q9 := fun h => by have h3 := s.q9 (by simpa [upd] using h); simp [upd, h3]
      }
    | 9, _ =>
      have hun : L 9 = false := hun
      have hp := e9 L hed
      show if Region.wanted x9 _ = true then x9.wp P a' w' K Q else K (a'.put x9.dst undef) w'
      rw [if_pos (by simp [Region.wanted, w9])]
      refine BigFrame.wp_assign _ h9 ?_
      rw [t9]
      have nd : ∀ i, i < 9 → i ≠ 8 → d i ≠ d 8 := fun i hi hne e => hne (hd i hi 8 (by omega) e)
      refine hK _ _ ⟨v0, v1, B, C, b0, ?_⟩
      exact {
        sz := (put_size _ _ _).trans s.sz
        df := (put_defers _ _ _).trans s.df
        out := fun k hk => (put_get _ _ _ _ (hk 8 (by omega))).trans (s.out k hk)
        bel := s.bel
        f0 := fun h => by rw [ev_ne _ (nd 0 (by omega) (by omega))]; exact s.f0 (by simpa [upd] using h)
        f1 := fun h => by rw [ev_ne _ (nd 1 (by omega) (by omega))]; exact s.f1 (by simpa [upd] using h)
        f2 := fun h h2 => by rw [ev_ne _ (nd 2 (by omega) (by omega))]; exact s.f2 (by simpa [upd] using h) (by simpa [upd] using h2)
        f3 := fun h => by rw [ev_ne _ (nd 3 (by omega) (by omega))]; exact s.f3 (by simpa [upd] using h)
        f4 := fun h => by rw [ev_ne _ (nd 4 (by omega) (by omega))]; exact s.f4 (by simpa [upd] using h)
        f5 := fun h => by rw [ev_ne _ (nd 5 (by omega) (by omega))]; exact s.f5 (by simpa [upd] using h)
        f6 := fun h => by rw [ev_ne _ (nd 6 (by omega) (by omega))]; exact s.f6 (by simpa [upd] using h)
        f7 := fun h => by obtain ⟨k0, k1, k2, k3, k4⟩ := s.f7 (by simpa [upd] using h); exact ⟨(ev_ne _ (nd 7 (by omega) (by omega))).trans k0, k1, k2, fun h2 => (k3 (by simpa [upd] using h2)), fun h2 => k4 (by simpa [upd] using h2)⟩
        f8 := fun h => s.f8 (by simpa [upd] using h)
        f9 := fun _ => by rw [ev_same _ (by rw [s.sz]; exact hN 8 (by omega))]; exact s.f6 hp
        q4 := fun h => by have h3 := s.q4 (by simpa [upd] using h); simp [upd, h3]
        q5 := fun h => by have h3 := s.q5 (by simpa [upd] using h); simp [upd, h3]
        q6 := fun h => by have h3 := s.q6 (by simpa [upd] using h); simp [upd, h3]
        q8 := fun h => by have h3 := s.q8 (by simpa [upd] using h); simp [upd, h3]
        q9 := fun _ => by simpa [upd] using hp
      }
end Go.Proofs.Ytkgmilobmbeplaa
