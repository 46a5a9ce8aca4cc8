/- The drawn region of a law: two arguments made, one call, its result kept. Printed by a program (wip/gen/shape.py S3). No program in sight. -/
import Derived.Test.YtkgmilobmbeplaaShape
namespace Go.Proofs.Ytkgmilobmbeplaa
open Go.RowKit

/-- S3: what holds while the region runs. -/
structure S3I (d : Nat → Nat) (A0 : Act) (W : World) (RM : World → Nat → Nat → Value → Prop) (va0 : Value) (va2 : Value) (R1 : World → Value → Prop) (R3 : World → Value → Prop) (L : Nat → Bool) (a' : Act) (w' : World) (v0 : Value) (B C : Nat) : Prop where
  sz : a'.tmps.size = A0.tmps.size
  df : a'.defers = A0.defers
  out : ∀ k, (∀ i, i < 6 → k ≠ d i) → a'.tmps[k]? = A0.tmps[k]?
  bel : Below W.heap.size W w'
  f0 : L 0 = true → a'.eval (.tmp (d 0)) = va0
  f1 : L 1 = true → L 4 = false → R1 w' (a'.eval (.tmp (d 1)))
  f2 : L 2 = true → a'.eval (.tmp (d 2)) = va2
  f3 : L 3 = true → L 4 = false → R3 w' (a'.eval (.tmp (d 3)))
  f4 : L 4 = true → a'.eval (.tmp (d 4)) = v0 ∧  RM w' B C v0 ∧ W.heap.size ≤ B ∧ B ≤ C ∧ C ≤ w'.heap.size
  f5 : L 5 = true → a'.eval (.tmp (d 5)) = v0
  q5 : L 5 = true → L 4 = true

theorem region_S3 {P : Program} {id : Nat} {Q : Exit → Act → World → Prop} {A0 : Act} {W : World} {x0 x1 x2 x3 x4 x5 : Oper} (hm : P.follows .mixedOrders = true) (hB : backB [x0, x1, x2, x3, x4, x5] = true)
    (d : Nat → Nat) (hd : ∀ i, i < 6 → ∀ j, j < 6 → d i = d j → i = j) (hN : ∀ i, i < 6 → d i < A0.tmps.size)
    (RM : World → Nat → Nat → Value → Prop) (hRM : ∀ w1 w2 B C v0, RM w1 B C v0 → Below w1.heap.size w1 w2 → RM w2 B C v0) (hRMo : ∀ w1 w2 B C v0 b, RM w1 B C v0 → Outside b (b + 1) w1 w2 → (b < B ∨ C ≤ b) → RM w2 B C v0)
    (va0 : Value) (s0 : Nat) (hs0 : ∀ i, i < 6 → s0 ≠ d i) (ty0 : TypeId) (hl0 : ∀ w1, Below W.heap.size W w1 → (Instr.loadAt ty0 (A0.eval (.tmp s0))).run P w1 = .ok va0 w1)
    (va2 : Value) (s2 : Nat) (hs2 : ∀ i, i < 6 → s2 ≠ d i) (ty2 : TypeId) (hl2 : ∀ w1, Below W.heap.size W w1 → (Instr.loadAt ty2 (A0.eval (.tmp s2))).run P w1 = .ok va2 w1)
    (R1 : World → Value → Prop) (hR1 : ∀ w1 w2 v, R1 w1 v → Below w1.heap.size w1 w2 → R1 w2 v) (g1 : FuncId) (ts1 : Array TypeId) (hg1 : ∀ (args : Array Value) (w : World), (callFunc g1 args).run P w = .ok (.enter g1 args) w)
    (c1 : ∀ w1, Below W.heap.size W w1 → Calls P g1 #[va0] w1 fun e w2 => ∃ v, e = .returned v ∧ R1 w2 v ∧ Below w1.heap.size w1 w2)
    (R3 : World → Value → Prop) (hR3 : ∀ w1 w2 v, R3 w1 v → Below w1.heap.size w1 w2 → R3 w2 v) (g3 : FuncId) (ts3 : Array TypeId) (hg3 : ∀ (args : Array Value) (w : World), (callFunc g3 args).run P w = .ok (.enter g3 args) w)
    (c3 : ∀ w1, Below W.heap.size W w1 → Calls P g3 #[va2] w1 fun e w2 => ∃ v, e = .returned v ∧ R3 w2 v ∧ Below w1.heap.size w1 w2)
    (gm : FuncId) (tsm : Array TypeId) (hgm : ∀ (args : Array Value) (w : World), (callFunc gm args).run P w = .ok (.enter gm args) w)
    (cm : ∀ w1 y1 y3, Below W.heap.size W w1 → R1 w1 y1 → R3 w1 y3 → Calls P gm #[y1, y3] w1 fun e w2 => ∃ v0, e = .returned (v0) ∧ RM w2 w1.heap.size w2.heap.size v0 ∧ Below w1.heap.size w1 w2)
    (h0 : x0.op = .load ty0 (.tmp s0)) (t0 : x0.dst = some (d 0)) (w0 : x0.guard = none)
    (h1 : x1.op = .call { callee := .value (.func g1), args := #[.tmp (d 0)], argTypes := ts1 }) (t1 : x1.dst = some (d 1)) (w1 : x1.guard = none) (e1 : ∀ L : Nat → Bool, (x1.after.all fun e => !Region.binds .any e || L e.on) = true → L 0 = true)
    (h2 : x2.op = .load ty2 (.tmp s2)) (t2 : x2.dst = some (d 2)) (w2 : x2.guard = none)
    (h3 : x3.op = .call { callee := .value (.func g3), args := #[.tmp (d 2)], argTypes := ts3 }) (t3 : x3.dst = some (d 3)) (w3 : x3.guard = none) (e3 : ∀ L : Nat → Bool, (x3.after.all fun e => !Region.binds .any e || L e.on) = true → L 2 = true)
    (h4 : x4.op = .call { callee := .value (.func gm), args := #[.tmp (d 1), .tmp (d 3)], argTypes := tsm }) (t4 : x4.dst = some (d 4)) (w4 : x4.guard = none) (e4 : ∀ L : Nat → Bool, (x4.after.all fun e => !Region.binds .any e || L e.on) = true → L 1 = true ∧ L 3 = true)
    (h5 : x5.op = .assign (.tmp (d 4))) (t5 : x5.dst = some (d 5)) (w5 : x5.guard = none) (e5 : ∀ L : Nat → Bool, (x5.after.all fun e => !Region.binds .any e || L e.on) = true → L 4 = true)
    (fin : ∀ w1 (v0 : Value) (B C : Nat) (u0 : Value) (u1 : Value) (u2 : Value) (u3 : Value) (u4 : Value), Below W.heap.size W w1 → RM w1 B C v0 → W.heap.size ≤ B → B ≤ C → C ≤ w1.heap.size → Q .normal (frameWith A0 [(d 0, u0), (d 1, u1), (d 2, u2), (d 3, u3), (d 4, u4), (d 5, v0)]) w1) :
    (Code.region id [x0, x1, x2, x3, x4, x5].toArray true).wp P Q A0 W := by
  refine wp_region_inv hm hB (fun L a' w' => ∃ (v0 : Value) (B C : Nat), S3I d A0 W RM va0 va2 R1 R3  L a' w' v0 B C) ?_ ?_ ?_
  · refine ⟨undef, 0, 0, ⟨rfl, rfl, fun _ _ => rfl, (Below.refl _ _).drew, (fun h => by cases h), (fun h => by cases h), (fun h => by cases h), (fun h => by cases h), (fun h => by cases h), (fun h => by cases h), (fun h => by cases h)⟩⟩
  · rintro L a' w' ⟨v0, B, C, s⟩ hall
    have hL0 := hall 0 (by simp)
    have hL1 := hall 1 (by simp)
    have hL2 := hall 2 (by simp)
    have hL3 := hall 3 (by simp)
    have hL4 := hall 4 (by simp)
    have hL5 := hall 5 (by simp)
    have ha := frame_of (a := A0) (a' := a') [d 0, d 1, d 2, d 3, d 4, d 5] s.sz s.df (fun k hk => s.out k (fun i hi e => hk (by
      subst e
      match i, hi with
      | 0, _ => simp
      | 1, _ => simp
      | 2, _ => simp
      | 3, _ => simp
      | 4, _ => simp
      | 5, _ => simp
      )))
    simp only [List.map_cons, List.map_nil] at ha
    rw [s.f5 hL5] at ha
    rw [ha]
    obtain ⟨_, hr, hb1, hb2, hb3⟩ := s.f4 hL4
    exact fin w' v0 B C _ _ _ _ _ s.bel hr hb1 hb2 hb3 
  · intro i hi L a' w'
    rintro ⟨v0, B, C, s⟩ hun hed K hK
    match i, hi with
    | 0, _ =>
      have hun : L 0 = false := hun
      show if Region.wanted x0 _ = true then x0.wp P a' w' K Q else K (a'.put x0.dst undef) w'
      rw [if_pos (by simp [Region.wanted, w0])]
      refine wp_load_run ty0 (.tmp s0) h0 va0 ?_ ?_
      · rw [ev_get (s.out s0 (hs0))]; exact hl0 w' s.bel
      rw [t0]
      have nd : ∀ i, i < 6 → i ≠ 0 → d i ≠ d 0 := fun i hi hne e => hne (hd i hi 0 (by omega) e)
      refine hK _ _ ⟨v0, B, C, ?_⟩
      exact {
        sz := (put_size _ _ _).trans s.sz
        df := (put_defers _ _ _).trans s.df
        out := fun k hk => (put_get _ _ _ _ (hk 0 (by omega))).trans (s.out k hk)
        bel := s.bel
        f0 := fun _ => ev_same _ (by rw [s.sz]; exact hN 0 (by omega))
        f1 := fun h h2 => by rw [ev_ne _ (nd 1 (by omega) (by omega))]; exact s.f1 (by simpa [upd] using h) (by simpa [upd] using h2)
        f2 := fun h => by rw [ev_ne _ (nd 2 (by omega) (by omega))]; exact s.f2 (by simpa [upd] using h)
        f3 := fun h h2 => by rw [ev_ne _ (nd 3 (by omega) (by omega))]; exact s.f3 (by simpa [upd] using h) (by simpa [upd] using h2)
        f4 := fun h => by rw [ev_ne _ (nd 4 (by omega) (by omega))]; exact s.f4 (by simpa [upd] using h)
        f5 := fun h => by rw [ev_ne _ (nd 5 (by omega) (by omega))]; exact s.f5 (by simpa [upd] using h)
        q5 := fun h => by have h3 := s.q5 (by simpa [upd] using h); simp [upd, h3]
      }
    | 1, _ =>
      have hun : L 1 = false := hun
      have hp := e1 L hed
      show if Region.wanted x1 _ = true then x1.wp P a' w' K Q else K (a'.put x1.dst undef) w'
      rw [if_pos (by simp [Region.wanted, w1])]
      refine wp_call_fn g1 _ _ h1 hg1 ?_
      have he : (#[.tmp (d 0)] : Array Operand).map a'.eval = #[va0] := by simp [s.f0 hp]
      rw [he]
      refine (c1 w' s.bel).mono ?_
      rintro e w2 ⟨y, rfl, hy, hb⟩
      refine ⟨y, rfl, ?_⟩
      rw [t1]
      have nd : ∀ i, i < 6 → i ≠ 1 → d i ≠ d 1 := fun i hi hne e => hne (hd i hi 1 (by omega) e)
      refine hK _ _ ⟨v0, B, C, ?_⟩
      exact {
        sz := (put_size _ _ _).trans s.sz
        df := (put_defers _ _ _).trans s.df
        out := fun k hk => (put_get _ _ _ _ (hk 1 (by omega))).trans (s.out k hk)
        bel := s.bel.trans (hb.mono s.bel.size)
        f0 := fun h => by rw [ev_ne _ (nd 0 (by omega) (by omega))]; exact s.f0 (by simpa [upd] using h)
        f1 := fun _ _ => by rw [ev_same _ (by rw [s.sz]; exact hN 1 (by omega))]; exact hy
        f2 := fun h => by rw [ev_ne _ (nd 2 (by omega) (by omega))]; exact s.f2 (by simpa [upd] using h)
        f3 := fun h h2 => by rw [ev_ne _ (nd 3 (by omega) (by omega))]; exact hR3 _ _ _ (s.f3 (by simpa [upd] using h) (by simpa [upd] using h2)) hb
        f4 := fun h => by obtain ⟨k0, kr, k1, k2, k3⟩ := s.f4 (by simpa [upd] using h); exact ⟨(ev_ne _ (nd 4 (by omega) (by omega))).trans k0, hRM _ _ _ _ _ kr hb, k1, k2, Nat.le_trans k3 hb.size⟩
        f5 := fun h => by rw [ev_ne _ (nd 5 (by omega) (by omega))]; exact s.f5 (by simpa [upd] using h)
        q5 := fun h => by have h3 := s.q5 (by simpa [upd] using h); simp [upd, h3]
      }
    | 2, _ =>
      have hun : L 2 = false := hun
      show if Region.wanted x2 _ = true then x2.wp P a' w' K Q else K (a'.put x2.dst undef) w'
      rw [if_pos (by simp [Region.wanted, w2])]
      refine wp_load_run ty2 (.tmp s2) h2 va2 ?_ ?_
      · rw [ev_get (s.out s2 (hs2))]; exact hl2 w' s.bel
      rw [t2]
      have nd : ∀ i, i < 6 → i ≠ 2 → d i ≠ d 2 := fun i hi hne e => hne (hd i hi 2 (by omega) e)
      refine hK _ _ ⟨v0, B, C, ?_⟩
      exact {
        sz := (put_size _ _ _).trans s.sz
        df := (put_defers _ _ _).trans s.df
        out := fun k hk => (put_get _ _ _ _ (hk 2 (by omega))).trans (s.out k hk)
        bel := s.bel
        f0 := fun h => by rw [ev_ne _ (nd 0 (by omega) (by omega))]; exact s.f0 (by simpa [upd] using h)
        f1 := fun h h2 => by rw [ev_ne _ (nd 1 (by omega) (by omega))]; exact s.f1 (by simpa [upd] using h) (by simpa [upd] using h2)
        f2 := fun _ => ev_same _ (by rw [s.sz]; exact hN 2 (by omega))
        f3 := fun h h2 => by rw [ev_ne _ (nd 3 (by omega) (by omega))]; exact s.f3 (by simpa [upd] using h) (by simpa [upd] using h2)
        f4 := fun h => by rw [ev_ne _ (nd 4 (by omega) (by omega))]; exact s.f4 (by simpa [upd] using h)
        f5 := fun h => by rw [ev_ne _ (nd 5 (by omega) (by omega))]; exact s.f5 (by simpa [upd] using h)
        q5 := fun h => by have h3 := s.q5 (by simpa [upd] using h); simp [upd, h3]
      }
    | 3, _ =>
      have hun : L 3 = false := hun
      have hp := e3 L hed
      show if Region.wanted x3 _ = true then x3.wp P a' w' K Q else K (a'.put x3.dst undef) w'
      rw [if_pos (by simp [Region.wanted, w3])]
      refine wp_call_fn g3 _ _ h3 hg3 ?_
      have he : (#[.tmp (d 2)] : Array Operand).map a'.eval = #[va2] := by simp [s.f2 hp]
      rw [he]
      refine (c3 w' s.bel).mono ?_
      rintro e w2 ⟨y, rfl, hy, hb⟩
      refine ⟨y, rfl, ?_⟩
      rw [t3]
      have nd : ∀ i, i < 6 → i ≠ 3 → d i ≠ d 3 := fun i hi hne e => hne (hd i hi 3 (by omega) e)
      refine hK _ _ ⟨v0, B, C, ?_⟩
      exact {
        sz := (put_size _ _ _).trans s.sz
        df := (put_defers _ _ _).trans s.df
        out := fun k hk => (put_get _ _ _ _ (hk 3 (by omega))).trans (s.out k hk)
        bel := s.bel.trans (hb.mono s.bel.size)
        f0 := fun h => by rw [ev_ne _ (nd 0 (by omega) (by omega))]; exact s.f0 (by simpa [upd] using h)
        f1 := fun h h2 => by rw [ev_ne _ (nd 1 (by omega) (by omega))]; exact hR1 _ _ _ (s.f1 (by simpa [upd] using h) (by simpa [upd] using h2)) hb
        f2 := fun h => by rw [ev_ne _ (nd 2 (by omega) (by omega))]; exact s.f2 (by simpa [upd] using h)
        f3 := fun _ _ => by rw [ev_same _ (by rw [s.sz]; exact hN 3 (by omega))]; exact hy
        f4 := fun h => by obtain ⟨k0, kr, k1, k2, k3⟩ := s.f4 (by simpa [upd] using h); exact ⟨(ev_ne _ (nd 4 (by omega) (by omega))).trans k0, hRM _ _ _ _ _ kr hb, k1, k2, Nat.le_trans k3 hb.size⟩
        f5 := fun h => by rw [ev_ne _ (nd 5 (by omega) (by omega))]; exact s.f5 (by simpa [upd] using h)
        q5 := fun h => by have h3 := s.q5 (by simpa [upd] using h); simp [upd, h3]
      }
    | 4, _ =>
      have hun : L 4 = false := hun
      have hp := e4 L hed
      show if Region.wanted x4 _ = true then x4.wp P a' w' K Q else K (a'.put x4.dst undef) w'
      rw [if_pos (by simp [Region.wanted, w4])]
      refine wp_call_fn gm _ _ h4 hgm ?_
      have he : (#[.tmp (d 1), .tmp (d 3)] : Array Operand).map a'.eval = #[a'.eval (.tmp (d 1)), a'.eval (.tmp (d 3))] := by simp
      rw [he]
      refine (cm w' _ _ s.bel (s.f1 hp.1 hun) (s.f3 hp.2 hun)).mono ?_
      rintro e w2 ⟨z0, rfl, hr, hb⟩
      refine ⟨_, rfl, ?_⟩
      rw [t4]
      have nd : ∀ i, i < 6 → i ≠ 4 → d i ≠ d 4 := fun i hi hne e => hne (hd i hi 4 (by omega) e)
      refine hK _ _ ⟨z0, w'.heap.size, w2.heap.size, ?_⟩
      exact {
        sz := (put_size _ _ _).trans s.sz
        df := (put_defers _ _ _).trans s.df
        out := fun k hk => (put_get _ _ _ _ (hk 4 (by omega))).trans (s.out k hk)
        bel := s.bel.trans (hb.mono s.bel.size)
        f0 := fun h => by rw [ev_ne _ (nd 0 (by omega) (by omega))]; exact s.f0 (by simpa [upd] using h)
        f1 := fun _ h => by simp [upd] at h
        f2 := fun h => by rw [ev_ne _ (nd 2 (by omega) (by omega))]; exact s.f2 (by simpa [upd] using h)
        f3 := fun _ h => by simp [upd] at h
        f4 := fun _ => ⟨ev_same _ (by rw [s.sz]; exact hN 4 (by omega)), hr, s.bel.size, hb.size, Nat.le_refl _⟩
        f5 := fun h => by have h3 := s.q5 (by simpa [upd] using h); rw [hun] at h3; cases h3
        q5 := fun h => by have h3 := s.q5 (by simpa [upd] using h); simp [upd, h3]
      }
    | 5, _ =>
      have hun : L 5 = false := hun
      have hp := e5 L hed
      show if Region.wanted x5 _ = true then x5.wp P a' w' K Q else K (a'.put x5.dst undef) w'
      rw [if_pos (by simp [Region.wanted, w5])]
      refine BigFrame.wp_assign _ h5 ?_
      rw [t5]
      have nd : ∀ i, i < 6 → i ≠ 5 → d i ≠ d 5 := fun i hi hne e => hne (hd i hi 5 (by omega) e)
      refine hK _ _ ⟨v0, B, C, ?_⟩
      exact {
        sz := (put_size _ _ _).trans s.sz
        df := (put_defers _ _ _).trans s.df
        out := fun k hk => (put_get _ _ _ _ (hk 5 (by omega))).trans (s.out k hk)
        bel := s.bel
        f0 := fun h => by rw [ev_ne _ (nd 0 (by omega) (by omega))]; exact s.f0 (by simpa [upd] using h)
        f1 := fun h h2 => by rw [ev_ne _ (nd 1 (by omega) (by omega))]; exact s.f1 (by simpa [upd] using h) (by simpa [upd] using h2)
        f2 := fun h => by rw [ev_ne _ (nd 2 (by omega) (by omega))]; exact s.f2 (by simpa [upd] using h)
        f3 := fun h h2 => by rw [ev_ne _ (nd 3 (by omega) (by omega))]; exact s.f3 (by simpa [upd] using h) (by simpa [upd] using h2)
        f4 := fun h => by rw [ev_ne _ (nd 4 (by omega) (by omega))]; exact s.f4 (by simpa [upd] using h)
        f5 := fun _ => by rw [ev_same _ (by rw [s.sz]; exact hN 5 (by omega))]; exact (s.f4 hp).1
        q5 := fun _ => by simpa [upd] using hp
      }
end Go.Proofs.Ytkgmilobmbeplaa
