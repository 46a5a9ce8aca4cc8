/- Operations over rows; the ways out; regions that draw. No program in sight. -/
import Derived.Test.YtkgmilobmbeplaaStep
import Derived.IntWalk
namespace Go.Proofs.Ytkgmilobmbeplaa
open Go.RowKit

/-! ### The ways out -/
section
variable {P : Program} {K : Act → World → Prop} {Q : Exit → Act → World → Prop} {a : Act} {w : World}
theorem ex_then (h : K a w) : Exit.then K Q .normal a w := h
theorem ex_block {i : Nat} (h : Q .normal a w) : Exit.inBlock i Q .normal a w := h
theorem ex_then_exit {i : Nat} (h : Q (.exit i) a w) : Exit.then K Q (.exit i) a w := h
theorem ex_then_ret (h : Q .ret a w) : Exit.then K Q .ret a w := h
theorem ex_block_ret {i : Nat} (h : Q .ret a w) : Exit.inBlock i Q .ret a w := h
theorem ex_block_hit {i : Nat} (h : Q .normal a w) : Exit.inBlock i Q (.exit i) a w := by simpa [Exit.inBlock] using h
theorem ex_block_miss {i j : Nat} (hij : Nat.beq j i = false) (h : Q (.exit j) a w) : Exit.inBlock i Q (.exit j) a w := by
  have : ¬ j = i := fun e => by subst e; simp at hij
  simpa [Exit.inBlock, this] using h

/-- What a result variable holds. -/
def ResV (P : Program) (a : Act) (w : World) : ResultVar → Value → Prop
  | .tmp t, v => a.tmps.getD t undef = v
  | .cell k t, v => ∃ p, a.tmps.getD k undef = .pointer (some p) ∧ (loadVar t p).run P w = .ok v w
theorem Fr.res {N : Nat} {l : List (Nat × Value)} (h : Fr N a l) {k : Nat} {v : Value} (hk : lk l k = some v) : ResV P a w (.tmp k) v := h.ev (x := .tmp k) hk
theorem Fr.resBox {N : Nat} {l : List (Nat × Value)} (h : Fr N a l) {k t b n : Nat} (hk : lk l k = some (.pointer (some ⟨b, 0, none⟩))) {T : TypeId} {v : Value} (hb : Box w b n T v) (ht : rowOf? P t n = true) : ResV P a w (.cell k t) v := by
  obtain ⟨⟨d, hu, hd⟩, hi⟩ := rowOf_spec ht
  exact ⟨_, h.ev (x := .tmp k) hk, run_loadVar_box hb t d hu hd hi⟩
/-- One result variable, read. -/
def resOf (tmps : Array Value) : ResultVar → Sem Value
  | .tmp t => pure (tmps.getD t undef)
  | .cell k t => do loadVar t (← asAddr (tmps.getD k undef))
theorem results_eq (fn : Func) (tmps : Array Value) : results fn tmps = (do let vs ← fn.results.mapM (resOf tmps); pure (if h : vs.size = 1 then vs[0] else .tuple vs)) := by
  unfold results
  congr 1
theorem run_resOf {r : ResultVar} {v : Value} (h : ResV P a w r v) : (resOf a.tmps r).run P w = .ok v w := by
  cases r with
  | tmp t =>
    have h : a.tmps.getD t undef = v := h
    simp only [resOf, Sem.run_pure, h]
  | cell k t =>
    obtain ⟨p, h1, h2⟩ := h
    simp only [resOf, h1, asAddr, Sem.run_bind, Sem.run_pure, Result.andThen_ok, h2]
theorem bp_ret0 {fn : Func} {R : Ending → World → Prop} {N : Nat} {l : List (Nat × Value)} (hF : Fr N a l) (hr : fn.results = #[]) (h : R (.returned (.tuple #[])) w) : bodyPost P fn R .ret a w :=
  ⟨hF.df, _, by rw [results_eq, hr]; simp, h⟩
theorem bp_end0 {fn : Func} {R : Ending → World → Prop} {N : Nat} {l : List (Nat × Value)} (hF : Fr N a l) (hr : fn.results = #[]) (h : R (.returned (.tuple #[])) w) : bodyPost P fn R .normal a w :=
  ⟨hF.df, _, by rw [results_eq, hr]; simp, h⟩
theorem bp_ret1 {fn : Func} {R : Ending → World → Prop} {N : Nat} {l : List (Nat × Value)} (hF : Fr N a l) {r1 : ResultVar} {v1 : Value} (hr : fn.results = #[r1]) (h1 : ResV P a w r1 v1) (h : R (.returned v1) w) : bodyPost P fn R .ret a w :=
  ⟨hF.df, _, by rw [results_eq, hr]; simp [run_resOf h1], h⟩
theorem bp_ret2 {fn : Func} {R : Ending → World → Prop} {N : Nat} {l : List (Nat × Value)} (hF : Fr N a l) {r1 r2 : ResultVar} {v1 v2 : Value} (hr : fn.results = #[r1, r2]) (h1 : ResV P a w r1 v1) (h2 : ResV P a w r2 v2) (h : R (.returned (.tuple #[v1, v2])) w) : bodyPost P fn R .ret a w :=
  ⟨hF.df, _, by rw [results_eq, hr]; simp [run_resOf h1, run_resOf h2], h⟩
theorem bp_ret3 {fn : Func} {R : Ending → World → Prop} {N : Nat} {l : List (Nat × Value)} (hF : Fr N a l) {r1 r2 r3 : ResultVar} {v1 v2 v3 : Value} (hr : fn.results = #[r1, r2, r3]) (h1 : ResV P a w r1 v1) (h2 : ResV P a w r2 v2) (h3 : ResV P a w r3 v3) (h : R (.returned (.tuple #[v1, v2, v3])) w) : bodyPost P fn R .ret a w :=
  ⟨hF.df, _, by rw [results_eq, hr]; simp [run_resOf h1, run_resOf h2, run_resOf h3], h⟩
theorem bp_ret4 {fn : Func} {R : Ending → World → Prop} {N : Nat} {l : List (Nat × Value)} (hF : Fr N a l) {r1 r2 r3 r4 : ResultVar} {v1 v2 v3 v4 : Value} (hr : fn.results = #[r1, r2, r3, r4]) (h1 : ResV P a w r1 v1) (h2 : ResV P a w r2 v2) (h3 : ResV P a w r3 v3) (h4 : ResV P a w r4 v4) (h : R (.returned (.tuple #[v1, v2, v3, v4])) w) : bodyPost P fn R .ret a w :=
  ⟨hF.df, _, by rw [results_eq, hr]; simp [run_resOf h1, run_resOf h2, run_resOf h3, run_resOf h4], h⟩
/-- A branch over a test of which nothing is known: both ways, and what was known of the slot turned to the outcome. -/
theorem wc_cond {N : Nat} {l : List (Nat × Value)} (hF : Fr N a l) {k : Nat} {x y : Code} {t : Bool} (hk : lk l k = some (.bool t)) (ht : t = true → x.wp P Q a w) (hf : t = false → y.wp P Q a w) : (Code.cond (.tmp k) x y).wp P Q a w :=
  wp_cond_split (hF.ev (x := .tmp k) hk) ht hf
theorem wc_true {N : Nat} {l : List (Nat × Value)} (hF : Fr N a l) {k : Nat} {x y : Code} (hk : lk l k = some (.bool true)) (h : x.wp P Q a w) : (Code.cond (.tmp k) x y).wp P Q a w := wp_cond_true (hF.ev (x := .tmp k) hk) h
theorem wc_false {N : Nat} {l : List (Nat × Value)} (hF : Fr N a l) {k : Nat} {x y : Code} (hk : lk l k = some (.bool false)) (h : y.wp P Q a w) : (Code.cond (.tmp k) x y).wp P Q a w := wp_cond_false (hF.ev (x := .tmp k) hk) h
theorem Fr.know {N : Nat} {l : List (Nat × Value)} (hF : Fr N a l) {k : Nat} {t c : Bool} (hk : lk l k = some (.bool t)) (hc : t = c) : Fr N a ((k, .bool c) :: l) := by
  subst hc
  refine ⟨hF.sz, hF.df, fun j v hv => ?_⟩
  unfold lk at hv
  cases hb : Nat.beq k j with
  | true =>
    rw [hb] at hv
    obtain rfl := Nat.eq_of_beq_eq_true hb
    obtain rfl := Option.some.inj hv
    exact hF.at_ _ _ hk
  | false =>
    rw [hb] at hv
    exact hF.at_ j v hv
/-- What is known of a branch. -/
theorem Fr.cases {G : Prop} {N : Nat} {l : List (Nat × Value)} (hF : Fr N a l) (k : Nat) {t : Bool} (hk : lk l k = some (.bool t)) (h1 : t = true → Fr N a ((k, .bool true) :: l) → G) (h2 : t = false → Fr N a ((k, .bool false) :: l) → G) : G := by
  cases t with
  | true => exact h1 rfl (hF.know hk rfl)
  | false => exact h2 rfl (hF.know hk rfl)
def allLk (l : List (Nat × Value)) : List (Nat × Value) → Prop
  | [] => True
  | p :: r => lk l p.1 = some p.2 ∧ allLk l r
theorem Fr.less {N : Nat} {l : List (Nat × Value)} (h : Fr N a l) (l' : List (Nat × Value)) (hs : allLk l l') : Fr N a l' :=
  h.sub fun p hp => by
    induction l' with
    | nil => cases hp
    | cons q r ih =>
      rcases List.mem_cons.1 hp with rfl | hp
      · exact hs.1
      · exact ih hs.2 hp
def allArg (args : Array Value) : List (Nat × Value) → Prop
  | [] => True
  | p :: r => args[p.1]? = some p.2 ∧ allArg args r
theorem wc_enter' {f : FuncId} {fn : Func} {c : Code} {args : Array Value} {R : Ending → World → Prop} (hf : P.funcs[f]? = some fn) (hb : fn.body = some c) {N : Nat} (hN : fn.ntmps = N) {l : List (Nat × Value)} (hl : ∀ p ∈ l, args[p.1]? = some p.2) (hs : args.size ≤ N)
    (h : ∀ a, Fr N a l → c.wp P (bodyPost P fn R) a w) : Calls P f args w R := by
  refine calls_of_wp hf hb (h _ (Fr.start ?_ fun p hp => ?_))
  · subst hN; simp; omega
  · have h1 := hl p hp
    have h2 : p.1 < args.size := (Array.getElem?_eq_some_iff.1 h1).1
    rw [Array.getElem?_append_left h2]; exact h1
theorem allArg_spec {args : Array Value} : ∀ {l : List (Nat × Value)}, allArg args l → ∀ p ∈ l, args[p.1]? = some p.2
  | [], _, _, hp => by cases hp
  | q :: r, h, p, hp => by
    rcases List.mem_cons.1 hp with rfl | hp
    · exact h.1
    · exact allArg_spec h.2 p hp
theorem least {p : Nat → Prop} (h : ∃ n, p n) : ∃ n, p n ∧ ∀ m, p m → n ≤ m := by
  obtain ⟨n, hn⟩ := h
  induction n using Nat.strongRecOn with
  | _ n ih =>
    by_cases hx : ∃ m, m < n ∧ p m
    · obtain ⟨m, hm, hp⟩ := hx
      exact ih m hm hp
    · exact ⟨n, hn, fun m hm => Nat.le_of_not_lt fun hlt => hx ⟨m, hlt, hm⟩⟩
/-- A loop, by something that goes down. -/
theorem wc_loop {c : Code} {ι : Type} (I : ι → Act → World → Prop) (μ : ι → Nat) (i0 : ι) (h0 : I i0 a w)
    (round : ∀ i a w, I i a w → c.wp P (Exit.then (fun a' w' => ∃ j, I j a' w' ∧ μ j < μ i) Q) a w) : (Code.loop c).wp P Q a w := by
  classical
  have hex : ∀ {a w} {i}, I i a w → ∃ n i, I i a w ∧ μ i = n := fun {a w i} h => ⟨μ i, i, h, rfl⟩
  refine wp_loop (fun a w => ∃ i, I i a w) (fun a w => if h : ∃ n i, I i a w ∧ μ i = n then Classical.choose (least h) else 0) ⟨i0, h0⟩ fun a w ⟨i, hi⟩ => ?_
  have hx := hex hi
  obtain ⟨⟨i1, h1, e1⟩, _⟩ := Classical.choose_spec (least hx)
  refine wp_mono (round i1 a w h1) fun e a' w' hq => ?_
  cases e with
  | normal =>
    obtain ⟨j, hj, hlt⟩ := hq
    refine ⟨⟨j, hj⟩, ?_⟩
    have hx' := hex hj
    simp only [dif_pos hx, dif_pos hx']
    have := (Classical.choose_spec (least hx')).2 (μ j) ⟨j, hj, rfl⟩
    omega
  | _ => exact hq
/-- The way into a function. -/
theorem wc_enter {f : FuncId} {fn : Func} {c : Code} {args : Array Value} {R : Ending → World → Prop} (hf : P.funcs[f]? = some fn) (hb : fn.body = some c) {N : Nat} (hN : fn.ntmps = N) (l : List (Nat × Value)) (hl : allArg args l) (hs : Nat.ble args.size N = true)
    (h : ∀ a, Fr N a l → c.wp P (bodyPost P fn R) a w) : Calls P f args w R :=
  wc_enter' hf hb hN (allArg_spec hl) (Nat.le_of_ble_eq_true hs) h
theorem rem_pos {m n : Int} (hm : 0 ≤ m) (_hn : 0 < n) : m.tmod n = m % n := Int.tmod_eq_emod_of_nonneg hm
theorem quo_pos {m n : Int} (hm : 0 ≤ m) (hn : 0 < n) (hb : m ≤ 9223372036854775807) : IntKind.i64.wrap (m.tdiv n) = m / n := by
  rw [Int.tdiv_eq_ediv_of_nonneg hm]
  have h1 : 0 ≤ m / n := Int.ediv_nonneg hm (by omega)
  have h2 : m / n ≤ m := Int.ediv_le_self n hm
  exact IntWalk.i64_in _ (by omega)
theorem i64w {x : Int} (h : -9223372036854775808 ≤ x ∧ x ≤ 9223372036854775807) : IntKind.i64.wrap x = x := IntWalk.i64_in _ h
end

/-! ### Rows -/
section
variable {α : Type} {enc : α → List Value} {size : Nat} {e : TypeId} {W w : World} {s : List Asr}
theorem flat_set (he : ∀ x, (enc x).length = size) (xs : List α) (j : Nat) (hj : j < xs.length) (x : α) : splice (xs.flatMap enc) (j * size) (enc x) = (xs.set j x).flatMap enc := by
  unfold splice
  rw [flat_take enc size he, he, show j * size + size = (j + 1) * size by rw [Nat.add_mul]; omega, flat_drop enc size he, List.set_eq_take_append_cons_drop, if_pos hj, List.flatMap_append, List.flatMap_cons]
  simp
/-- A slice that reads as the list, at a known place. -/
structure Rg {α : Type} (enc : α → List Value) (size : Nat) (W : World) (ao : Option Addr) (n g off : Nat) (xs : List α) : Prop where
  len : n = xs.length
  ao : ∀ j, j < n → ao = some ⟨g, off, none⟩
  at_ : ∀ j x, xs[j]? = some x → g < W.heap.size ∧ W.rangeAt g (off + j * size) (enc x)
theorem St.rdOf (h : St W s w) (he : ∀ x, (enc x).length = size) (i : Nat) {ao : Option Addr} {n cap : Nat} {xs : List α} (hi : s[i]? = some (rowA enc size e (.slice ao n cap) xs)) : Rd enc size w ao xs.length xs := by
  obtain ⟨_, _, e1, r⟩ := h.rdS he i hi
  simp only [Value.slice.injEq] at e1
  obtain ⟨rfl, rfl, rfl⟩ := e1
  exact r
theorem Rd.opn {ao : Option Addr} {n : Nat} {xs : List α} (h : Rd enc size W ao n xs) : ∃ g off, Rg enc size W ao n g off xs := by
  by_cases h0 : 0 < xs.length
  · obtain ⟨b, off, x, _, e1, hlt, _⟩ := h.at_ 0 h0
    refine ⟨b, off, h.len.symm, fun _ _ => e1, fun j x hx => ?_⟩
    obtain ⟨b', off', y, hy, e2, _, hr⟩ := h.at_ j (List.getElem?_eq_some_iff.1 hx).1
    rw [e1] at e2
    simp only [Option.some.injEq, Addr.mk.injEq, and_true] at e2
    obtain ⟨rfl, rfl⟩ := e2
    obtain rfl := Option.some.inj (hx.symm.trans hy)
    exact ⟨hlt, hr⟩
  · exact ⟨0, 0, h.len.symm, fun j hj => absurd hj (by have := h.len; omega), fun j x hx => absurd (List.getElem?_eq_some_iff.1 hx).1 (by omega)⟩
theorem Rg.elem {ao : Option Addr} {n g off : Nat} {xs : List α} (h : Rg enc size W ao n g off xs) (hS : St W s w) {j : Nat} {x : α} (hx : xs[j]? = some x) : w.rangeAt g (off + j * size) (enc x) :=
  rangeAt_below (h.at_ j x hx).2 hS.bel (h.at_ j x hx).1
theorem Rg.elem1 {enc : α → List Value} {ao : Option Addr} {n g off : Nat} {xs : List α} (h : Rg enc 1 W ao n g off xs) (hS : St W s w) {j : Nat} {x : α} (hx : xs[j]? = some x) {v : Value} (hv : enc x = [v]) : w.cell? ⟨g, off + j * 1, none⟩ = some v := by
  have := h.elem hS hx 0 v (by rw [hv]; rfl)
  simpa using this
theorem get_getD {xs : List α} {d : α} {j : Nat} (h : j < xs.length) : xs[j]? = some (xs.getD j d) := by
  rw [List.getElem?_eq_getElem h]; simp [List.getD, h]
/-- An element of a row of the call's own. -/
theorem St.elem (he : ∀ x, (enc x).length = size) (h : St W s w) (i : Nat) {g off n cap : Nat} {xs : List α} (hi : s[i]? = some (rowA enc size e (.slice (some ⟨g, off, none⟩) n cap) xs)) {j : Nat} {x : α} (hx : xs[j]? = some x) : w.rangeAt g (off + j * size) (enc x) := by
  obtain ⟨ao, cap', hv, hr⟩ := h.rdS he i hi
  simp only [Value.slice.injEq] at hv
  obtain ⟨rfl, rfl, rfl⟩ := hv
  obtain ⟨b, o, y, hy, e1, _, hrg⟩ := hr.at_ j (List.getElem?_eq_some_iff.1 hx).1
  simp only [Option.some.injEq, Addr.mk.injEq, and_true] at e1
  obtain ⟨rfl, rfl⟩ := e1
  obtain rfl := Option.some.inj (hx.symm.trans hy)
  exact hrg
theorem St.elem1 {enc : α → List Value} (he : ∀ x, (enc x).length = 1) (h : St W s w) (i : Nat) {g off n cap : Nat} {xs : List α} (hi : s[i]? = some (rowA enc 1 e (.slice (some ⟨g, off, none⟩) n cap) xs)) {j : Nat} {x : α} (hx : xs[j]? = some x) {v : Value} (hv : enc x = [v]) : w.cell? ⟨g, off + j * 1, none⟩ = some v := by
  have := h.elem he i hi hx 0 v (by rw [hv]; rfl)
  simpa using this
/-- The row of a slice that has elements. -/
theorem St.rowOpen (h : St W s w) (i : Nat) {ao : Option Addr} {n cap : Nat} {xs : List α} (hi : s[i]? = some (rowA enc size e (.slice ao n cap) xs)) (hp : 0 < xs.length) :
    ∃ g, ao = some ⟨g, 0, none⟩ ∧ n = xs.length ∧ Value.rowBlock (.slice ao n cap) = some g ∧ w.ownsRow W.heap.size e size (.slice (some ⟨g, 0, none⟩) n cap) n (xs.flatMap enc) ∧ g < w.heap.size := by
  have hr := h.row i hi
  obtain ⟨_, _, hv, _⟩ := id hr
  simp only [Value.slice.injEq] at hv
  obtain ⟨_, rfl, _⟩ := hv
  obtain ⟨g, rfl, _, h2, _, h4, h5⟩ := hr.opn hp
  exact ⟨g, rfl, rfl, h4, h5, h2⟩
theorem St.putRow (he : ∀ x, (enc x).length = size) (h : St W s w) (i : Nat) {g n cap : Nat} {xs : List α} (hi : s[i]? = some (rowA enc size e (.slice (some ⟨g, 0, none⟩) n cap) xs)) {j : Nat} (hj : j < xs.length) (x : α) :
    St W (s.set i (rowA enc size e (.slice (some ⟨g, 0, none⟩) n cap) (xs.set j x))) (w.setCells g (j * size) (enc x)) := by
  obtain ⟨g', e1, rfl, hb, ho, hlt⟩ := h.rowOpen i hi (by omega)
  simp only [Option.some.injEq, Addr.mk.injEq, and_true] at e1
  subst e1
  have hfl := flat_len enc size he xs
  have hj2 : j * size + size ≤ xs.length * size := by rw [← Nat.succ_mul]; exact Nat.mul_le_mul_right size hj
  obtain ⟨h1, h2⟩ := owns_setCells (enc x) (j * size) w _ ho (by rw [he, hfl]; exact hj2)
  rw [flat_set he xs j hj x] at h1
  refine h.mutRow i hi (B := W.heap.size) ⟨_, cap, by rw [List.length_set], .inr (by rw [List.length_set]; exact h1), fun g' hg' => ?_⟩ (by rw [hb]; exact h2) fun g' hg' => .inl hg'
  rw [hb] at hg'
  obtain rfl := Option.some.inj hg'
  exact Nat.lt_of_lt_of_le hlt h2.size
section
variable {P : Program} {ops : Array Oper} {Q : Exit → Act → World → Prop} {rest : List Oper} {o : Oper} {a : Act}
/-- An element of one cell is written. -/
theorem wl_storeE {enc : α → List Value} (he : ∀ x, (enc x).length = 1) (hg : o.guard = none) {t : TypeId} {x y : Operand} (ho : o.op = .store t x y) (hd : o.dst = none) {g n cap j : Nat} {v : Value} (hx : a.eval x = .pointer (some ⟨g, 0 + j * 1, none⟩)) (hy : a.eval y = v) (hs : scalar? P t = true) (hS : St W s w) (i : Nat) {xs : List α}
    (hi : s[i]? = some (rowA enc 1 e (.slice (some ⟨g, 0, none⟩) n cap) xs)) (hj : j < xs.length) {z : α} (hz : enc z = [v]) (hv : v.oneCell' = true)
    (h : ∀ w', St W (s.set i (rowA enc 1 e (.slice (some ⟨g, 0, none⟩) n cap) (xs.set j z))) w' → wpList P ops Q rest a w') : wpList P ops Q (o :: rest) a w := by
  obtain ⟨g', e1, rfl, hb, hw, hlt⟩ := hS.rowOpen i hi (by omega)
  simp only [Option.some.injEq, Addr.mk.injEq, and_true] at e1
  subst e1
  have e0 : 0 + j * 1 = j := by omega
  have hc := hS.elem he i hi (List.getElem?_eq_getElem hj)
  rw [e0] at hx hc
  have hc0 : w.cell? ⟨g, j, none⟩ = some ((enc xs[j])[0]'(by rw [he]; omega)) := by
    have := hc 0 _ (List.getElem?_eq_getElem (by rw [he]; omega))
    simpa using this
  have hp := hS.putRow he i hi hj z
  rw [hz, show j * 1 = j by omega] at hp
  exact wl_store1 hg ho hd hx hy hs hc0 (hw.frozenAt j) hv (h _ hp)
/-- An element of some cells is written. -/
theorem wl_storeEn (he : ∀ x, (enc x).length = size) (hg : o.guard = none) {t : TypeId} {x y : Operand} (ho : o.op = .store t x y) (hd : o.dst = none) {g n cap j : Nat} {A : Array Value} (hx : a.eval x = .pointer (some ⟨g, 0 + j * size, none⟩)) (hy : a.eval y = .agg A) (hs : rowOf? P t size = true) (hS : St W s w) (i : Nat) {xs : List α}
    (hi : s[i]? = some (rowA enc size e (.slice (some ⟨g, 0, none⟩) n cap) xs)) (hj : j < xs.length) {z : α} (hz : A.toList = enc z) (hv : A.all (·.oneCell') = true)
    (h : ∀ w', St W (s.set i (rowA enc size e (.slice (some ⟨g, 0, none⟩) n cap) (xs.set j z))) w' → wpList P ops Q rest a w') : wpList P ops Q (o :: rest) a w := by
  obtain ⟨g', e1, rfl, hb, hw, hlt⟩ := hS.rowOpen i hi (by omega)
  simp only [Option.some.injEq, Addr.mk.injEq, and_true] at e1
  subst e1
  rw [Nat.zero_add] at hx
  have hfl := flat_len enc size he xs
  have hj2 : j * size + size ≤ xs.length * size := by rw [← Nat.succ_mul]; exact Nat.mul_le_mul_right size hj
  have hsz : A.size = size := by rw [← Array.length_toList, hz, he]
  refine wpList_plain hg fun K hK => wp_store_mid t x y ho g (j * size) A hx hy (by rw [hsz]; exact owns_there hw _ _ (by rw [hfl]; exact hj2)) (by rw [hsz]; exact (rowOf_spec hs).2) hv ?_
  rw [hd, hz]
  exact hK _ _ (h _ (hS.putRow he i hi hj z))
end
end
end Go.Proofs.Ytkgmilobmbeplaa
