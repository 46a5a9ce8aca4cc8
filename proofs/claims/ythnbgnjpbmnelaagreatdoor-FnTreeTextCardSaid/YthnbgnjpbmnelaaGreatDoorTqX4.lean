/- A part of the proof in YthnbgnjpbmnelaaGreatDoorTqX34. -/
import Derived.Orders
import Derived.Test.YthnbgnjpbmnelaaGreatDoorTqX3
namespace Go.Proofs.YthnbgnjpbmnelaaGreatDoor
open List (append_nil mem_append mem_append_left mem_append_right)
set_option linter.unusedVariables false
set_option linter.unusedSimpArgs false
set_option maxHeartbeats 1000000
set_option maxRecDepth 100000
open Go.RowKit
def upd (L : Nat → Bool) (i : Nat) : Nat → Bool := fun j => if j = i then true else L j
theorem Zk5 (a : Act) (d : Option Tmp) (v : Value) : (a.put d v).tmps.size = a.tmps.size := by cases d <;> simp [Act.put]
theorem Zh5 (a : Act) (d : Option Tmp) (v : Value) : (a.put d v).defers = a.defers := by cases d <;> rfl
theorem Zm1 (a : Act) (d : Nat) (v : Value) (k : Nat) (h : k ≠ d) : (a.put (some d) v).tmps[k]? = a.tmps[k]? := by
 simp [Act.put, Array.getElem?_setIfInBounds, Ne.symm h]
section
variable {P : Program} {o : Oper} {a : Act} {w : World} {K : Act → World → Prop} {Q : Exit → Act → World → Prop}
theorem Xs {P : Program} {f : FuncId} {fn : Func} {c : Code} (hf : P.funcs[f]? = some fn) (hname : (fn.name == "runtime.NumGoroutine") = false) (hb : fn.body = some c) : ∀ (args : Array Value) (w : World), (callFunc f args).run P w = .ok (.enter f args) w := fun args w => by
 have hn : ¬ fn.name = "runtime.NumGoroutine" := by simpa using hname
 simp [callFunc, go_sem, hf, hn, hb]
theorem UW (f : FuncId) (xs : Array Operand) (ts : Array TypeId) (ho : o.op = .call { callee := .value (.func f), args := xs, argTypes := ts }) (hc : ∀ (args : Array Value) (w : World), (callFunc f args).run P w = .ok (.enter f args) w)
  (h : Calls P f (xs.map a.eval) w fun e w'' => ∃ v, e = .returned v ∧ K (a.put o.dst v) w'') : o.wp P a w K Q := by
 unfold Oper.wp execOp;simp only [ho];have hr : ((do let d ← resolve a.eval { callee := .value (.func f), args := xs, argTypes := ts } o.type; invoke d.target d.args) : Sem Next).run P w = .ok (.enter f (xs.map a.eval)) w := by
  simp [resolve, Act.eval, go_sem, hc]
 rw [hr, Oper.upon_enter];refine h.mono fun e w'' ⟨v, he, hk⟩ => ?_;subst he;exact hk
theorem ZcA (t : TypeId) (ho : o.op = .alloc t) (Z : Array Value) (hr : (Instr.alloc t true (.tuple #[])).run P w = .ok (.pointer (some ⟨w.heap.size, 0, none⟩)) (w.alloc (.cells Z t))) (h : K (a.put o.dst (.pointer (some ⟨w.heap.size, 0, none⟩))) (w.alloc (.cells Z t))) : o.wp P a w K Q := by
 unfold Oper.wp execOp;simp only [ho, Sem.run_bind, hr, Result.andThen_ok, Sem.run_pure];exact h
theorem Zba (ty : TypeId) (x y : Operand) (ho : o.op = .store ty x y)
  (b n : Nat) (t : TypeId) (u v : Value) (hx : a.eval x = .pointer (some ⟨b, 0, none⟩)) (hy : a.eval y = v) (hb : Box w b n t u) (hv : Cells n v)
  (hi : (P.info? ty).map (·.size) = some n)
  (h : ∀ w', Box w' b n t v → YU b (b + 1) w w' → w'.heap.size = w.heap.size → K (a.put o.dst undef) w') : o.wp P a w K Q := by
 obtain ⟨cells, rfl, rfl, h1, ht, k1, k2, k3⟩ := hb.put hv;exact wp_store_mid ty x y ho b 0 cells hx hy ht hi h1 (h _ k1 k2 k3)
end
structure Asr where
  P : World → List Nat → Prop
  loc : ∀ w w' f, w.heap.size ≤ w'.heap.size → (∀ b, b ∈ f → w'.heap[b]? = w.heap[b]?) → P w f → P w' f
def sepP : List Asr → World → List Nat → Prop
 | [], _, f => f = []
 | a :: r, w, f => ∃ f1 f2, f = f1 ++ f2 ∧ a.P w f1 ∧ sepP r w f2
theorem Zbb (rs : List Asr) (w w' : World) (hs : w.heap.size ≤ w'.heap.size) : ∀ f : List Nat, (∀ b, b ∈ f → w'.heap[b]? = w.heap[b]?) → sepP rs w f → sepP rs w' f := by
 induction rs with
 | nil => exact fun _ _ h => h
 | cons a r ih =>
  rintro f hb ⟨f1, f2, rfl, h1, h2⟩;exact ⟨f1, f2, rfl, a.loc w w' f1 hs (fun b h => hb b (mem_append_left _ h)) h1, ih f2 (fun b h => hb b (mem_append_right _ h)) h2⟩
theorem Qg : ∀ (r s : List Asr) (w : World) (f : List Nat), sepP (r ++ s) w f ↔ ∃ f1 f2, f = f1 ++ f2 ∧ sepP r w f1 ∧ sepP s w f2
 | [], s, w, f => ⟨fun h => ⟨[], f, rfl, rfl, h⟩, fun ⟨f1, f2, e, h1, h2⟩ => by
   have h1 : f1 = [] := h1;rw [e, h1]; exact h2⟩
 | a :: r, s, w, f => by
  constructor
  ·rintro ⟨f1, f2, rfl, h1, h2⟩
   obtain ⟨g1, g2, rfl, h3, h4⟩ := (Qg r s w f2).1 h2;exact ⟨f1 ++ g1, g2, by simp, ⟨f1, g1, rfl, h1, h3⟩, h4⟩
  ·rintro ⟨_, f2, rfl, ⟨g1, g2, rfl, h1, h3⟩, h4⟩
   exact ⟨g1, g2 ++ f2, by simp, h1, (Qg r s w _).2 ⟨g2, f2, rfl, h3, h4⟩⟩
theorem ZjN {rs rs' : List Asr} (hp : rs.Perm rs') : ∀ (w : World) (f : List Nat), sepP rs w f → ∃ f', f'.Perm f ∧ sepP rs' w f' := by
 induction hp with
 | nil => exact fun w f h => ⟨f, List.Perm.refl _, h⟩
 | cons a _ ih =>
  rintro w _ ⟨f1, f2, rfl, h1, h2⟩;obtain ⟨g, hg, h3⟩ := ih w f2 h2;exact ⟨f1 ++ g, hg.append_left f1, f1, g, rfl, h1, h3⟩
 | swap a b l =>
  rintro w _ ⟨f1, _, rfl, h1, ⟨f2, f3, rfl, h2, h3⟩⟩;refine ⟨f2 ++ (f1 ++ f3), ?_, f2, _, rfl, h2, f1, f3, rfl, h1, h3⟩;rw [← List.append_assoc, ← List.append_assoc];exact (List.perm_append_comm).append_right f3
 | trans _ _ ih1 ih2 =>
  intro w f h;obtain ⟨g, hg, h1⟩ := ih1 w f h;obtain ⟨k, hk, h2⟩ := ih2 w g h1;exact ⟨k, hk.trans hg, h2⟩
theorem V0 {α : Type} : ∀ (s : List α) (i : Nat) (h : i < s.length), s.Perm (s[i] :: s.eraseIdx i)
 | _ :: _, 0, _ => List.Perm.refl _
 | a :: s, i + 1, h => ((V0 s i (by simpa using h)).cons a).trans (List.Perm.swap _ _ _)
def sepA (rs : List Asr) : Asr := ⟨sepP rs, fun w w' f hs => Zbb rs w w' hs f⟩
def exA {α : Type} (A : α → Asr) : Asr := ⟨fun w f => ∃ x, (A x).P w f, fun w w' f hs hb ⟨x, h⟩ => ⟨x, (A x).loc w w' f hs hb h⟩⟩
def pureA (p : Prop) : Asr := ⟨fun _ f => p ∧ f = [], fun _ _ _ _ _ h => h⟩
structure St (W : World) (rs : List Asr) (w : World) : Prop where
  bel : Below W.heap.size W w
  sep : ∃ f, sepP rs w f ∧ f.Nodup ∧ ∀ b, b ∈ f → W.heap.size ≤ b ∧ b < w.heap.size
theorem St.start (w : World) : St w [] w := ⟨Below.refl _ _, [], rfl, List.nodup_nil, fun _ h => by cases h⟩
theorem St.later {W w w' : World} {rs : List Asr} (h : St W rs w) (hb : Below w.heap.size w w') : St W rs w' := by
 obtain ⟨f, h1, h2, h3⟩ := h.sep;exact ⟨h.bel.trans (hb.mono h.bel.size), f, Zbb rs w w' hb.size f (fun b hm => hb.block b (h3 b hm).2) h1, h2, fun b hm => ⟨(h3 b hm).1, Nat.lt_of_lt_of_le (h3 b hm).2 hb.size⟩⟩
theorem St.drew {W w : World} {rs : List Asr} (h : St W rs w) : St W rs w.drew := h.later (Below.refl _ _).drew
theorem St.add {W w w' : World} {rs ns : List Asr} (h : St W rs w) (k : St w ns w') : St W (ns ++ rs) w' := by
 obtain ⟨f, h1, h2, h3⟩ := (h.later k.bel).sep;obtain ⟨f0, h10, _, h30⟩ := h.sep;obtain ⟨g, k1, k2, k3⟩ := k.sep;refine ⟨h.bel.trans (k.bel.mono h.bel.size), g ++ f0, (Qg _ _ _ _).2 ⟨g, f0, rfl, k1, Zbb rs w w' k.bel.size f0 (fun b hm => k.bel.block b (h30 b hm).2) h10⟩, ?_, fun b hm => ?_⟩
 ·rw [List.nodup_append]
  refine ⟨k2, by obtain ⟨f0', h10', h20', _⟩ := h.sep; assumption, fun a ha b hb e => ?_⟩;have := (k3 a ha).1;have := (h30 b hb).2
  omega
 ·rcases mem_append.1 hm with hm | hm
  ·exact ⟨Nat.le_trans h.bel.size (k3 b hm).1, (k3 b hm).2⟩
  ·exact ⟨(h30 b hm).1, Nat.lt_of_lt_of_le (h30 b hm).2 k.bel.size⟩
theorem St.perm {W w : World} {rs rs' : List Asr} (h : St W rs w) (hp : rs.Perm rs') : St W rs' w := by
 obtain ⟨f, h1, h2, h3⟩ := h.sep;obtain ⟨g, hg, k1⟩ := ZjN hp w f h1;exact ⟨h.bel, g, k1, hg.nodup_iff.2 h2, fun b hm => h3 b (hg.mem_iff.1 hm)⟩
theorem St.drop {W w : World} {r s : List Asr} (h : St W (r ++ s) w) : St W s w := by
 obtain ⟨f, h1, h2, h3⟩ := h.sep;obtain ⟨f1, f2, rfl, _, k2⟩ := (Qg _ _ _ _).1 h1;exact ⟨h.bel, f2, k2, (List.nodup_append.1 h2).2.1, fun b hm => h3 b (mem_append_right _ hm)⟩
theorem St.tail {W w : World} {a : Asr} {s : List Asr} (h : St W (a :: s) w) : St W s w := St.drop (r := [a]) h
theorem St.erase {W w : World} {s : List Asr} (h : St W s w) (i : Nat) : St W (s.eraseIdx i) w := by
 by_cases hi : i < s.length
 ·exact St.tail (a := s[i]) (h.perm (V0 s i hi))
 ·rw [List.eraseIdx_of_length_le (by omega)]; exact h
theorem St.pick {W w : World} {s : List Asr} (h : St W s w) (i : Nat) {a : Asr} (hi : s[i]? = some a) : St W (a :: s.eraseIdx i) w := by
 obtain ⟨hl, rfl⟩ := List.getElem?_eq_some_iff.1 hi;exact h.perm (V0 s i hl)
theorem St.first {W w : World} {a : Asr} {s : List Asr} (h : St W (a :: s) w) : ∃ f, a.P w f ∧ f.Nodup ∧ ∀ b, b ∈ f → W.heap.size ≤ b ∧ b < w.heap.size := by
 obtain ⟨f, ⟨f1, f2, rfl, h1, _⟩, h2, h3⟩ := h.sep;exact ⟨f1, h1, (List.nodup_append.1 h2).1, fun b hm => h3 b (mem_append_left _ hm)⟩
theorem St.get {W w : World} {s : List Asr} (h : St W s w) (i : Nat) {a : Asr} (hi : s[i]? = some a) : ∃ f, a.P w f ∧ f.Nodup ∧ ∀ b, b ∈ f → W.heap.size ≤ b ∧ b < w.heap.size := (h.pick i hi).first
theorem St.mut {W w w' : World} {a a' : Asr} {s : List Asr} (h : St W (a :: s) w) (hos : w'.os = w.os) (ht : w'.tape = w.tape) (ho : w'.output = w.output) (hs : w.heap.size ≤ w'.heap.size)
  (hm : ∀ f, a.P w f → f.Nodup → (∀ b, b ∈ f → W.heap.size ≤ b ∧ b < w.heap.size) → ∃ g, a'.P w' g ∧ g.Nodup ∧ (∀ b, b ∈ g → (b ∈ f ∨ w.heap.size ≤ b) ∧ b < w'.heap.size) ∧ ∀ k, k < w.heap.size → k ∉ f → w'.heap[k]? = w.heap[k]?) : St W (a' :: s) w' := by
 obtain ⟨f, ⟨f1, f2, rfl, h1, h4⟩, h2, h3⟩ := h.sep;rw [List.nodup_append] at h2;obtain ⟨g, k1, k2, k3, k4⟩ := hm f1 h1 h2.1 (fun b hb => h3 b (mem_append_left _ hb));refine ⟨⟨hos.trans h.bel.os, ht.trans h.bel.tape, ho.trans h.bel.output, Nat.le_trans h.bel.size hs, fun k hk => (k4 k (Nat.lt_of_lt_of_le hk h.bel.size) (fun hb => ?_)).trans (h.bel.block k hk)⟩, g ++ f2, ⟨g, f2, rfl, k1, Zbb s w w' hs f2 (fun b hb => k4 b (h3 b (mem_append_right _ hb)).2 (fun hb1 => h2.2.2 b hb1 b hb rfl)) h4⟩, ?_, fun b hb => ?_⟩
 ·have := (h3 k (mem_append_left _ hb)).1; omega
 ·rw [List.nodup_append]
  refine ⟨k2, h2.2.1, fun x hx y hy e => ?_⟩;subst e;rcases (k3 x hx).1 with hx1 | hx1
  ·exact h2.2.2 x hx1 x hy rfl
  ·have := (h3 x (mem_append_right _ hy)).2; omega
 ·rcases mem_append.1 hb with hb | hb
  ·refine ⟨?_, (k3 b hb).2⟩
   rcases (k3 b hb).1 with hx | hx
   ·exact (h3 b (mem_append_left _ hx)).1
   ·have := h.bel.size; omega
  ·exact ⟨(h3 b (mem_append_right _ hb)).1, Nat.lt_of_lt_of_le (h3 b (mem_append_right _ hb)).2 hs⟩
theorem St.imp {W w : World} {a a' : Asr} {s : List Asr} (h : St W (a :: s) w) (hi : ∀ f, a.P w f → f.Nodup → (∀ b, b ∈ f → W.heap.size ≤ b ∧ b < w.heap.size) → a'.P w f) : St W (a' :: s) w :=
 h.mut rfl rfl rfl (Nat.le_refl _) fun f h1 h2 h3 => ⟨f, hi f h1 h2 h3, h2, fun b hb => ⟨.inl hb, (h3 b hb).2⟩, fun _ _ _ => rfl⟩
theorem St.join {W w : World} {r s : List Asr} : St W (r ++ s) w ↔ St W (sepA r :: s) w := by
 constructor
 ·intro h
  obtain ⟨f, h1, h2, h3⟩ := h.sep;obtain ⟨f1, f2, rfl, k1, k2⟩ := (Qg _ _ _ _).1 h1;exact ⟨h.bel, _, ⟨f1, f2, rfl, k1, k2⟩, h2, h3⟩
 ·intro h
  obtain ⟨f, ⟨f1, f2, rfl, k1, k2⟩, h2, h3⟩ := h.sep;exact ⟨h.bel, _, (Qg _ _ _ _).2 ⟨f1, f2, rfl, k1, k2⟩, h2, h3⟩
theorem St.ex {W w : World} {α : Type} {A : α → Asr} {s : List Asr} (h : St W (exA A :: s) w) : ∃ x, St W (A x :: s) w := by
 obtain ⟨f, ⟨f1, f2, rfl, ⟨x, k1⟩, k2⟩, h2, h3⟩ := h.sep;exact ⟨x, h.bel, _, ⟨f1, f2, rfl, k1, k2⟩, h2, h3⟩
theorem St.exI {W w : World} {α : Type} {A : α → Asr} {s : List Asr} (x : α) (h : St W (A x :: s) w) : St W (exA A :: s) w := by
 obtain ⟨f, ⟨f1, f2, rfl, k1, k2⟩, h2, h3⟩ := h.sep;exact ⟨h.bel, _, ⟨f1, f2, rfl, ⟨x, k1⟩, k2⟩, h2, h3⟩
theorem St.pure {W w : World} {p : Prop} {s : List Asr} : St W (pureA p :: s) w ↔ p ∧ St W s w := by
 constructor
 ·intro h
  obtain ⟨f, ⟨f1, f2, rfl, ⟨hp, rfl⟩, k2⟩, h2, h3⟩ := h.sep;exact ⟨hp, h.bel, _, k2, h2, h3⟩
 ·rintro ⟨hp, h⟩
  obtain ⟨f, h1, h2, h3⟩ := h.sep;exact ⟨h.bel, f, ⟨[], f, rfl, ⟨hp, rfl⟩, h1⟩, h2, h3⟩
def boxA (b n : Nat) (t : TypeId) (v : Value) : Asr := ⟨fun w f => f = [b] ∧ Box w b n t v, fun w w' f _ hb ⟨e, h⟩ => ⟨e, by
 obtain ⟨cs, h1, h2, h3, h4⟩ := h;exact ⟨cs, h1, h2, h3, (hb b (by rw [e]; simp)).trans h4⟩⟩⟩
theorem St.box {W w : World} {s : List Asr} (h : St W s w) (i : Nat) {b n : Nat} {t : TypeId} {v : Value} (hi : s[i]? = some (boxA b n t v)) : Box w b n t v := by
 obtain ⟨f, ⟨_, hb⟩, _⟩ := h.get i hi;exact hb
theorem St.alloc {W w : World} {s : List Asr} (h : St W s w) (cs : List Value) (t : TypeId) (h1 : (cs.all fun u => u.oneCell') = true) : St W (boxA w.heap.size cs.length t (.agg cs.toArray) :: s) (w.alloc (.cells cs.toArray t)) :=
 St.add (ns := [boxA w.heap.size cs.length t (.agg cs.toArray)]) h ⟨(Below.refl _ _).alloc (Nat.le_refl _) _, [w.heap.size], ⟨[w.heap.size], [], rfl, ⟨rfl, Box.new w cs t h1 rfl⟩, rfl⟩, by simp, fun b hb => by
  obtain rfl : b = w.heap.size := by simpa using hb
  exact ⟨Nat.le_refl _, by rw [ZkZ]; omega⟩⟩
theorem Zk6 {α : Type} (s : List α) (i : Nat) (a : α) (hi : i < s.length) : (a :: s.eraseIdx i).Perm (s.set i a) := by
 have h := (V0 (s.set i a) i (by simpa using hi)).symm;rw [List.eraseIdx_set_eq, List.getElem_set_self] at h;exact h
theorem St.mutAt {W w w' : World} {a a' : Asr} {s : List Asr} (h : St W s w) (i : Nat) (hi : s[i]? = some a) (hos : w'.os = w.os) (ht : w'.tape = w.tape) (ho : w'.output = w.output) (hs : w.heap.size ≤ w'.heap.size)
  (hm : ∀ f, a.P w f → f.Nodup → (∀ b, b ∈ f → W.heap.size ≤ b ∧ b < w.heap.size) → ∃ g, a'.P w' g ∧ g.Nodup ∧ (∀ b, b ∈ g → (b ∈ f ∨ w.heap.size ≤ b) ∧ b < w'.heap.size) ∧ ∀ k, k < w.heap.size → k ∉ f → w'.heap[k]? = w.heap[k]?) : St W (s.set i a') w' :=
 (St.mut (h.pick i hi) hos ht ho hs hm).perm (Zk6 s i a' (List.getElem?_eq_some_iff.1 hi).1)
theorem St.putBox {W w w' : World} {s : List Asr} (h : St W s w) (i : Nat) {b n : Nat} {t : TypeId} {u v : Value} (hi : s[i]? = some (boxA b n t u)) (hb : Box w' b n t v) (ho : YU b (b + 1) w w') : St W (s.set i (boxA b n t v)) w' :=
 h.mutAt i hi ho.os ho.tape ho.output ho.size fun f ⟨e, _⟩ _ h3 => ⟨f, ⟨e, hb⟩, by rw [e]; simp, fun c hc => ⟨.inl hc, Nat.lt_of_lt_of_le (h3 c hc).2 ho.size⟩, fun k hk hn => ho.block k hk (by rw [e] at hn; simp at hn; omega)⟩
theorem St.putField {W w : World} {s : List Asr} (h : St W s w) (i : Nat) {b n : Nat} {t : TypeId} {l : Array Value} (hi : s[i]? = some (boxA b n t (.agg l))) (k : Nat) {u : Value} (hu : u.oneCell' = true) : St W (s.set i (boxA b n t (.agg (l.setIfInBounds k u)))) (w.setCell ⟨b, k, none⟩ u) :=
 h.putBox i hi ((h.box i hi).putField k hu) ((YU.refl _ _ _).set (by simp) _)
def Zg {α : Type} (enc : α → List Value) (size : Nat) (e : TypeId) (v : Value) (xs : List α) : Asr :=
 ⟨fun w f => f = (Value.rowBlock v).toList ∧ ∃ B1, RowO enc size e w 0 B1 v xs, fun w w' f _ hb ⟨e1, B1, h⟩ => ⟨e1, B1, by
  refine h.by fun hq ⟨hl, ho⟩ => ⟨hl, ?_⟩
  rcases ho with ho | ⟨g, cap, cur, hv, hB, hg, rest⟩
  ·exact .inl ho
  ·exact .inr ⟨g, cap, cur, hv, hB, (hb g (by rw [e1, hq, hv]; simp [Value.ownBlock])).trans hg, rest⟩⟩⟩
theorem RowO.bounds {α : Type} {enc : α → List Value} {size : Nat} {e : TypeId} {w : World} {B B1 C C1 : Nat} {v : Value} {xs : List α} (h : RowO enc size e w B B1 v xs) (hb : ∀ g, Value.rowBlock v = some g → C ≤ g ∧ g < C1) : RowO enc size e w C C1 v xs := by
 obtain ⟨ao, cap, rfl, ho, hg⟩ := h;refine ⟨ao, cap, rfl, ?_, fun g h => (hb g h).2⟩;rcases ho with ho | ho
 ·exact .inl ho
 ·by_cases h0 : cap = 0
  ·obtain ⟨ao', cap', hv, hle, _⟩ := XE ho
   simp only [Value.slice.injEq, true_and] at hv;obtain ⟨rfl, rfl⟩ := hv;exact .inl ⟨h0, List.length_eq_zero_iff.1 (by omega)⟩
  ·refine .inr ⟨ho.1, ?_⟩
   rcases ho.2 with hn | ⟨g, cap', cur, hv, hB, rest⟩
   ·exact .inl hn
   ·have hr : Value.rowBlock (.slice ao xs.length cap) = some g := by rw [Jd h0, hv]; rfl
    exact .inr ⟨g, cap', cur, hv, (hb g hr).1, rest⟩
theorem RowO.opn {α : Type} {enc : α → List Value} {size : Nat} {e : TypeId} {w : World} {B B1 : Nat} {ao : Option Addr} {cap : Nat} {xs : List α} (h : RowO enc size e w B B1 (.slice ao xs.length cap) xs) (hpos : 0 < xs.length) :
  ∃ g, ao = some ⟨g, 0, Option.none⟩ ∧ B ≤ g ∧ g < B1 ∧ g < w.heap.size ∧ Value.rowBlock (.slice ao xs.length cap) = some g ∧ w.ownsRow B e size (.slice (some ⟨g, 0, Option.none⟩) xs.length cap) xs.length (xs.flatMap enc) := by
 obtain ⟨ao', cap', hv, hc, hg⟩ := h;simp only [Value.slice.injEq, true_and] at hv;obtain ⟨rfl, rfl⟩ := hv;rcases hc with ⟨_, hx⟩ | ho
 ·rw [hx] at hpos; exact absurd hpos (Nat.lt_irrefl _)
 ·obtain ⟨ao', cap', hv, hle, _, hb⟩ := XE ho
  simp only [Value.slice.injEq, true_and] at hv;obtain ⟨rfl, rfl⟩ := hv;obtain ⟨g, rfl, h1, h2⟩ := hb hpos;have hr : Value.rowBlock (.slice (some ⟨g, 0, Option.none⟩) xs.length cap) = some g := by rw [Jd (by omega)]; rfl
  exact ⟨g, rfl, h1, hg g hr, h2, hr, ho⟩
theorem RowO.asr {α : Type} {enc : α → List Value} {size : Nat} {e : TypeId} {w : World} {B B1 : Nat} {v : Value} {xs : List α} (h : RowO enc size e w B B1 v xs) : (Zg enc size e v xs).P w (Value.rowBlock v).toList :=
 ⟨rfl, B1, h.mono (Nat.zero_le _) (Nat.le_refl _)⟩
theorem Zbc {α : Type} (o : Option α) : o.toList.Nodup := by cases o <;> simp
theorem RowO.foot {α : Type} {enc : α → List Value} {size : Nat} {e : TypeId} {w : World} {B B1 : Nat} {v : Value} {xs : List α} (h : RowO enc size e w B B1 v xs) : ∀ b, b ∈ (Value.rowBlock v).toList → B ≤ b ∧ b < B1 ∧ b < w.heap.size := fun b hb => h.lt b (by simpa using hb)
theorem St.row {α : Type} {enc : α → List Value} {size : Nat} {e : TypeId} {W w : World} {v : Value} {xs : List α} {s : List Asr} (h : St W s w) (i : Nat) (hi : s[i]? = some (Zg enc size e v xs)) : RowO enc size e w W.heap.size w.heap.size v xs := by
 obtain ⟨f, ⟨e1, B1, hr⟩, _, hb⟩ := h.get i hi;exact hr.bounds fun g hg => hb g (by rw [e1, hg]; simp)
theorem St.rdS {α : Type} {enc : α → List Value} {size : Nat} (he : ∀ x, (enc x).length = size) {e : TypeId} {W w : World} {v : Value} {xs : List α} {s : List Asr} (h : St W s w) (i : Nat) (hi : s[i]? = some (Zg enc size e v xs)) : RdS enc size w v xs := (h.row i hi).rd he
theorem St.ofRow {α : Type} {enc : α → List Value} {size : Nat} {e : TypeId} {w w' : World} {B1 : Nat} {v : Value} {xs : List α} (h : RowO enc size e w' w.heap.size B1 v xs) (hb : Below w.heap.size w w') : St w [Zg enc size e v xs] w' :=
 ⟨hb, _, ⟨_, [], (append_nil _).symm, h.asr, rfl⟩, Zbc _, fun b hm => ⟨(h.foot b hm).1, (h.foot b hm).2.2⟩⟩
theorem St.nilRow {α : Type} {W w : World} {s : List Asr} (h : St W s w) (enc : α → List Value) (size : Nat) (e : TypeId) (ao : Option Addr) : St W (Zg enc size e (.slice ao 0 0) ([] : List α) :: s) w := by
 obtain ⟨f, h1, h2, h3⟩ := h.sep;exact ⟨h.bel, f, ⟨[], f, rfl, ⟨by rw [QU]; rfl, 0, RowO.empty enc size e w 0 0 ao⟩, h1⟩, h2, h3⟩
theorem St.mutRow {α : Type} {enc : α → List Value} {size : Nat} {e : TypeId} {W w w' : World} {v v' : Value} {xs ys : List α} {s : List Asr} (h : St W s w) (i : Nat) (hi : s[i]? = some (Zg enc size e v xs)) {B : Nat}
  (hr : RowO enc size e w' B w'.heap.size v' ys) (hg : w.grownBy w' (Value.rowBlock v)) (hn : ∀ g, Value.rowBlock v' = some g → Value.rowBlock v = some g ∨ w.heap.size ≤ g) : St W (s.set i (Zg enc size e v' ys)) w' :=
 h.mutAt i hi hg.os hg.tape hg.output hg.size fun f ⟨e1, _⟩ _ _ => ⟨_, hr.asr, Zbc _, fun b hb => ⟨by
  rcases hn b (by simpa using hb) with h | h
  ·exact .inl (by rw [e1, h]; simp)
  ·exact .inr h, (hr.foot b hb).2.2⟩, fun k hk hnk => hg.block k hk (fun e2 => hnk (by rw [e1, ← e2]; simp))⟩
end Go.Proofs.YthnbgnjpbmnelaaGreatDoor
