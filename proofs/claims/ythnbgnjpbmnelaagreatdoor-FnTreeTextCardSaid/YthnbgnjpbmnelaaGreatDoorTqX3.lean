/- A part of the proof in YthnbgnjpbmnelaaGreatDoorTqX34. -/
import Derived.ArgAppend
import Derived.BigRegion
import Derived.Lib.LazyBuf
import Derived.Test.YthnbgnjpbmnelaaGreatDoorTqX2
namespace Go.Proofs.YthnbgnjpbmnelaaGreatDoor
open List (flatMap_cons length_cons mem_singleton)
set_option linter.unusedVariables false
set_option linter.unusedSimpArgs false
set_option maxHeartbeats 1000000
set_option maxRecDepth 100000
open Go.RowKit
structure Bx (p : Prop) : Type where
  out : p
theorem Bx.o {p : Prop} (h : Bx p) : p := h.out
theorem Zk3 (b off j : Nat) : (⟨b, off, none⟩ : Addr).add j = ⟨b, off + j, none⟩ := by unfold Addr.add; split <;> simp_all
theorem Rd.news {α : Type} {enc : α → List Value} {size : Nat} (he : ∀ x, (enc x).length = size) (hs : 0 < size) {w : World} {a : Addr} {n : Nat} {xs : List α} (h : Rd enc size w (some a) n xs) :
  ∀ j u, (xs.flatMap enc)[j]? = some u → w.cell? (a.add j) = some u := by
 intro j u hu;have hj := (List.getElem?_eq_some_iff.1 hu).1;rw [Vl enc size he] at hj;have hi : j / size < xs.length := (Nat.div_lt_iff_lt_mul hs).2 hj;obtain ⟨b, off, x, hx, e, _, hr⟩ := h.at_ (j / size) hi;obtain rfl := Option.some.inj e;have hm := Nat.div_add_mod j size;have hlt := Nat.mod_lt j hs;rw [Zk3];have hd : (xs.flatMap enc)[j / size * size + j % size]? = some u := by rw [Nat.mul_comm, hm]; exact hu
 rw [← List.getElem?_drop, Zb1 enc size he, List.drop_eq_getElem_cons hi, flatMap_cons, List.getElem?_append_left (by rw [he]; exact hlt)] at hd;have hxe : xs[j / size] = x := by rw [List.getElem?_eq_getElem hi] at hx; exact Option.some.inj hx
 rw [hxe] at hd;have := hr (j % size) u hd;rw [Nat.add_assoc, Nat.mul_comm (j / size), hm] at this;exact this
theorem Zk4 {α : Type} {enc : α → List Value} {size : Nat} {w : World} {n : Nat} {xs : List α} (h : Rd enc size w none n xs) : xs = [] := by
 cases xs with
 | nil => rfl
 | cons x r =>
  obtain ⟨_, _, _, _, e, _⟩ := h.at_ 0 (by simp)
  cases e
theorem Vp (xs : List Int) : ∀ u ∈ xs.flatMap ZH, u.oneCell' = true := by
 intro u hu;obtain ⟨x, _, hx⟩ := List.mem_flatMap.1 hu;simp only [ZH, mem_singleton] at hx;subst hx; rfl
theorem ZL (xs : List ByteArray) : ∀ u ∈ xs.flatMap Zt, u.oneCell' = true := by
 intro u hu;obtain ⟨x, _, hx⟩ := List.mem_flatMap.1 hu;simp only [Zt, mem_singleton] at hx;subst hx; rfl
theorem YU.set {B B1 : Nat} {w w' : World} (h : YU B B1 w w') {p : Addr} (hp : B ≤ p.block ∧ p.block < B1) (u : Value) : YU B B1 w (w'.setCell p u) :=
 h.trans ⟨rfl, rfl, rfl, by rw [Zk0]; exact Nat.le_refl _, fun k _ ho => Below.heap_setCell w' p u k (by omega)⟩
structure Box (w : World) (b n : Nat) (t : TypeId) (v : Value) : Prop where
  ex : ∃ cs : List Value, v = .agg cs.toArray ∧ cs.length = n ∧ (∀ u ∈ cs, u.oneCell' = true) ∧ w.heap[b]? = some (.cells cs.toArray t (0, 0))
structure Cells (n : Nat) (v : Value) : Prop where
  ex : ∃ cs : List Value, v = .agg cs.toArray ∧ cs.length = n ∧ (∀ u ∈ cs, u.oneCell' = true)
theorem Box.below {w w' : World} {C b n : Nat} {t : TypeId} {v : Value} (h : Box w b n t v) (hb : Below C w w') (hC : w.heap.size ≤ C) : Box w' b n t v := by
 obtain ⟨cs, e, hl, h1, hh⟩ := h;exact ⟨cs, e, hl, h1, ZW hh hb hC⟩
theorem Box.new (w : World) (cs : List Value) (t : TypeId) (h1 : (cs.all fun u => u.oneCell') = true) {b : Nat} (hb : b = w.heap.size) : Box (w.alloc (.cells cs.toArray t)) b cs.length t (.agg cs.toArray) :=
 ⟨cs, rfl, rfl, fun u hu => List.all_eq_true.1 h1 u hu, XA w _ b hb⟩
theorem Box.range {w : World} {b n : Nat} {t : TypeId} {v : Value} (h : Box w b n t v) : ∃ cs : List Value, v = .agg cs.toArray ∧ cs.length = n ∧ w.rangeAt b 0 cs := by
 obtain ⟨cs, e, hl, h1, hh⟩ := h;exact ⟨cs, e, hl, fun j u hu => by rw [Zl hh]; simpa using hu⟩
theorem Box.cell {w : World} {b n : Nat} {t : TypeId} {l : Array Value} (h : Box w b n t (.agg l)) (i : Nat) : w.cell? ⟨b, i, none⟩ = l[i]? := by
 obtain ⟨cs, e, hl, h1, hh⟩ := h;obtain rfl : l = cs.toArray := by simpa using e
 exact Zl hh i
theorem Box.frozen {w : World} {b n : Nat} {t : TypeId} {v : Value} (h : Box w b n t v) (i : Nat) : w.frozen? ⟨b, i, none⟩ = false := by
 obtain ⟨cs, e, hl, h1, hh⟩ := h;exact Zaz hh i
theorem UV {b : Nat} {t : TypeId} : ∀ (vs : List Value) (o : Nat) (w : World) (cs : List Value), w.heap[b]? = some (.cells cs.toArray t (0, 0)) → o + vs.length ≤ cs.length →
  (w.setCells b o vs).heap[b]? = some (.cells (Xx cs o vs).toArray t (0, 0)) ∧ YU b (b + 1) w (w.setCells b o vs) ∧ (w.setCells b o vs).heap.size = w.heap.size
 | [], o, w, cs, h, _ => by
  refine ⟨?_, YU.refl _ _ _, rfl⟩;have : Xx cs o [] = cs := by unfold Xx; simp
  rw [this]; exact h
 | v :: vs, o, w, cs, h, hl => by
  simp only [length_cons] at hl;have h0 : (w.setCell ⟨b, o, none⟩ v).heap[b]? = some (.cells (cs.set o v).toArray t (0, 0)) := by
   have := Zi2 (i := o) h v
   simpa using this
  obtain ⟨h1, h2, h3⟩ := UV vs (o + 1) _ (cs.set o v) h0 (by simp; omega);rw [Zcz cs o v vs hl] at h1;exact ⟨h1, ((YU.refl b (b + 1) w).set ⟨Nat.le_refl _, Nat.lt_succ_self _⟩ v).trans h2, h3.trans (Zk0 _ _ _)⟩
theorem Box.put {w : World} {b n : Nat} {t : TypeId} {u v : Value} (h : Box w b n t u) (hv : Cells n v) : ∃ cells : Array Value, v = .agg cells ∧ cells.size = n ∧ cells.all (·.oneCell') = true ∧ w.there b 0 n ∧
  Box (w.setCells b 0 cells.toList) b n t v ∧ YU b (b + 1) w (w.setCells b 0 cells.toList) ∧ (w.setCells b 0 cells.toList).heap.size = w.heap.size := by
 obtain ⟨cs, rfl, hl, h1, hh⟩ := h;obtain ⟨ds, rfl, hd, g1⟩ := hv;obtain ⟨k1, k2, k3⟩ := UV ds 0 w cs hh (by omega);have hs : Xx cs 0 ds = ds := by
  unfold Xx;rw [List.drop_of_length_le (by omega)]
  simp
 rw [hs] at k1;refine ⟨ds.toArray, rfl, by simpa using hd, all_oneCell_toArray g1, fun j hj => ⟨by rw [Zl hh]; simp; omega, Zaz hh _⟩, ⟨ds, rfl, hd, g1, k1⟩, k2, k3⟩
theorem Box.putField {w : World} {b n : Nat} {t : TypeId} {l : Array Value} (h : Box w b n t (.agg l)) (i : Nat) {u : Value} (hu : u.oneCell' = true) : Box (w.setCell ⟨b, i, none⟩ u) b n t (.agg (l.setIfInBounds i u)) := by
 obtain ⟨cs, e, hl, h1, hh⟩ := h;obtain rfl : l = cs.toArray := by simpa using e
 refine ⟨cs.set i u, by simp, by simp [hl], fun x hx => ?_, by have := Zi2 (i := i) hh u; simpa using this⟩;rcases List.mem_or_eq_of_mem_set hx with h | h
 ·exact h1 x h
 ·rw [h]; exact hu
section
variable {P : Program}
theorem Zc0 {w : World} {b n : Nat} {t : TypeId} {v : Value} (hb : Box w b n t v) (ty : TypeId) (d : TypeDesc) (hu : P.underlying ty = some d) (hd : d.isRow = true) (hi : (P.info? ty).map (·.size) = some n) : (loadVar ty ⟨b, 0, none⟩).run P w = .ok v w := by
 obtain ⟨cs, rfl, rfl, hr⟩ := hb.range;exact run_loadVar_mid w b 0 ty cs d hr hu hd hi
end
end Go.Proofs.YthnbgnjpbmnelaaGreatDoor
