/- A part of the proof in YthnbgnjpbmnelaaGreatDoorTqX34. -/
import Derived.Deep.MidRow
import Derived.Lib.Hide
import Derived.WalkKit
import Derived.WalkLawsBesides
import Derived.WalkSpells
namespace Go.Proofs.YthnbgnjpbmnelaaGreatDoor
open List (flatMap_cons length_cons length_take)
set_option linter.unusedVariables false
set_option linter.unusedSimpArgs false
set_option maxHeartbeats 1000000
set_option maxRecDepth 100000
open Go.RowKit
theorem ZO {a b : Bool} (h : a = b) : Ending.returned (.bool a) = .returned (.bool b) := by rw [h]
theorem Zog {W w1 : World} (hb : Below W.heap.size W w1) : (∀ b o, b < W.heap.size → w1.cell? ⟨b, o, none⟩ = W.cell? ⟨b, o, none⟩) ∧ (∀ b o, b < W.heap.size → w1.frozen? ⟨b, o, none⟩ = W.frozen? ⟨b, o, none⟩) :=
 ⟨fun b o h => hb.cell (p := ⟨b, o, none⟩) h, fun b o h => hb.frozen (p := ⟨b, o, none⟩) h⟩
section
variable {α : Type}
theorem Vl (enc : α → List Value) (size : Nat) (he : ∀ x, (enc x).length = size) (xs : List α) : (xs.flatMap enc).length = xs.length * size := by
 induction xs with
 | nil => simp
 | cons x r ih => simp [flatMap_cons, he, ih, Nat.add_mul, Nat.add_comm]
theorem Zb1 (enc : α → List Value) (size : Nat) (he : ∀ x, (enc x).length = size) (xs : List α) (i : Nat) : (xs.flatMap enc).drop (i * size) = (xs.drop i).flatMap enc := by
 induction xs generalizing i with
 | nil => simp
 | cons x r ih =>
  cases i with
  | zero => simp
  | succ i =>
   rw [flatMap_cons, List.drop_append, he, show (i + 1) * size - size = i * size by rw [Nat.add_mul]; omega, ih];rw [List.drop_of_length_le (by rw [he, Nat.add_mul]; omega)]
   simp
theorem ZjI (enc : α → List Value) (size : Nat) (he : ∀ x, (enc x).length = size) (xs : List α) (i : Nat) : (xs.flatMap enc).take (i * size) = (xs.take i).flatMap enc := by
 induction xs generalizing i with
 | nil => simp
 | cons x r ih =>
  cases i with
  | zero => simp
  | succ i =>
   rw [flatMap_cons, List.take_append, he, show (i + 1) * size - size = i * size by rw [Nat.add_mul]; omega, ih];rw [List.take_of_length_le (by rw [he, Nat.add_mul]; omega)]
   simp
theorem ZkY (enc : α → List Value) (size : Nat) (he : ∀ x, (enc x).length = size) (xs : List α) (i : Nat) (h : i < xs.length) (j : Nat) (v : Value) (hv : (enc xs[i])[j]? = some v) : (xs.flatMap enc)[i * size + j]? = some v := by
 rw [← List.getElem?_drop, Zb1 enc size he, List.drop_eq_getElem_cons h, flatMap_cons, List.getElem?_append_left (List.getElem?_eq_some_iff.1 hv).1, hv]
end
structure Rd {α : Type} (enc : α → List Value) (size : Nat) (w : World) (ao : Option Addr) (len : Nat) (xs : List α) : Prop where
  len : xs.length = len
  at_ : ∀ i (_ : i < xs.length), ∃ b off x, xs[i]? = some x ∧ ao = some ⟨b, off, none⟩ ∧ b < w.heap.size ∧ w.rangeAt b (off + i * size) (enc x)
theorem Ye {B : Nat} {w w' : World} {b o : Nat} {cs : List Value} (h : w.rangeAt b o cs) (hb : Below B w w') (hB : b < B) : w'.rangeAt b o cs :=
 fun j v hv => (hb.cell (p := ⟨b, o + j, none⟩) hB).trans (h j v hv)
theorem Rd.below {α : Type} {enc : α → List Value} {size : Nat} {w w' : World} {ao : Option Addr} {len : Nat} {xs : List α} (h : Rd enc size w ao len xs) (hb : Below w.heap.size w w') : Rd enc size w' ao len xs :=
 ⟨h.len, fun i hi => by
  obtain ⟨b, off, x, hx, e, hlt, hr⟩ := h.at_ i hi;exact ⟨b, off, x, hx, e, Nat.lt_of_lt_of_le hlt hb.size, Ye hr hb hlt⟩⟩
theorem XE {w : World} {B : Nat} {e : TypeId} {size : Nat} {v : Value} {n : Nat} {xs : List Value} (h : w.ownsRow B e size v n xs) : ∃ ao cap, v = .slice ao n cap ∧ n ≤ cap ∧ cap ≤ maxLen ∧ (0 < n → ∃ g, ao = some ⟨g, 0, none⟩ ∧ B ≤ g ∧ g < w.heap.size) := by
 rcases h.2 with ⟨rfl, rfl⟩ | ⟨g, cap, cur, rfl, hB, hg, hn, hc, _⟩
 ·exact ⟨none, 0, rfl, Nat.le_refl _, Nat.zero_le _, fun h => absurd h (Nat.lt_irrefl _)⟩
 ·exact ⟨_, cap, rfl, hn, hc, fun _ => ⟨g, rfl, hB, (Array.getElem?_eq_some_iff.1 hg).1⟩⟩
theorem Zm0 {α : Type} {enc : α → List Value} {size : Nat} (he : ∀ x, (enc x).length = size) {w : World} {B : Nat} {e : TypeId} {ao : Option Addr} {n cap : Nat} {xs : List α} (h : w.ownsRow B e size (.slice ao n cap) xs.length (xs.flatMap enc)) :
  n = xs.length ∧ Rd enc size w ao n xs := by
 rcases h.2 with ⟨hv, hn⟩ | ⟨g, cap', cur, hv, hB, hg, hn, hc, hs, ht⟩
 ·simp only [Value.slice.injEq] at hv
  obtain ⟨rfl, rfl, rfl⟩ := hv;exact ⟨hn.symm, hn, fun i hi => by omega⟩
 ·simp only [Value.slice.injEq] at hv
  obtain ⟨rfl, rfl, rfl⟩ := hv;refine ⟨rfl, rfl, fun i hi => ⟨g, 0, xs[i], List.getElem?_eq_getElem hi, rfl, (Array.getElem?_eq_some_iff.1 hg).1, fun j u hu => ?_⟩⟩;have := ZkY enc size he xs i hi j u hu;rw [← ht, List.getElem?_take] at this;rw [Nat.zero_add, cell_of_row w g _ cur e (0, 0) hg]
  split at this
  ·simpa using this
  ·cases this
theorem UT {w w' : World} {B C : Nat} {e : TypeId} {size : Nat} {v : Value} {n : Nat} {xs : List Value} (h : w.ownsRow B e size v n xs) (hb : Below C w w') (hC : w.heap.size ≤ C) : w'.ownsRow B e size v n xs := by
 refine ⟨h.1, ?_⟩;rcases h.2 with hn | ⟨g, cap, cur, rfl, hB, hg, rest⟩
 ·exact .inl hn
 ·have := (Array.getElem?_eq_some_iff.1 hg).1
  exact .inr ⟨g, cap, cur, rfl, hB, (hb.block g (by omega)).trans hg, rest⟩
theorem ZjJ {w : World} {B B' : Nat} {e : TypeId} {size : Nat} {v : Value} {n : Nat} {xs : List Value} (h : w.ownsRow B e size v n xs) (hB : B' ≤ B) : w.ownsRow B' e size v n xs := by
 refine ⟨h.1, ?_⟩;rcases h.2 with hn | ⟨g, cap, cur, rfl, hBg, rest⟩
 ·exact .inl hn
 ·exact .inr ⟨g, cap, cur, rfl, Nat.le_trans hB hBg, rest⟩
def Xx (xs : List Value) (o : Nat) (vs : List Value) : List Value := xs.take o ++ vs ++ xs.drop (o + vs.length)
theorem Zcz (xs : List Value) (o : Nat) (v : Value) (vs : List Value) (h : o + (vs.length + 1) ≤ xs.length) : Xx (xs.set o v) (o + 1) vs = Xx xs o (v :: vs) := by
 unfold Xx;have e1 : (xs.set o v).take (o + 1) = xs.take o ++ [v] := by
  rw [List.take_succ_eq_append_getElem (by simp; omega)];simp [List.take_set];exact List.set_eq_of_length_le (by rw [length_take]; omega)
 have e2 : (xs.set o v).drop (o + 1 + vs.length) = xs.drop (o + (vs.length + 1)) := by
  rw [List.drop_set_of_lt (by omega)]
  congr 1; omega
 rw [e1, e2]
 simp
theorem Zam {B : Nat} {e : TypeId} {size : Nat} {g n cap : Nat} : ∀ (vs : List Value) (o : Nat) (w : World) (xs : List Value), w.ownsRow B e size (.slice (some ⟨g, 0, none⟩) n cap) n xs → o + vs.length ≤ xs.length →
  (w.setCells g o vs).ownsRow B e size (.slice (some ⟨g, 0, none⟩) n cap) n (Xx xs o vs) ∧ w.grownBy (w.setCells g o vs) (some g)
 | [], o, w, xs, h, _ => by
  refine ⟨?_, ⟨rfl, rfl, rfl, Nat.le_refl _, fun _ _ _ => rfl⟩⟩;have : Xx xs o [] = xs := by unfold Xx; simp
  rw [this]; exact h
 | v :: vs, o, w, xs, h, hl => by
  simp only [length_cons] at hl;obtain ⟨h1, h2⟩ := h.stored o v;obtain ⟨h3, h4⟩ := Zam vs (o + 1) _ (xs.set o v) h1 (by simp; omega);rw [Zcz xs o v vs hl] at h3;exact ⟨h3, ⟨h4.os.trans h2.os, h4.tape.trans h2.tape, h4.output.trans h2.output, Nat.le_trans h2.size h4.size, fun k hk hne => (h4.block k (Nat.lt_of_lt_of_le hk h2.size) hne).trans (h2.block k hk hne)⟩⟩
theorem Zh1 {w : World} {B : Nat} {e : TypeId} {size : Nat} {g n cap : Nat} {xs : List Value} (h : w.ownsRow B e size (.slice (some ⟨g, 0, none⟩) n cap) n xs) (o m : Nat) (hm : o + m ≤ xs.length) : w.there g o m := fun j hj =>
 ⟨by rw [h.cellAt (o + j) (by rw [← h.1]; omega), List.getElem?_eq_getElem (by omega)]; rfl, h.frozenAt _⟩
def tot {α : Type} (f : α → Nat) : List α → Nat
 | [] => 0
 | x :: r => f x + tot f r
def ZH (n : Int) : List Value := [.int .i64 n]
theorem Zp (n : Int) : (ZH n).length = 1 := rfl
def Zt (s : ByteArray) : List Value := [.string s]
theorem Zi (s : ByteArray) : (Zt s).length = 1 := rfl
theorem ZK (B : Nat) (w : World) (n : Nat) : Below B w (w.drewN n) := ⟨rfl, rfl, rfl, Nat.le_refl _, fun _ _ => rfl⟩
theorem Zl {w : World} {b : Nat} {cs : Array Value} {t : TypeId} {fr : Nat × Nat} (h : w.heap[b]? = some (.cells cs t fr)) (i : Nat) : w.cell? ⟨b, i, none⟩ = cs[i]? := by simp [World.cell?, h]
theorem Zaz {w : World} {b : Nat} {cs : Array Value} {t : TypeId} (h : w.heap[b]? = some (.cells cs t (0, 0))) (i : Nat) : w.frozen? ⟨b, i, none⟩ = false := by simp [World.frozen?, h]
theorem XA (w : World) (o : Obj) (n : Nat) (hn : n = w.heap.size) : (w.alloc o).heap[n]? = some o := by subst hn; exact heap_alloc_new w o
theorem ZeJ {w : World} {b : Nat} {x : Obj} (h : w.heap[b]? = some x) (o : Obj) : (w.alloc o).heap[b]? = some x := by
 rw [Below.heap_alloc w o b (Array.getElem?_eq_some_iff.1 h).1]; exact h
theorem Zi2 {w : World} {b i : Nat} {cs : Array Value} {t : TypeId} (h : w.heap[b]? = some (.cells cs t (0, 0))) (v : Value) : (w.setCell ⟨b, i, none⟩ v).heap[b]? = some (.cells (cs.setIfInBounds i v) t (0, 0)) := by
 rw [setCell_eq_setRow w b i cs t (0, 0) v h];exact setRow_heap w b _ _ t _ h
theorem QT {w : World} {b : Nat} {x : Obj} (h : w.heap[b]? = some x) {p : Addr} (hp : b ≠ p.block) (v : Value) : (w.setCell p v).heap[b]? = some x := (Below.heap_setCell w p v b hp).trans h
theorem Vm {w : World} {b : Nat} {x : Obj} (h : w.heap[b]? = some x) : b < w.heap.size := (Array.getElem?_eq_some_iff.1 h).1
theorem ZW {w w' : World} {C b : Nat} {x : Obj} (h : w.heap[b]? = some x) (hb : Below C w w') (hC : w.heap.size ≤ C) : w'.heap[b]? = some x := (hb.block b (Nat.lt_of_lt_of_le (Vm h) hC)).trans h
theorem ZjK {w w' : World} {b : Nat} {x : Obj} {row : Option Nat} (h : w.heap[b]? = some x) (hg : w.grownBy w' row) (hr : some b ≠ row) : w'.heap[b]? = some x := (hg.block b (Vm h) hr).trans h
def RdS {α : Type} (enc : α → List Value) (size : Nat) (w : World) (v : Value) (xs : List α) : Prop := ∃ ao cap, v = .slice ao xs.length cap ∧ Rd enc size w ao xs.length xs
def Value.rowBlock : Value → Option Nat
 | .slice (some a) _ cap => if cap = 0 then none else some a.block
 | _ => none
theorem XO {v : Value} {g : Nat} (h : Value.rowBlock v = some g) : v.ownBlock = some g := by
 unfold Value.rowBlock at h
 split at h
 ·split at h
  ·cases h
  ·exact h
 ·cases h
theorem Jd {ao : Option Addr} {n cap : Nat} (h : cap ≠ 0) : Value.rowBlock (.slice ao n cap) = (Value.slice ao n cap).ownBlock := by
 cases ao with
 | none => rfl
 | some a => simp [Value.rowBlock, Value.ownBlock, h]
theorem QU (ao : Option Addr) (n : Nat) : Value.rowBlock (.slice ao n 0) = none := by
 cases ao <;> simp [Value.rowBlock]
def RowO {α : Type} (enc : α → List Value) (size : Nat) (e : TypeId) (w : World) (B B1 : Nat) (v : Value) (xs : List α) : Prop :=
 ∃ ao cap, v = .slice ao xs.length cap ∧ ((cap = 0 ∧ xs = []) ∨ w.ownsRow B e size v xs.length (xs.flatMap enc)) ∧ ∀ g, Value.rowBlock v = some g → g < B1
theorem RowO.mk {α : Type} {enc : α → List Value} {size : Nat} {e : TypeId} {w : World} {B B1 : Nat} {v : Value} {xs : List α} (ho : w.ownsRow B e size v xs.length (xs.flatMap enc)) (hg : ∀ g, v.ownBlock = some g → g < B1) : RowO enc size e w B B1 v xs := by
 obtain ⟨ao, cap, rfl, _⟩ := XE ho;exact ⟨ao, cap, rfl, .inr ho, fun g h => hg g (XO h)⟩
theorem RowO.empty {α : Type} (enc : α → List Value) (size : Nat) (e : TypeId) (w : World) (B B1 : Nat) (ao : Option Addr) : RowO enc size e w B B1 (.slice ao 0 0) ([] : List α) :=
 ⟨ao, 0, rfl, .inl ⟨rfl, rfl⟩, fun g h => by rw [QU] at h; cases h⟩
theorem RowO.rd {α : Type} {enc : α → List Value} {size : Nat} (he : ∀ x, (enc x).length = size) {e : TypeId} {w : World} {B B1 : Nat} {v : Value} {xs : List α} (h : RowO enc size e w B B1 v xs) : RdS enc size w v xs := by
 obtain ⟨ao, cap, rfl, ho | ho, _⟩ := h
 ·obtain ⟨rfl, rfl⟩ := ho
  exact ⟨ao, 0, rfl, ⟨rfl, fun i hi => absurd hi (Nat.not_lt_zero _)⟩⟩
 ·exact ⟨ao, cap, rfl, (Zm0 he ho).2⟩
theorem RowO.by {α : Type} {enc : α → List Value} {size : Nat} {e : TypeId} {w w' : World} {B B1 : Nat} {v : Value} {xs : List α} (h : RowO enc size e w B B1 v xs)
  (hk : (Value.rowBlock v = v.ownBlock) → w.ownsRow B e size v xs.length (xs.flatMap enc) → w'.ownsRow B e size v xs.length (xs.flatMap enc)) : RowO enc size e w' B B1 v xs := by
 obtain ⟨ao, cap, rfl, ho | ho, hg⟩ := h
 ·exact ⟨ao, cap, rfl, .inl ho, hg⟩
 ·by_cases h0 : cap = 0
  ·obtain ⟨ao', cap', hv, hle, _⟩ := XE ho
   simp only [Value.slice.injEq, true_and] at hv;obtain ⟨rfl, rfl⟩ := hv;refine ⟨ao, cap, rfl, .inl ⟨h0, List.length_eq_zero_iff.1 (by omega)⟩, hg⟩
  ·exact ⟨ao, cap, rfl, .inr (hk (Jd h0) ho), hg⟩
theorem RowO.mono {α : Type} {enc : α → List Value} {size : Nat} {e : TypeId} {w : World} {B B1 B' B1' : Nat} {v : Value} {xs : List α} (h : RowO enc size e w B B1 v xs) (hB : B' ≤ B) (hB1 : B1 ≤ B1') : RowO enc size e w B' B1' v xs := by
 obtain ⟨ao, cap, rfl, ho, hg⟩ := h;exact ⟨ao, cap, rfl, ho.imp id fun ho => ZjJ ho hB, fun g h => Nat.lt_of_lt_of_le (hg g h) hB1⟩
theorem RowO.lt {α : Type} {enc : α → List Value} {size : Nat} {e : TypeId} {w : World} {B B1 : Nat} {v : Value} {xs : List α} (h : RowO enc size e w B B1 v xs) : ∀ g, Value.rowBlock v = some g → B ≤ g ∧ g < B1 ∧ g < w.heap.size := by
 obtain ⟨ao, cap, rfl, ho | ho, hb⟩ := h
 ·obtain ⟨rfl, _⟩ := ho
  intro g hg;rw [QU] at hg; cases hg
 ·exact fun g hg => ⟨(ho.lt g (XO hg)).1, hb g hg, (ho.lt g (XO hg)).2⟩
structure YU (B B1 : Nat) (w w' : World) : Prop where
  os : w'.os = w.os
  tape : w'.tape = w.tape
  output : w'.output = w.output
  size : w.heap.size ≤ w'.heap.size
  block : ∀ k, k < w.heap.size → (k < B ∨ B1 ≤ k) → w'.heap[k]? = w.heap[k]?
theorem YU.refl (B B1 : Nat) (w : World) : YU B B1 w w := ⟨rfl, rfl, rfl, Nat.le_refl _, fun _ _ _ => rfl⟩
theorem YU.trans {B B1 : Nat} {a b c : World} (h : YU B B1 a b) (k : YU B B1 b c) : YU B B1 a c :=
 ⟨k.os.trans h.os, k.tape.trans h.tape, k.output.trans h.output, Nat.le_trans h.size k.size, fun i hi ho => (k.block i (Nat.lt_of_lt_of_le hi h.size) ho).trans (h.block i hi ho)⟩
theorem ZkZ (w : World) (o : Obj) : (w.alloc o).heap.size = w.heap.size + 1 := by simp
theorem Zk0 (w : World) (a : Addr) (u : Value) : (w.setCell a u).heap.size = w.heap.size := by simp [World.setCell]
end Go.Proofs.YthnbgnjpbmnelaaGreatDoor
