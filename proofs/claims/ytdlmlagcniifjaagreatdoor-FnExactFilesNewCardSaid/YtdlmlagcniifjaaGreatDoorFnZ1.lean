/- A part of the proof in YtdlmlagcniifjaaGreatDoorFnZ32. -/
import Derived.Deep.MidRow
import Derived.Lib.Hide
import Derived.WalkKit
import Derived.WalkLawsBesides
import Derived.WalkSpells
namespace Go.Proofs.YtdlmlagcniifjaaGreatDoor
set_option linter.unusedVariables false
set_option linter.unusedSimpArgs false
set_option maxHeartbeats 1000000
set_option maxRecDepth 100000
open Go.RowKit
theorem ret_int {k : IntKind} {a b : Int} (h : a = b) : Ending.returned (.int k a) = .returned (.int k b) := by rw [h]
theorem ret_bool {a b : Bool} (h : a = b) : Ending.returned (.bool a) = .returned (.bool b) := by rw [h]
theorem bcell {W w1 : World} (hb : Below W.heap.size W w1) : (∀ b o, b < W.heap.size → w1.cell? ⟨b, o, none⟩ = W.cell? ⟨b, o, none⟩) ∧ (∀ b o, b < W.heap.size → w1.frozen? ⟨b, o, none⟩ = W.frozen? ⟨b, o, none⟩) :=
  ⟨fun b o h => hb.cell (p := ⟨b, o, none⟩) h, fun b o h => hb.frozen (p := ⟨b, o, none⟩) h⟩
section
variable {α : Type}
theorem flat_len (enc : α → List Value) (size : Nat) (he : ∀ x, (enc x).length = size) (xs : List α) : (xs.flatMap enc).length = xs.length * size := by
  induction xs with
  | nil => simp
  | cons x r ih => simp [List.flatMap_cons, he, ih, Nat.add_mul, Nat.add_comm]
theorem flat_drop (enc : α → List Value) (size : Nat) (he : ∀ x, (enc x).length = size) (xs : List α) (i : Nat) : (xs.flatMap enc).drop (i * size) = (xs.drop i).flatMap enc := by
  induction xs generalizing i with
  | nil => simp
  | cons x r ih =>
    cases i with
    | zero => simp
    | succ i =>
      rw [List.flatMap_cons, List.drop_append, he, show (i + 1) * size - size = i * size by rw [Nat.add_mul]; omega, ih]
      rw [List.drop_of_length_le (by rw [he, Nat.add_mul]; omega)]
      simp
theorem flat_take (enc : α → List Value) (size : Nat) (he : ∀ x, (enc x).length = size) (xs : List α) (i : Nat) : (xs.flatMap enc).take (i * size) = (xs.take i).flatMap enc := by
  induction xs generalizing i with
  | nil => simp
  | cons x r ih =>
    cases i with
    | zero => simp
    | succ i =>
      rw [List.flatMap_cons, List.take_append, he, show (i + 1) * size - size = i * size by rw [Nat.add_mul]; omega, ih]
      rw [List.take_of_length_le (by rw [he, Nat.add_mul]; omega)]
      simp
theorem flat_get (enc : α → List Value) (size : Nat) (he : ∀ x, (enc x).length = size) (xs : List α) (i : Nat) (h : i < xs.length) (j : Nat) (v : Value) (hv : (enc xs[i])[j]? = some v) : (xs.flatMap enc)[i * size + j]? = some v := by
  rw [← List.getElem?_drop, flat_drop enc size he, List.drop_eq_getElem_cons h, List.flatMap_cons, List.getElem?_append_left (List.getElem?_eq_some_iff.1 hv).1, hv]
theorem flat_snoc (enc : α → List Value) (xs : List α) (k : Nat) (h : k < xs.length) : (xs.take (k + 1)).flatMap enc = (xs.take k).flatMap enc ++ enc xs[k] := by
  rw [List.take_succ_eq_append_getElem h, List.flatMap_append]; simp
end
structure Rd {α : Type} (enc : α → List Value) (size : Nat) (w : World) (ao : Option Addr) (len : Nat) (xs : List α) : Prop where
  len : xs.length = len
  at_ : ∀ i (_ : i < xs.length), ∃ b off x, xs[i]? = some x ∧ ao = some ⟨b, off, none⟩ ∧ b < w.heap.size ∧ w.rangeAt b (off + i * size) (enc x)
theorem rangeAt_below {B : Nat} {w w' : World} {b o : Nat} {cs : List Value} (h : w.rangeAt b o cs) (hb : Below B w w') (hB : b < B) : w'.rangeAt b o cs :=
  fun j v hv => (hb.cell (p := ⟨b, o + j, none⟩) hB).trans (h j v hv)
theorem Rd.below {α : Type} {enc : α → List Value} {size : Nat} {w w' : World} {ao : Option Addr} {len : Nat} {xs : List α} (h : Rd enc size w ao len xs) (hb : Below w.heap.size w w') : Rd enc size w' ao len xs :=
  ⟨h.len, fun i hi => by
    obtain ⟨b, off, x, hx, e, hlt, hr⟩ := h.at_ i hi
    exact ⟨b, off, x, hx, e, Nat.lt_of_lt_of_le hlt hb.size, rangeAt_below hr hb hlt⟩⟩
theorem owns_slice {w : World} {B : Nat} {e : TypeId} {size : Nat} {v : Value} {n : Nat} {xs : List Value} (h : w.ownsRow B e size v n xs) : ∃ ao cap, v = .slice ao n cap ∧ n ≤ cap ∧ cap ≤ maxLen ∧ (0 < n → ∃ g, ao = some ⟨g, 0, none⟩ ∧ B ≤ g ∧ g < w.heap.size) := by
  rcases h.2 with ⟨rfl, rfl⟩ | ⟨g, cap, cur, rfl, hB, hg, hn, hc, _⟩
  · exact ⟨none, 0, rfl, Nat.le_refl _, Nat.zero_le _, fun h => absurd h (Nat.lt_irrefl _)⟩
  · exact ⟨_, cap, rfl, hn, hc, fun _ => ⟨g, rfl, hB, (Array.getElem?_eq_some_iff.1 hg).1⟩⟩
theorem owns_rd {α : Type} {enc : α → List Value} {size : Nat} (he : ∀ x, (enc x).length = size) {w : World} {B : Nat} {e : TypeId} {ao : Option Addr} {n cap : Nat} {xs : List α} (h : w.ownsRow B e size (.slice ao n cap) xs.length (xs.flatMap enc)) :
    n = xs.length ∧ Rd enc size w ao n xs := by
  rcases h.2 with ⟨hv, hn⟩ | ⟨g, cap', cur, hv, hB, hg, hn, hc, hs, ht⟩
  · simp only [Value.slice.injEq] at hv
    obtain ⟨rfl, rfl, rfl⟩ := hv
    exact ⟨hn.symm, hn, fun i hi => by omega⟩
  · simp only [Value.slice.injEq] at hv
    obtain ⟨rfl, rfl, rfl⟩ := hv
    refine ⟨rfl, rfl, fun i hi => ⟨g, 0, xs[i], List.getElem?_eq_getElem hi, rfl, (Array.getElem?_eq_some_iff.1 hg).1, fun j u hu => ?_⟩⟩
    have := flat_get enc size he xs i hi j u hu
    rw [← ht, List.getElem?_take] at this
    rw [Nat.zero_add, cell_of_row w g _ cur e (0, 0) hg]
    split at this
    · simpa using this
    · cases this
theorem owns_below {w w' : World} {B C : Nat} {e : TypeId} {size : Nat} {v : Value} {n : Nat} {xs : List Value} (h : w.ownsRow B e size v n xs) (hb : Below C w w') (hC : w.heap.size ≤ C) : w'.ownsRow B e size v n xs := by
  refine ⟨h.1, ?_⟩
  rcases h.2 with hn | ⟨g, cap, cur, rfl, hB, hg, rest⟩
  · exact .inl hn
  · have := (Array.getElem?_eq_some_iff.1 hg).1
    exact .inr ⟨g, cap, cur, rfl, hB, (hb.block g (by omega)).trans hg, rest⟩
theorem owns_setCell {w : World} {B : Nat} {e : TypeId} {size : Nat} {v : Value} {n : Nat} {xs : List Value} (h : w.ownsRow B e size v n xs) {p : Addr} (hp : p.block < B) (u : Value) : (w.setCell p u).ownsRow B e size v n xs := ownsRow_setCell_below h hp u
theorem owns_mono {w : World} {B B' : Nat} {e : TypeId} {size : Nat} {v : Value} {n : Nat} {xs : List Value} (h : w.ownsRow B e size v n xs) (hB : B' ≤ B) : w.ownsRow B' e size v n xs := by
  refine ⟨h.1, ?_⟩
  rcases h.2 with hn | ⟨g, cap, cur, rfl, hBg, rest⟩
  · exact .inl hn
  · exact .inr ⟨g, cap, cur, rfl, Nat.le_trans hB hBg, rest⟩
def splice (xs : List Value) (o : Nat) (vs : List Value) : List Value := xs.take o ++ vs ++ xs.drop (o + vs.length)
theorem splice_cons (xs : List Value) (o : Nat) (v : Value) (vs : List Value) (h : o + (vs.length + 1) ≤ xs.length) : splice (xs.set o v) (o + 1) vs = splice xs o (v :: vs) := by
  unfold splice
  have e1 : (xs.set o v).take (o + 1) = xs.take o ++ [v] := by
    rw [List.take_succ_eq_append_getElem (by simp; omega)]
    simp [List.take_set]
    exact List.set_eq_of_length_le (by rw [List.length_take]; omega)
  have e2 : (xs.set o v).drop (o + 1 + vs.length) = xs.drop (o + (vs.length + 1)) := by
    rw [List.drop_set_of_lt (by omega)]
    congr 1; omega
  rw [e1, e2]
  simp
theorem owns_setCells {B : Nat} {e : TypeId} {size : Nat} {g n cap : Nat} : ∀ (vs : List Value) (o : Nat) (w : World) (xs : List Value), w.ownsRow B e size (.slice (some ⟨g, 0, none⟩) n cap) n xs → o + vs.length ≤ xs.length →
    (w.setCells g o vs).ownsRow B e size (.slice (some ⟨g, 0, none⟩) n cap) n (splice xs o vs) ∧ w.grownBy (w.setCells g o vs) (some g)
  | [], o, w, xs, h, _ => by
    refine ⟨?_, ⟨rfl, rfl, rfl, Nat.le_refl _, fun _ _ _ => rfl⟩⟩
    have : splice xs o [] = xs := by unfold splice; simp
    rw [this]; exact h
  | v :: vs, o, w, xs, h, hl => by
    simp only [List.length_cons] at hl
    obtain ⟨h1, h2⟩ := h.stored o v
    obtain ⟨h3, h4⟩ := owns_setCells vs (o + 1) _ (xs.set o v) h1 (by simp; omega)
    rw [splice_cons xs o v vs hl] at h3
    exact ⟨h3, ⟨h4.os.trans h2.os, h4.tape.trans h2.tape, h4.output.trans h2.output, Nat.le_trans h2.size h4.size, fun k hk hne => (h4.block k (Nat.lt_of_lt_of_le hk h2.size) hne).trans (h2.block k hk hne)⟩⟩
theorem owns_there {w : World} {B : Nat} {e : TypeId} {size : Nat} {g n cap : Nat} {xs : List Value} (h : w.ownsRow B e size (.slice (some ⟨g, 0, none⟩) n cap) n xs) (o m : Nat) (hm : o + m ≤ xs.length) : w.there g o m := fun j hj =>
  ⟨by rw [h.cellAt (o + j) (by rw [← h.1]; omega), List.getElem?_eq_getElem (by omega)]; rfl, h.frozenAt _⟩
def Fill {α : Type} (enc : α → List Value) (size : Nat) (B : Nat) (e : TypeId) (w : World) (g n : Nat) (xs : List α) (k : Nat) : Prop :=
  ∃ rest : List Value, rest.length = (n - k) * size ∧ w.ownsRow B e size (.slice (some ⟨g, 0, none⟩) n n) n ((xs.take k).flatMap enc ++ rest)
theorem Fill.start {α : Type} {enc : α → List Value} {size B : Nat} {e : TypeId} {w : World} {g n : Nat} {xs : List α} {cs : List Value} (h : w.ownsRow B e size (.slice (some ⟨g, 0, none⟩) n n) n cs) : Fill enc size B e w g n xs 0 :=
  ⟨cs, by rw [h.1]; simp, by simpa using h⟩
theorem Fill.there {α : Type} {enc : α → List Value} {size B : Nat} {e : TypeId} {w : World} {g n k : Nat} {xs : List α} (he : ∀ x, (enc x).length = size) (h : Fill enc size B e w g n xs k) (hn : xs.length = n) (hk : k < n) : w.there g (k * size) size := by
  obtain ⟨rest, hr, ho⟩ := h
  refine owns_there ho _ _ ?_
  have : (n - k) * size = size + (n - k - 1) * size := by rw [show n - k = (n - k - 1) + 1 by omega, Nat.add_mul]; simp; omega
  rw [List.length_append, flat_len enc size he, List.length_take, Nat.min_eq_left (by omega), hr]; omega
theorem Fill.step {α : Type} {enc : α → List Value} {size B : Nat} {e : TypeId} {w : World} {g n k : Nat} {xs : List α} (he : ∀ x, (enc x).length = size) (h : Fill enc size B e w g n xs k) (hn : xs.length = n) {x : α} (hx : xs[k]? = some x) :
    Fill enc size B e (w.setCells g (k * size) (enc x)) g n xs (k + 1) ∧ w.grownBy (w.setCells g (k * size) (enc x)) (some g) := by
  obtain ⟨hk, rfl⟩ := List.getElem?_eq_some_iff.1 hx
  obtain ⟨rest, hr, ho⟩ := h
  have hl : ((xs.take k).flatMap enc).length = k * size := by rw [flat_len enc size he, List.length_take, Nat.min_eq_left (by omega)]
  have hd : (n - k) * size = size + (n - k - 1) * size := by rw [show n - k = (n - k - 1) + 1 by omega, Nat.add_mul]; simp; omega
  obtain ⟨h1, h2⟩ := owns_setCells (enc xs[k]) (k * size) w _ ho (by rw [he, List.length_append, hl, hr]; omega)
  refine ⟨⟨rest.drop size, by rw [List.length_drop, hr]; rw [show n - (k + 1) = n - k - 1 by omega]; omega, ?_⟩, h2⟩
  have : splice ((xs.take k).flatMap enc ++ rest) (k * size) (enc xs[k]) = (xs.take (k + 1)).flatMap enc ++ rest.drop size := by
    unfold splice
    rw [flat_snoc enc xs k hk, List.take_append, hl, List.take_of_length_le (by omega), Nat.sub_self, List.take_zero, List.append_nil, he, List.drop_append, hl]
    rw [List.drop_of_length_le (by omega), show k * size + size - k * size = size by omega]
    simp
  rw [this] at h1
  exact h1
theorem Fill.done {α : Type} {enc : α → List Value} {size B : Nat} {e : TypeId} {w : World} {g n : Nat} {xs : List α} (h : Fill enc size B e w g n xs n) (hn : xs.length = n) : w.ownsRow B e size (.slice (some ⟨g, 0, none⟩) n n) xs.length (xs.flatMap enc) := by
  obtain ⟨rest, hr, ho⟩ := h
  rw [Nat.sub_self, Nat.zero_mul] at hr
  rw [List.length_eq_zero_iff.1 hr, List.append_nil, List.take_of_length_le (by omega)] at ho
  rw [hn]; exact ho
theorem Fill.below {α : Type} {enc : α → List Value} {size B C : Nat} {e : TypeId} {w w' : World} {g n k : Nat} {xs : List α} (h : Fill enc size B e w g n xs k) (hb : Below C w w') (hC : w.heap.size ≤ C) : Fill enc size B e w' g n xs k := by
  obtain ⟨rest, hr, ho⟩ := h
  exact ⟨rest, hr, owns_below ho hb hC⟩
def FillC {α : Type} (enc : α → List Value) (size : Nat) (B : Nat) (e : TypeId) (w : World) (g n cap : Nat) (xs : List α) (k : Nat) : Prop :=
  ∃ rest : List Value, rest.length = (n - k) * size ∧ w.ownsRow B e size (.slice (some ⟨g, 0, none⟩) n cap) n ((xs.take k).flatMap enc ++ rest)
theorem FillC.start {α : Type} {enc : α → List Value} {size B : Nat} {e : TypeId} {w : World} {g n cap : Nat} {xs : List α} {cs : List Value} (h : w.ownsRow B e size (.slice (some ⟨g, 0, none⟩) n cap) n cs) : FillC enc size B e w g n cap xs 0 :=
  ⟨cs, by rw [h.1]; simp, by simpa using h⟩
theorem FillC.there {α : Type} {enc : α → List Value} {size B : Nat} {e : TypeId} {w : World} {g n cap k : Nat} {xs : List α} (he : ∀ x, (enc x).length = size) (h : FillC enc size B e w g n cap xs k) (hn : xs.length = n) (hk : k < n) : w.there g (k * size) size := by
  obtain ⟨rest, hr, ho⟩ := h
  refine owns_there ho _ _ ?_
  have : (n - k) * size = size + (n - k - 1) * size := by rw [show n - k = (n - k - 1) + 1 by omega, Nat.add_mul]; simp; omega
  rw [List.length_append, flat_len enc size he, List.length_take, Nat.min_eq_left (by omega), hr]; omega
theorem FillC.step {α : Type} {enc : α → List Value} {size B : Nat} {e : TypeId} {w : World} {g n cap k : Nat} {xs : List α} (he : ∀ x, (enc x).length = size) (h : FillC enc size B e w g n cap xs k) (hn : xs.length = n) {x : α} (hx : xs[k]? = some x) :
    FillC enc size B e (w.setCells g (k * size) (enc x)) g n cap xs (k + 1) ∧ w.grownBy (w.setCells g (k * size) (enc x)) (some g) := by
  obtain ⟨hk, rfl⟩ := List.getElem?_eq_some_iff.1 hx
  obtain ⟨rest, hr, ho⟩ := h
  have hl : ((xs.take k).flatMap enc).length = k * size := by rw [flat_len enc size he, List.length_take, Nat.min_eq_left (by omega)]
  have hd : (n - k) * size = size + (n - k - 1) * size := by rw [show n - k = (n - k - 1) + 1 by omega, Nat.add_mul]; simp; omega
  obtain ⟨h1, h2⟩ := owns_setCells (enc xs[k]) (k * size) w _ ho (by rw [he, List.length_append, hl, hr]; omega)
  refine ⟨⟨rest.drop size, by rw [List.length_drop, hr]; rw [show n - (k + 1) = n - k - 1 by omega]; omega, ?_⟩, h2⟩
  have : splice ((xs.take k).flatMap enc ++ rest) (k * size) (enc xs[k]) = (xs.take (k + 1)).flatMap enc ++ rest.drop size := by
    unfold splice
    rw [flat_snoc enc xs k hk, List.take_append, hl, List.take_of_length_le (by omega), Nat.sub_self, List.take_zero, List.append_nil, he, List.drop_append, hl]
    rw [List.drop_of_length_le (by omega), show k * size + size - k * size = size by omega]
    simp
  rw [this] at h1
  exact h1
theorem FillC.done {α : Type} {enc : α → List Value} {size B : Nat} {e : TypeId} {w : World} {g n cap : Nat} {xs : List α} (h : FillC enc size B e w g n cap xs n) (hn : xs.length = n) : w.ownsRow B e size (.slice (some ⟨g, 0, none⟩) n cap) xs.length (xs.flatMap enc) := by
  obtain ⟨rest, hr, ho⟩ := h
  rw [Nat.sub_self, Nat.zero_mul] at hr
  rw [List.length_eq_zero_iff.1 hr, List.append_nil, List.take_of_length_le (by omega)] at ho
  rw [hn]; exact ho
theorem FillC.below {α : Type} {enc : α → List Value} {size B C : Nat} {e : TypeId} {w w' : World} {g n cap k : Nat} {xs : List α} (h : FillC enc size B e w g n cap xs k) (hb : Below C w w') (hC : w.heap.size ≤ C) : FillC enc size B e w' g n cap xs k := by
  obtain ⟨rest, hr, ho⟩ := h
  exact ⟨rest, hr, owns_below ho hb hC⟩
def leftOf (l : Int) (n : Nat) : Int := if l < n then -1 else l - n
theorem leftOf_no {l : Int} {n : Nat} (h : l < n) : leftOf l n = -1 := if_pos h
theorem leftOf_yes {l : Int} {n : Nat} (h : (n : Int) ≤ l) : leftOf l n = l - n := if_neg (by omega)
def tot {α : Type} (f : α → Nat) : List α → Nat
  | [] => 0
  | x :: r => f x + tot f r
theorem tot_append {α : Type} (f : α → Nat) (a b : List α) : tot f (a ++ b) = tot f a + tot f b := by
  induction a with
  | nil => simp [tot]
  | cons x r ih => simp [tot, ih, Nat.add_assoc]
theorem tot_take {α : Type} (f : α → Nat) (a : List α) (k : Nat) {x : α} (hx : a[k]? = some x) : tot f (a.take (k + 1)) = tot f (a.take k) + f x := by
  obtain ⟨h, rfl⟩ := List.getElem?_eq_some_iff.1 hx
  rw [List.take_succ_eq_append_getElem h, tot_append]; simp [tot]
theorem tot_take_le {α : Type} (f : α → Nat) (a : List α) (k : Nat) : tot f (a.take k) ≤ tot f a := by
  have h := tot_append f (a.take k) (a.drop k)
  rw [List.take_append_drop] at h; omega
def encI (n : Int) : List Value := [.int .i64 n]
theorem encI_len (n : Int) : (encI n).length = 1 := rfl
def encS (s : ByteArray) : List Value := [.string s]
theorem encS_len (s : ByteArray) : (encS s).length = 1 := rfl
theorem below_drewN (B : Nat) (w : World) (n : Nat) : Below B w (w.drewN n) := ⟨rfl, rfl, rfl, Nat.le_refl _, fun _ _ => rfl⟩
theorem blk_cell {w : World} {b : Nat} {cs : Array Value} {t : TypeId} {fr : Nat × Nat} (h : w.heap[b]? = some (.cells cs t fr)) (i : Nat) : w.cell? ⟨b, i, none⟩ = cs[i]? := by simp [World.cell?, h]
theorem blk_frozen {w : World} {b : Nat} {cs : Array Value} {t : TypeId} (h : w.heap[b]? = some (.cells cs t (0, 0))) (i : Nat) : w.frozen? ⟨b, i, none⟩ = false := by simp [World.frozen?, h]
theorem blk_new (w : World) (o : Obj) (n : Nat) (hn : n = w.heap.size) : (w.alloc o).heap[n]? = some o := by subst hn; exact heap_alloc_new w o
theorem blk_alloc {w : World} {b : Nat} {x : Obj} (h : w.heap[b]? = some x) (o : Obj) : (w.alloc o).heap[b]? = some x := by
  rw [Below.heap_alloc w o b (Array.getElem?_eq_some_iff.1 h).1]; exact h
theorem blk_set {w : World} {b i : Nat} {cs : Array Value} {t : TypeId} (h : w.heap[b]? = some (.cells cs t (0, 0))) (v : Value) : (w.setCell ⟨b, i, none⟩ v).heap[b]? = some (.cells (cs.setIfInBounds i v) t (0, 0)) := by
  rw [setCell_eq_setRow w b i cs t (0, 0) v h]
  exact setRow_heap w b _ _ t _ h
theorem blk_set_other {w : World} {b : Nat} {x : Obj} (h : w.heap[b]? = some x) {p : Addr} (hp : b ≠ p.block) (v : Value) : (w.setCell p v).heap[b]? = some x := (Below.heap_setCell w p v b hp).trans h
theorem blk_lt {w : World} {b : Nat} {x : Obj} (h : w.heap[b]? = some x) : b < w.heap.size := (Array.getElem?_eq_some_iff.1 h).1
theorem blk_below {w w' : World} {C b : Nat} {x : Obj} (h : w.heap[b]? = some x) (hb : Below C w w') (hC : w.heap.size ≤ C) : w'.heap[b]? = some x := (hb.block b (Nat.lt_of_lt_of_le (blk_lt h) hC)).trans h
theorem blk_grown {w w' : World} {b : Nat} {x : Obj} {row : Option Nat} (h : w.heap[b]? = some x) (hg : w.grownBy w' row) (hr : some b ≠ row) : w'.heap[b]? = some x := (hg.block b (blk_lt h) hr).trans h
def RdS {α : Type} (enc : α → List Value) (size : Nat) (w : World) (v : Value) (xs : List α) : Prop := ∃ ao cap, v = .slice ao xs.length cap ∧ Rd enc size w ao xs.length xs
theorem RdS.below {α : Type} {enc : α → List Value} {size : Nat} {w w' : World} {v : Value} {xs : List α} (h : RdS enc size w v xs) (hb : Below w.heap.size w w') : RdS enc size w' v xs := by
  obtain ⟨ao, cap, e, hr⟩ := h
  exact ⟨ao, cap, e, hr.below hb⟩
def Value.rowBlock : Value → Option Nat
  | .slice (some a) _ cap => if cap = 0 then none else some a.block
  | _ => none
theorem rowBlock_own {v : Value} {g : Nat} (h : Value.rowBlock v = some g) : v.ownBlock = some g := by
  unfold Value.rowBlock at h
  split at h
  · split at h
    · cases h
    · exact h
  · cases h
theorem rowBlock_pos {ao : Option Addr} {n cap : Nat} (h : cap ≠ 0) : Value.rowBlock (.slice ao n cap) = (Value.slice ao n cap).ownBlock := by
  cases ao with
  | none => rfl
  | some a => simp [Value.rowBlock, Value.ownBlock, h]
theorem rowBlock_zero (ao : Option Addr) (n : Nat) : Value.rowBlock (.slice ao n 0) = none := by
  cases ao <;> simp [Value.rowBlock]
def RowO {α : Type} (enc : α → List Value) (size : Nat) (e : TypeId) (w : World) (B B1 : Nat) (v : Value) (xs : List α) : Prop :=
  ∃ ao cap, v = .slice ao xs.length cap ∧ ((cap = 0 ∧ xs = []) ∨ w.ownsRow B e size v xs.length (xs.flatMap enc)) ∧ ∀ g, Value.rowBlock v = some g → g < B1
theorem RowO.mk {α : Type} {enc : α → List Value} {size : Nat} {e : TypeId} {w : World} {B B1 : Nat} {v : Value} {xs : List α} (ho : w.ownsRow B e size v xs.length (xs.flatMap enc)) (hg : ∀ g, v.ownBlock = some g → g < B1) : RowO enc size e w B B1 v xs := by
  obtain ⟨ao, cap, rfl, _⟩ := owns_slice ho
  exact ⟨ao, cap, rfl, .inr ho, fun g h => hg g (rowBlock_own h)⟩
theorem RowO.empty {α : Type} (enc : α → List Value) (size : Nat) (e : TypeId) (w : World) (B B1 : Nat) (ao : Option Addr) : RowO enc size e w B B1 (.slice ao 0 0) ([] : List α) :=
  ⟨ao, 0, rfl, .inl ⟨rfl, rfl⟩, fun g h => by rw [rowBlock_zero] at h; cases h⟩
theorem RowO.rd {α : Type} {enc : α → List Value} {size : Nat} (he : ∀ x, (enc x).length = size) {e : TypeId} {w : World} {B B1 : Nat} {v : Value} {xs : List α} (h : RowO enc size e w B B1 v xs) : RdS enc size w v xs := by
  obtain ⟨ao, cap, rfl, ho | ho, _⟩ := h
  · obtain ⟨rfl, rfl⟩ := ho
    exact ⟨ao, 0, rfl, ⟨rfl, fun i hi => absurd hi (Nat.not_lt_zero _)⟩⟩
  · exact ⟨ao, cap, rfl, (owns_rd he ho).2⟩
theorem RowO.by {α : Type} {enc : α → List Value} {size : Nat} {e : TypeId} {w w' : World} {B B1 : Nat} {v : Value} {xs : List α} (h : RowO enc size e w B B1 v xs)
    (hk : (Value.rowBlock v = v.ownBlock) → w.ownsRow B e size v xs.length (xs.flatMap enc) → w'.ownsRow B e size v xs.length (xs.flatMap enc)) : RowO enc size e w' B B1 v xs := by
  obtain ⟨ao, cap, rfl, ho | ho, hg⟩ := h
  · exact ⟨ao, cap, rfl, .inl ho, hg⟩
  · by_cases h0 : cap = 0
    · obtain ⟨ao', cap', hv, hle, _⟩ := owns_slice ho
      simp only [Value.slice.injEq, true_and] at hv
      obtain ⟨rfl, rfl⟩ := hv
      refine ⟨ao, cap, rfl, .inl ⟨h0, List.length_eq_zero_iff.1 (by omega)⟩, hg⟩
    · exact ⟨ao, cap, rfl, .inr (hk (rowBlock_pos h0) ho), hg⟩
theorem RowO.below {α : Type} {enc : α → List Value} {size : Nat} {e : TypeId} {w w' : World} {B B1 C : Nat} {v : Value} {xs : List α} (h : RowO enc size e w B B1 v xs) (hb : Below C w w') (hC : w.heap.size ≤ C) : RowO enc size e w' B B1 v xs :=
  h.by fun _ ho => owns_below ho hb hC
theorem RowO.mono {α : Type} {enc : α → List Value} {size : Nat} {e : TypeId} {w : World} {B B1 B' B1' : Nat} {v : Value} {xs : List α} (h : RowO enc size e w B B1 v xs) (hB : B' ≤ B) (hB1 : B1 ≤ B1') : RowO enc size e w B' B1' v xs := by
  obtain ⟨ao, cap, rfl, ho, hg⟩ := h
  exact ⟨ao, cap, rfl, ho.imp id fun ho => owns_mono ho hB, fun g h => Nat.lt_of_lt_of_le (hg g h) hB1⟩
theorem RowO.set {α : Type} {enc : α → List Value} {size : Nat} {e : TypeId} {w : World} {B B1 : Nat} {v : Value} {xs : List α} (h : RowO enc size e w B B1 v xs) {p : Addr} (hp : p.block < B) (u : Value) : RowO enc size e (w.setCell p u) B B1 v xs :=
  h.by fun _ ho => owns_setCell ho hp u
theorem RowO.grown {α : Type} {enc : α → List Value} {size : Nat} {e : TypeId} {w w' : World} {B B1 : Nat} {v : Value} {xs : List α} {row : Option Nat} (h : RowO enc size e w B B1 v xs) (hg : w.grownBy w' row) (hne : Value.rowBlock v = none ∨ Value.rowBlock v ≠ row) : RowO enc size e w' B B1 v xs := by
  exact h.by fun hq ho => ho.kept hg (by rw [← hq]; exact hne)
theorem RowO.lt {α : Type} {enc : α → List Value} {size : Nat} {e : TypeId} {w : World} {B B1 : Nat} {v : Value} {xs : List α} (h : RowO enc size e w B B1 v xs) : ∀ g, Value.rowBlock v = some g → B ≤ g ∧ g < B1 ∧ g < w.heap.size := by
  obtain ⟨ao, cap, rfl, ho | ho, hb⟩ := h
  · obtain ⟨rfl, _⟩ := ho
    intro g hg
    rw [rowBlock_zero] at hg; cases hg
  · exact fun g hg => ⟨(ho.lt g (rowBlock_own hg)).1, hb g hg, (ho.lt g (rowBlock_own hg)).2⟩
def Apart (a b : Value) : Prop := Value.rowBlock a = none ∨ Value.rowBlock a ≠ Value.rowBlock b
theorem Apart.of_lt {a b : Value} {m : Nat} (ha : ∀ g, Value.rowBlock a = some g → g < m) (hb : ∀ g, Value.rowBlock b = some g → m ≤ g) : Apart a b := by
  unfold Apart
  cases h : Value.rowBlock a with
  | none => exact .inl rfl
  | some g =>
    right
    intro e
    have h1 := ha g h
    have h2 := hb g e.symm
    omega
theorem Apart.symm {a b : Value} (h : Apart a b) : Apart b a := by
  unfold Apart at h ⊢
  rcases h with h | h
  · cases hb : Value.rowBlock b with
    | none => exact .inl rfl
    | some g => right; rw [h]; simp
  · exact .inr (fun e => h e.symm)
theorem FillC.next {α : Type} {enc : α → List Value} {size B : Nat} {e : TypeId} {w' : World} {g n cap k : Nat} {xs : List α} {cs : List Value} (he : ∀ x, (enc x).length = size) (hn : xs.length = n) {x : α} (hx : xs[k]? = some x)
    (hc : ∃ rest : List Value, rest.length = (n - k) * size ∧ cs = (xs.take k).flatMap enc ++ rest) (ho : w'.ownsRow B e size (.slice (some ⟨g, 0, none⟩) n cap) n (splice cs (k * size) (enc x))) : FillC enc size B e w' g n cap xs (k + 1) := by
  obtain ⟨hk, rfl⟩ := List.getElem?_eq_some_iff.1 hx
  obtain ⟨rest, hr, rfl⟩ := hc
  have hl : ((xs.take k).flatMap enc).length = k * size := by rw [flat_len enc size he, List.length_take, Nat.min_eq_left (by omega)]
  have hd : (n - k) * size = size + (n - k - 1) * size := by rw [show n - k = (n - k - 1) + 1 by omega, Nat.add_mul]; simp; omega
  refine ⟨rest.drop size, by rw [List.length_drop, hr]; rw [show n - (k + 1) = n - k - 1 by omega]; omega, ?_⟩
  have : splice ((xs.take k).flatMap enc ++ rest) (k * size) (enc xs[k]) = (xs.take (k + 1)).flatMap enc ++ rest.drop size := by
    unfold splice
    rw [flat_snoc enc xs k hk, List.take_append, hl, List.take_of_length_le (by omega), Nat.sub_self, List.take_zero, List.append_nil, he, List.drop_append, hl]
    rw [List.drop_of_length_le (by omega), show k * size + size - k * size = size by omega]
    simp
  rw [this] at ho
  exact ho
def marks {α : Type} (mk : Int → α) (c : Int) (k : Int) (n : Nat) : List α := (List.range n).map fun (i : Nat) => mk (k + (i : Int) * c)
theorem marks_len {α : Type} (mk : Int → α) (c : Int) (k : Int) (n : Nat) : (marks mk c k n).length = n := by simp [marks]
theorem marks_get {α : Type} (mk : Int → α) (c : Int) (k : Int) (n i : Nat) (h : i < n) : (marks mk c k n)[i]? = some (mk (k + (i : Int) * c)) := by simp [marks, h]
theorem grown_trans {w a b : World} {row : Option Nat} (h1 : w.grownBy a row) (h2 : a.grownBy b row) : w.grownBy b row :=
  ⟨h2.os.trans h1.os, h2.tape.trans h1.tape, h2.output.trans h1.output, Nat.le_trans h1.size h2.size, fun k hk hne => (h2.block k (Nat.lt_of_lt_of_le hk h1.size) hne).trans (h1.block k hk hne)⟩
theorem grown_below {w w' : World} {C : Nat} (h : Below C w w') (hC : w.heap.size ≤ C) (row : Option Nat) : w.grownBy w' row := ⟨h.os, h.tape, h.output, h.size, fun k hk _ => h.block k (by omega)⟩
theorem grown_refl (w : World) (row : Option Nat) : w.grownBy w row := ⟨rfl, rfl, rfl, Nat.le_refl _, fun _ _ _ => rfl⟩
theorem splice_one (xs : List Value) (o : Nat) (v : Value) (h : o < xs.length) : splice xs o [v] = xs.set o v := by
  rw [← splice_cons xs o v [] (by simp; omega)]
  unfold splice
  simp
structure Outside (B B1 : Nat) (w w' : World) : Prop where
  os : w'.os = w.os
  tape : w'.tape = w.tape
  output : w'.output = w.output
  size : w.heap.size ≤ w'.heap.size
  block : ∀ k, k < w.heap.size → (k < B ∨ B1 ≤ k) → w'.heap[k]? = w.heap[k]?
theorem Outside.refl (B B1 : Nat) (w : World) : Outside B B1 w w := ⟨rfl, rfl, rfl, Nat.le_refl _, fun _ _ _ => rfl⟩
theorem Outside.trans {B B1 : Nat} {a b c : World} (h : Outside B B1 a b) (k : Outside B B1 b c) : Outside B B1 a c :=
  ⟨k.os.trans h.os, k.tape.trans h.tape, k.output.trans h.output, Nat.le_trans h.size k.size, fun i hi ho => (k.block i (Nat.lt_of_lt_of_le hi h.size) ho).trans (h.block i hi ho)⟩
theorem Outside.grown {B B1 : Nat} {w w' : World} {v : Value} (hg : w.grownBy w' (Value.rowBlock v)) (hv : ∀ g, Value.rowBlock v = some g → B ≤ g ∧ g < B1) : Outside B B1 w w' :=
  ⟨hg.os, hg.tape, hg.output, hg.size, fun k hk ho => hg.block k hk (fun e => by have := hv k e.symm; omega)⟩
theorem Outside.of_below {B B1 C : Nat} {w w' : World} (h : Below C w w') (hC : w.heap.size ≤ C) : Outside B B1 w w' := ⟨h.os, h.tape, h.output, h.size, fun k hk _ => h.block k (by omega)⟩
theorem Outside.mono {B B1 B' B1' : Nat} {w w' : World} (h : Outside B B1 w w') (hB : B' ≤ B) (hB1 : B1 ≤ B1') : Outside B' B1' w w' := ⟨h.os, h.tape, h.output, h.size, fun k hk ho => h.block k hk (by omega)⟩
theorem Outside.below {B B1 : Nat} {w w' : World} (h : Outside B B1 w w') (hB : B ≤ w.heap.size) : Below B w w' := ⟨h.os, h.tape, h.output, h.size, fun k hk => h.block k (by omega) (Or.inl hk)⟩
theorem Outside.alloc (B B1 : Nat) (w : World) (o : Obj) : Outside B B1 w (w.alloc o) := Outside.of_below (C := w.heap.size) ((Below.refl _ _).alloc (Nat.le_refl _) o) (Nat.le_refl _)
theorem blk_outside {w w' : World} {b B B1 : Nat} {x : Obj} (h : w.heap[b]? = some x) (hg : Outside B B1 w w') (hr : b < B ∨ B1 ≤ b) : w'.heap[b]? = some x := (hg.block b (blk_lt h) hr).trans h
theorem RowO.outside {α : Type} {enc : α → List Value} {size : Nat} {e : TypeId} {w w' : World} {B B1 C C1 : Nat} {v : Value} {xs : List α} (h : RowO enc size e w B B1 v xs) (ho : Outside C C1 w w') (hap : B1 ≤ C ∨ C1 ≤ B) : RowO enc size e w' B B1 v xs := by
  have hlt := h.lt
  refine h.by fun hq ⟨hl, hh⟩ => ⟨hl, ?_⟩
  rcases hh with hn | ⟨g, cap', cur, hv, hB, hgg, rest⟩
  · exact .inl hn
  · have h1 := hlt g (by rw [hq, hv]; rfl)
    exact .inr ⟨g, cap', cur, hv, hB, (ho.block g (blk_lt hgg) (by omega)).trans hgg, rest⟩
theorem sz_alloc (w : World) (o : Obj) : (w.alloc o).heap.size = w.heap.size + 1 := by simp
theorem sz_set (w : World) (a : Addr) (u : Value) : (w.setCell a u).heap.size = w.heap.size := by simp [World.setCell]
structure GrownAll (vs : List Value) (w w' : World) : Prop where
  os : w'.os = w.os
  tape : w'.tape = w.tape
  output : w'.output = w.output
  size : w.heap.size ≤ w'.heap.size
  block : ∀ k, k < w.heap.size → (∀ v ∈ vs, Value.rowBlock v ≠ some k) → w'.heap[k]? = w.heap[k]?
theorem GrownAll.refl (vs : List Value) (w : World) : GrownAll vs w w := ⟨rfl, rfl, rfl, Nat.le_refl _, fun _ _ _ => rfl⟩
theorem GrownAll.trans {vs : List Value} {a b c : World} (h : GrownAll vs a b) (k : GrownAll vs b c) : GrownAll vs a c :=
  ⟨k.os.trans h.os, k.tape.trans h.tape, k.output.trans h.output, Nat.le_trans h.size k.size, fun i hi ho => (k.block i (Nat.lt_of_lt_of_le hi h.size) ho).trans (h.block i hi ho)⟩
theorem GrownAll.mono {vs us : List Value} {w w' : World} (h : GrownAll vs w w') (hs : ∀ v ∈ vs, v ∈ us) : GrownAll us w w' :=
  ⟨h.os, h.tape, h.output, h.size, fun k hk ho => h.block k hk (fun v hv => ho v (hs v hv))⟩
theorem GrownAll.one {w w' : World} {v : Value} (hg : w.grownBy w' (Value.rowBlock v)) : GrownAll [v] w w' :=
  ⟨hg.os, hg.tape, hg.output, hg.size, fun k hk ho => hg.block k hk (fun e => ho v (by simp) e.symm)⟩
theorem GrownAll.of_below {vs : List Value} {C : Nat} {w w' : World} (h : Below C w w') (hC : w.heap.size ≤ C) : GrownAll vs w w' := ⟨h.os, h.tape, h.output, h.size, fun k hk _ => h.block k (by omega)⟩
theorem GrownAll.alloc (vs : List Value) (w : World) (o : Obj) : GrownAll vs w (w.alloc o) := GrownAll.of_below (C := w.heap.size) ((Below.refl _ _).alloc (Nat.le_refl _) o) (Nat.le_refl _)
theorem GrownAll.outside {vs : List Value} {B B1 : Nat} {w w' : World} (h : GrownAll vs w w') (hv : ∀ v ∈ vs, ∀ g, Value.rowBlock v = some g → B ≤ g ∧ g < B1) : Outside B B1 w w' :=
  ⟨h.os, h.tape, h.output, h.size, fun k hk ho => h.block k hk (fun v hvs e => by have := hv v hvs k e; omega)⟩
theorem blk_all {vs : List Value} {w w' : World} {b : Nat} {x : Obj} (h : w.heap[b]? = some x) (hg : GrownAll vs w w') (hv : ∀ v ∈ vs, Value.rowBlock v ≠ some b) : w'.heap[b]? = some x := (hg.block b (blk_lt h) hv).trans h
theorem RowO.all {α : Type} {enc : α → List Value} {size : Nat} {e : TypeId} {w w' : World} {B B1 : Nat} {v : Value} {xs : List α} {vs : List Value} (h : RowO enc size e w B B1 v xs) (ho : GrownAll vs w w') (hap : ∀ u ∈ vs, Apart v u) : RowO enc size e w' B B1 v xs := by
  refine h.by fun hq ⟨hl, hh⟩ => ⟨hl, ?_⟩
  rcases hh with hn | ⟨g, cap', cur, hv, hB, hgg, rest⟩
  · exact .inl hn
  · have h1 : Value.rowBlock v = some g := by rw [hq, hv]; rfl
    refine .inr ⟨g, cap', cur, hv, hB, (ho.block g (blk_lt hgg) (fun u hu e => ?_)).trans hgg, rest⟩
    rcases hap u hu with h2 | h2
    · rw [h1] at h2; cases h2
    · exact h2 (by rw [h1, e])
theorem all1 {p : Value → Prop} {a : Value} (ha : p a) : ∀ v ∈ [a], p v := by simp [ha]
theorem all2 {p : Value → Prop} {a b : Value} (ha : p a) (hb : p b) : ∀ v ∈ [a, b], p v := by simp [ha, hb]
theorem all5 {p : Value → Prop} {a b c d e : Value} (ha : p a) (hb : p b) (hc : p c) (hd : p d) (he : p e) : ∀ v ∈ [a, b, c, d, e], p v := by simp [ha, hb, hc, hd, he]
theorem ifmax (a b : Int) : (if a < b then b else a) = max a b := by rw [Int.max_def]; split <;> split <;> omega
end Go.Proofs.YtdlmlagcniifjaaGreatDoor
