/- Memory in plain words: rows of a call's own, their elements, and what keeps them. No program in sight. -/
import Derived.WalkKit
import Derived.WalkSpells
import Derived.WalkLawsBesides
import Derived.Lib.Hide
import Derived.Deep.MidRow
namespace Go.Proofs.Ytkgmilobmbeplaa
open Go.RowKit

theorem ret_int {k : IntKind} {a b : Int} (h : a = b) : Ending.returned (.int k a) = .returned (.int k b) := by rw [h]
theorem ret_bool {a b : Bool} (h : a = b) : Ending.returned (.bool a) = .returned (.bool b) := by rw [h]

theorem bcell {W w1 : World} (hb : Below W.heap.size W w1) : (∀ b o, b < W.heap.size → w1.cell? ⟨b, o, none⟩ = W.cell? ⟨b, o, none⟩) ∧ (∀ b o, b < W.heap.size → w1.frozen? ⟨b, o, none⟩ = W.frozen? ⟨b, o, none⟩) :=
  ⟨fun b o h => hb.cell (p := ⟨b, o, none⟩) h, fun b o h => hb.frozen (p := ⟨b, o, none⟩) h⟩

/-! ### Lists of elements, each of some cells -/
section
variable {α : Type}

theorem flat_len (enc : α → List Value) (size : Nat) (he : ∀ x, (enc x).length = size) (xs : List α) : (xs.flatMap enc).length = xs.length * size := by
  induction xs with
  | nil => simp
  | cons x r ih => simp [List.flatMap_cons, he, ih, Nat.add_mul, Nat.add_comm]

theorem flat_drop (enc : α → List Value) (size : Nat) (he : ∀ x, (enc x).length = size) (xs : List α) (i : Nat) : (xs.flatMap enc).drop (i * size) = (xs.drop i).flatMap enc := by
  induction xs generalizing i with
  | nil => simp
  | cons x r ih =>
    cases i with
    | zero => simp
    | succ i =>
      rw [List.flatMap_cons, List.drop_append, he, show (i + 1) * size - size = i * size by rw [Nat.add_mul]; omega, ih]
      rw [List.drop_of_length_le (by rw [he, Nat.add_mul]; omega)]
      simp

theorem flat_take (enc : α → List Value) (size : Nat) (he : ∀ x, (enc x).length = size) (xs : List α) (i : Nat) : (xs.flatMap enc).take (i * size) = (xs.take i).flatMap enc := by
  induction xs generalizing i with
  | nil => simp
  | cons x r ih =>
    cases i with
    | zero => simp
    | succ i =>
      rw [List.flatMap_cons, List.take_append, he, show (i + 1) * size - size = i * size by rw [Nat.add_mul]; omega, ih]
      rw [List.take_of_length_le (by rw [he, Nat.add_mul]; omega)]
      simp

/-- The cell j of element i, among all cells. -/
theorem flat_get (enc : α → List Value) (size : Nat) (he : ∀ x, (enc x).length = size) (xs : List α) (i : Nat) (h : i < xs.length) (j : Nat) (v : Value) (hv : (enc xs[i])[j]? = some v) : (xs.flatMap enc)[i * size + j]? = some v := by
  rw [← List.getElem?_drop, flat_drop enc size he, List.drop_eq_getElem_cons h, List.flatMap_cons, List.getElem?_append_left (List.getElem?_eq_some_iff.1 hv).1, hv]

theorem flat_snoc (enc : α → List Value) (xs : List α) (k : Nat) (h : k < xs.length) : (xs.take (k + 1)).flatMap enc = (xs.take k).flatMap enc ++ enc xs[k] := by
  rw [List.take_succ_eq_append_getElem h, List.flatMap_append]; simp
end

/-- A slice value whose elements, each of some cells, lie in memory and read as the list. -/
structure Rd {α : Type} (enc : α → List Value) (size : Nat) (w : World) (ao : Option Addr) (len : Nat) (xs : List α) : Prop where
  len : xs.length = len
  at_ : ∀ i (_ : i < xs.length), ∃ b off x, xs[i]? = some x ∧ ao = some ⟨b, off, none⟩ ∧ b < w.heap.size ∧ w.rangeAt b (off + i * size) (enc x)

theorem rangeAt_below {B : Nat} {w w' : World} {b o : Nat} {cs : List Value} (h : w.rangeAt b o cs) (hb : Below B w w') (hB : b < B) : w'.rangeAt b o cs :=
  fun j v hv => (hb.cell (p := ⟨b, o + j, none⟩) hB).trans (h j v hv)
theorem Rd.below {α : Type} {enc : α → List Value} {size : Nat} {w w' : World} {ao : Option Addr} {len : Nat} {xs : List α} (h : Rd enc size w ao len xs) (hb : Below w.heap.size w w') : Rd enc size w' ao len xs :=
  ⟨h.len, fun i hi => by
    obtain ⟨b, off, x, hx, e, hlt, hr⟩ := h.at_ i hi
    exact ⟨b, off, x, hx, e, Nat.lt_of_lt_of_le hlt hb.size, rangeAt_below hr hb hlt⟩⟩

/-! ### Rows of the call's own ('ownsRow') -/
/-- A row of the call's own, at a known block, of known length. -/
theorem owns_slice {w : World} {B : Nat} {e : TypeId} {size : Nat} {v : Value} {n : Nat} {xs : List Value} (h : w.ownsRow B e size v n xs) : ∃ ao cap, v = .slice ao n cap ∧ n ≤ cap ∧ cap ≤ maxLen ∧ (0 < n → ∃ g, ao = some ⟨g, 0, none⟩ ∧ B ≤ g ∧ g < w.heap.size) := by
  rcases h.2 with ⟨rfl, rfl⟩ | ⟨g, cap, cur, rfl, hB, hg, hn, hc, _⟩
  · exact ⟨none, 0, rfl, Nat.le_refl _, Nat.zero_le _, fun h => absurd h (Nat.lt_irrefl _)⟩
  · exact ⟨_, cap, rfl, hn, hc, fun _ => ⟨g, rfl, hB, (Array.getElem?_eq_some_iff.1 hg).1⟩⟩

theorem owns_rd {α : Type} {enc : α → List Value} {size : Nat} (he : ∀ x, (enc x).length = size) {w : World} {B : Nat} {e : TypeId} {ao : Option Addr} {n cap : Nat} {xs : List α} (h : w.ownsRow B e size (.slice ao n cap) xs.length (xs.flatMap enc)) :
    n = xs.length ∧ Rd enc size w ao n xs := by
  rcases h.2 with ⟨hv, hn⟩ | ⟨g, cap', cur, hv, hB, hg, hn, hc, hs, ht⟩
  · simp only [Value.slice.injEq] at hv
    obtain ⟨rfl, rfl, rfl⟩ := hv
    exact ⟨hn.symm, hn, fun i hi => by omega⟩
  · simp only [Value.slice.injEq] at hv
    obtain ⟨rfl, rfl, rfl⟩ := hv
    refine ⟨rfl, rfl, fun i hi => ⟨g, 0, xs[i], List.getElem?_eq_getElem hi, rfl, (Array.getElem?_eq_some_iff.1 hg).1, fun j u hu => ?_⟩⟩
    have := flat_get enc size he xs i hi j u hu
    rw [← ht, List.getElem?_take] at this
    rw [Nat.zero_add, cell_of_row w g _ cur e (0, 0) hg]
    split at this
    · simpa using this
    · cases this

/-- Below B nothing has turned: what lies in blocks below B is owned on. -/
theorem owns_below {w w' : World} {B C : Nat} {e : TypeId} {size : Nat} {v : Value} {n : Nat} {xs : List Value} (h : w.ownsRow B e size v n xs) (hb : Below C w w') (hC : w.heap.size ≤ C) : w'.ownsRow B e size v n xs := by
  refine ⟨h.1, ?_⟩
  rcases h.2 with hn | ⟨g, cap, cur, rfl, hB, hg, rest⟩
  · exact .inl hn
  · have := (Array.getElem?_eq_some_iff.1 hg).1
    exact .inr ⟨g, cap, cur, rfl, hB, (hb.block g (by omega)).trans hg, rest⟩

/-- A store into a block below the base. -/
theorem owns_setCell {w : World} {B : Nat} {e : TypeId} {size : Nat} {v : Value} {n : Nat} {xs : List Value} (h : w.ownsRow B e size v n xs) {p : Addr} (hp : p.block < B) (u : Value) : (w.setCell p u).ownsRow B e size v n xs := ownsRow_setCell_below h hp u

theorem owns_mono {w : World} {B B' : Nat} {e : TypeId} {size : Nat} {v : Value} {n : Nat} {xs : List Value} (h : w.ownsRow B e size v n xs) (hB : B' ≤ B) : w.ownsRow B' e size v n xs := by
  refine ⟨h.1, ?_⟩
  rcases h.2 with hn | ⟨g, cap, cur, rfl, hBg, rest⟩
  · exact .inl hn
  · exact .inr ⟨g, cap, cur, rfl, Nat.le_trans hB hBg, rest⟩

/-- Some cells in a row, one behind the other, turned. -/
def splice (xs : List Value) (o : Nat) (vs : List Value) : List Value := xs.take o ++ vs ++ xs.drop (o + vs.length)

theorem splice_cons (xs : List Value) (o : Nat) (v : Value) (vs : List Value) (h : o + (vs.length + 1) ≤ xs.length) : splice (xs.set o v) (o + 1) vs = splice xs o (v :: vs) := by
  unfold splice
  have e1 : (xs.set o v).take (o + 1) = xs.take o ++ [v] := by
    rw [List.take_succ_eq_append_getElem (by simp; omega)]
    simp [List.take_set]
    exact List.set_eq_of_length_le (by rw [List.length_take]; omega)
  have e2 : (xs.set o v).drop (o + 1 + vs.length) = xs.drop (o + (vs.length + 1)) := by
    rw [List.drop_set_of_lt (by omega)]
    congr 1; omega
  rw [e1, e2]
  simp

theorem owns_setCells {B : Nat} {e : TypeId} {size : Nat} {g n cap : Nat} : ∀ (vs : List Value) (o : Nat) (w : World) (xs : List Value), w.ownsRow B e size (.slice (some ⟨g, 0, none⟩) n cap) n xs → o + vs.length ≤ xs.length →
    (w.setCells g o vs).ownsRow B e size (.slice (some ⟨g, 0, none⟩) n cap) n (splice xs o vs) ∧ w.grownBy (w.setCells g o vs) (some g)
  | [], o, w, xs, h, _ => by
    refine ⟨?_, ⟨rfl, rfl, rfl, Nat.le_refl _, fun _ _ _ => rfl⟩⟩
    have : splice xs o [] = xs := by unfold splice; simp
    rw [this]; exact h
  | v :: vs, o, w, xs, h, hl => by
    simp only [List.length_cons] at hl
    obtain ⟨h1, h2⟩ := h.stored o v
    obtain ⟨h3, h4⟩ := owns_setCells vs (o + 1) _ (xs.set o v) h1 (by simp; omega)
    rw [splice_cons xs o v vs hl] at h3
    exact ⟨h3, ⟨h4.os.trans h2.os, h4.tape.trans h2.tape, h4.output.trans h2.output, Nat.le_trans h2.size h4.size, fun k hk hne => (h4.block k (Nat.lt_of_lt_of_le hk h2.size) hne).trans (h2.block k hk hne)⟩⟩

/-- The cells of a row of the call's own are there and may be written. -/
theorem owns_there {w : World} {B : Nat} {e : TypeId} {size : Nat} {g n cap : Nat} {xs : List Value} (h : w.ownsRow B e size (.slice (some ⟨g, 0, none⟩) n cap) n xs) (o m : Nat) (hm : o + m ≤ xs.length) : w.there g o m := fun j hj =>
  ⟨by rw [h.cellAt (o + j) (by rw [← h.1]; omega), List.getElem?_eq_getElem (by omega)]; rfl, h.frozenAt _⟩

/-- A row that is filled from its head: k elements are there, the rest is of no account. -/
def Fill {α : Type} (enc : α → List Value) (size : Nat) (B : Nat) (e : TypeId) (w : World) (g n : Nat) (xs : List α) (k : Nat) : Prop :=
  ∃ rest : List Value, rest.length = (n - k) * size ∧ w.ownsRow B e size (.slice (some ⟨g, 0, none⟩) n n) n ((xs.take k).flatMap enc ++ rest)

theorem Fill.start {α : Type} {enc : α → List Value} {size B : Nat} {e : TypeId} {w : World} {g n : Nat} {xs : List α} {cs : List Value} (h : w.ownsRow B e size (.slice (some ⟨g, 0, none⟩) n n) n cs) : Fill enc size B e w g n xs 0 :=
  ⟨cs, by rw [h.1]; simp, by simpa using h⟩

theorem Fill.there {α : Type} {enc : α → List Value} {size B : Nat} {e : TypeId} {w : World} {g n k : Nat} {xs : List α} (he : ∀ x, (enc x).length = size) (h : Fill enc size B e w g n xs k) (hn : xs.length = n) (hk : k < n) : w.there g (k * size) size := by
  obtain ⟨rest, hr, ho⟩ := h
  refine owns_there ho _ _ ?_
  have : (n - k) * size = size + (n - k - 1) * size := by rw [show n - k = (n - k - 1) + 1 by omega, Nat.add_mul]; simp; omega
  rw [List.length_append, flat_len enc size he, List.length_take, Nat.min_eq_left (by omega), hr]; omega

theorem Fill.step {α : Type} {enc : α → List Value} {size B : Nat} {e : TypeId} {w : World} {g n k : Nat} {xs : List α} (he : ∀ x, (enc x).length = size) (h : Fill enc size B e w g n xs k) (hn : xs.length = n) {x : α} (hx : xs[k]? = some x) :
    Fill enc size B e (w.setCells g (k * size) (enc x)) g n xs (k + 1) ∧ w.grownBy (w.setCells g (k * size) (enc x)) (some g) := by
  obtain ⟨hk, rfl⟩ := List.getElem?_eq_some_iff.1 hx
  obtain ⟨rest, hr, ho⟩ := h
  have hl : ((xs.take k).flatMap enc).length = k * size := by rw [flat_len enc size he, List.length_take, Nat.min_eq_left (by omega)]
  have hd : (n - k) * size = size + (n - k - 1) * size := by rw [show n - k = (n - k - 1) + 1 by omega, Nat.add_mul]; simp; omega
  obtain ⟨h1, h2⟩ := owns_setCells (enc xs[k]) (k * size) w _ ho (by rw [he, List.length_append, hl, hr]; omega)
  refine ⟨⟨rest.drop size, by rw [List.length_drop, hr]; rw [show n - (k + 1) = n - k - 1 by omega]; omega, ?_⟩, h2⟩
  have : splice ((xs.take k).flatMap enc ++ rest) (k * size) (enc xs[k]) = (xs.take (k + 1)).flatMap enc ++ rest.drop size := by
    unfold splice
    rw [flat_snoc enc xs k hk, List.take_append, hl, List.take_of_length_le (by omega), Nat.sub_self, List.take_zero, List.append_nil, he, List.drop_append, hl]
    rw [List.drop_of_length_le (by omega), show k * size + size - k * size = size by omega]
    simp
  rw [this] at h1
  exact h1

theorem Fill.done {α : Type} {enc : α → List Value} {size B : Nat} {e : TypeId} {w : World} {g n : Nat} {xs : List α} (h : Fill enc size B e w g n xs n) (hn : xs.length = n) : w.ownsRow B e size (.slice (some ⟨g, 0, none⟩) n n) xs.length (xs.flatMap enc) := by
  obtain ⟨rest, hr, ho⟩ := h
  rw [Nat.sub_self, Nat.zero_mul] at hr
  rw [List.length_eq_zero_iff.1 hr, List.append_nil, List.take_of_length_le (by omega)] at ho
  rw [hn]; exact ho

theorem Fill.below {α : Type} {enc : α → List Value} {size B C : Nat} {e : TypeId} {w w' : World} {g n k : Nat} {xs : List α} (h : Fill enc size B e w g n xs k) (hb : Below C w w') (hC : w.heap.size ≤ C) : Fill enc size B e w' g n xs k := by
  obtain ⟨rest, hr, ho⟩ := h
  exact ⟨rest, hr, owns_below ho hb hC⟩

/-! ### Sums -/
/-- What is left of l when n is taken: -1 if there is not so much. -/
def leftOf (l : Int) (n : Nat) : Int := if l < n then -1 else l - n
theorem leftOf_no {l : Int} {n : Nat} (h : l < n) : leftOf l n = -1 := if_pos h
theorem leftOf_yes {l : Int} {n : Nat} (h : (n : Int) ≤ l) : leftOf l n = l - n := if_neg (by omega)

/-- The sum of what a function gives of each. -/
def tot {α : Type} (f : α → Nat) : List α → Nat
  | [] => 0
  | x :: r => f x + tot f r
theorem tot_append {α : Type} (f : α → Nat) (a b : List α) : tot f (a ++ b) = tot f a + tot f b := by
  induction a with
  | nil => simp [tot]
  | cons x r ih => simp [tot, ih, Nat.add_assoc]
theorem tot_take {α : Type} (f : α → Nat) (a : List α) (k : Nat) {x : α} (hx : a[k]? = some x) : tot f (a.take (k + 1)) = tot f (a.take k) + f x := by
  obtain ⟨h, rfl⟩ := List.getElem?_eq_some_iff.1 hx
  rw [List.take_succ_eq_append_getElem h, tot_append]; simp [tot]
theorem tot_take_le {α : Type} (f : α → Nat) (a : List α) (k : Nat) : tot f (a.take k) ≤ tot f a := by
  have h := tot_append f (a.take k) (a.drop k)
  rw [List.take_append_drop] at h; omega
theorem tot_le {α : Type} (f : α → Nat) (a : List α) (k : Nat) {x : α} (hx : a[k]? = some x) : f x ≤ tot f a := by
  have := tot_take f a k hx
  have := tot_take_le f a (k + 1); omega


end Go.Proofs.Ytkgmilobmbeplaa
