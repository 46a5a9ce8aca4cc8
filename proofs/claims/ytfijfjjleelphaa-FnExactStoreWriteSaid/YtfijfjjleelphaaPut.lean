/- Rows written in place: laws. No program in sight. -/
import Derived.Test.YtfijfjjleelphaaStoreN
import Derived.BigRegion
namespace Go.Proofs.Ytfijfjjleelphaa
open Go.RowKit

theorem flat_setI (xs : List Int) (a : Nat) (r : Int) : (xs.flatMap encI).set a (.int .i64 r) = (xs.set a r).flatMap encI := by
  have h : ∀ l : List Int, l.flatMap encI = l.map (fun n => Value.int .i64 n) := fun l => by
    induction l with
    | nil => rfl
    | cons x r ih => rw [List.flatMap_cons, ih]; rfl
  rw [h, h, List.map_set]
theorem flat_setS (xs : List ByteArray) (a : Nat) (r : ByteArray) : (xs.flatMap encS).set a (.string r) = (xs.set a r).flatMap encS := by
  have h : ∀ l : List ByteArray, l.flatMap encS = l.map (fun n => Value.string n) := fun l => by
    induction l with
    | nil => rfl
    | cons x r ih => rw [List.flatMap_cons, ih]; rfl
  rw [h, h, List.map_set]
theorem RowO.open1 {α : Type} {enc : α → List Value} {size : Nat} {e : TypeId} {w : World} {B B1 : Nat} {ao : Option Addr} {cap : Nat} {xs : List α} (h : RowO enc size e w B B1 (.slice ao xs.length cap) xs) (hpos : 0 < xs.length) :
    ∃ g, ao = some ⟨g, 0, Option.none⟩ ∧ B ≤ g ∧ g < B1 ∧ g < w.heap.size ∧ Value.rowBlock (.slice ao xs.length cap) = some g ∧ w.ownsRow B e size (.slice (some ⟨g, 0, Option.none⟩) xs.length cap) xs.length (xs.flatMap enc) := by
  obtain ⟨ao', cap', hv, hc, hg⟩ := h
  simp only [Value.slice.injEq, true_and] at hv
  obtain ⟨rfl, rfl⟩ := hv
  rcases hc with ⟨_, hx⟩ | ho
  · rw [hx] at hpos; exact absurd hpos (Nat.lt_irrefl _)
  · obtain ⟨ao', cap', hv, hle, _, hb⟩ := owns_slice ho
    simp only [Value.slice.injEq, true_and] at hv
    obtain ⟨rfl, rfl⟩ := hv
    obtain ⟨g, rfl, h1, h2⟩ := hb hpos
    have hr : Value.rowBlock (.slice (some ⟨g, 0, Option.none⟩) xs.length cap) = some g := by rw [rowBlock_pos (by omega)]; rfl
    exact ⟨g, rfl, h1, hg g hr, h2, hr, ho⟩
theorem RowO.putI {e : TypeId} {w : World} {B B1 g cap : Nat} {xs : List Int} (ho : w.ownsRow B e 1 (.slice (some ⟨g, 0, Option.none⟩) xs.length cap) xs.length (xs.flatMap encI)) (hg : g < B1) (a : Nat) (r : Int) :
    RowO encI 1 e (w.setCell ⟨g, a, Option.none⟩ (.int .i64 r)) B B1 (.slice (some ⟨g, 0, Option.none⟩) xs.length cap) (xs.set a r) :=
  ⟨_, cap, by rw [List.length_set], .inr (by rw [List.length_set, ← flat_setI]; exact (ho.stored a _).1), fun g' h => by
    have := rowBlock_own h
    simp only [Value.ownBlock, Option.some.injEq] at this
    omega⟩
theorem RowO.putS {e : TypeId} {w : World} {B B1 g cap : Nat} {xs : List ByteArray} (ho : w.ownsRow B e 1 (.slice (some ⟨g, 0, Option.none⟩) xs.length cap) xs.length (xs.flatMap encS)) (hg : g < B1) (a : Nat) (r : ByteArray) :
    RowO encS 1 e (w.setCell ⟨g, a, Option.none⟩ (.string r)) B B1 (.slice (some ⟨g, 0, Option.none⟩) xs.length cap) (xs.set a r) :=
  ⟨_, cap, by rw [List.length_set], .inr (by rw [List.length_set, ← flat_setS]; exact (ho.stored a _).1), fun g' h => by
    have := rowBlock_own h
    simp only [Value.ownBlock, Option.some.injEq] at this
    omega⟩
theorem GrownAll.put {vs : List Value} {w w' : World} (h : GrownAll vs w w') {u : Value} {g : Nat} (hu : u ∈ vs) (hg : Value.rowBlock u = some g) (a : Nat) (x : Value) : GrownAll vs w (w'.setCell ⟨g, a, none⟩ x) :=
  ⟨h.os, h.tape, h.output, by rw [sz_set]; exact h.size, fun k hk hne => ((Below.heap_setCell w' ⟨g, a, none⟩ x k (fun e => hne u hu (by rw [hg, e]))).trans (h.block k hk hne))⟩

theorem grown_set (w : World) (p : Addr) (u : Value) : w.grownBy (w.setCell p u) (some p.block) :=
  ⟨rfl, rfl, rfl, by rw [sz_set]; exact Nat.le_refl _, fun k hk hne => Below.heap_setCell w p u k (fun e => hne (by rw [e]))⟩
theorem RowO.setO {α : Type} {enc : α → List Value} {size : Nat} {e : TypeId} {w : World} {B B1 : Nat} {v : Value} {xs : List α} (h : RowO enc size e w B B1 v xs) {p : Addr} (hne : ∀ g, Value.rowBlock v = some g → g ≠ p.block) (u : Value) : RowO enc size e (w.setCell p u) B B1 v xs :=
  h.grown (grown_set w p u) (by
    cases hr : Value.rowBlock v with
    | none => exact .inl rfl
    | some g => exact .inr (fun e => hne g hr (Option.some.inj e)))
theorem GrownAll.setNew {vs : List Value} {w w' : World} (h : GrownAll vs w w') {p : Addr} (hp : w.heap.size ≤ p.block) (u : Value) : GrownAll vs w (w'.setCell p u) :=
  ⟨h.os, h.tape, h.output, by rw [sz_set]; exact h.size, fun k hk hne => (Below.heap_setCell w' p u k (by omega)).trans (h.block k hk hne)⟩

theorem RowO.cellI {e : TypeId} {w : World} {B B1 g n cap : Nat} {xs : List Int} (h : RowO encI 1 e w B B1 (.slice (some ⟨g, 0, Option.none⟩) n cap) xs) {a : Nat} {x : Int} (hx : xs[a]? = some x) : w.cell? ⟨g, a, Option.none⟩ = some (.int .i64 x) := by
  obtain ⟨hr, _⟩ := h.copy encI_len
  obtain ⟨b, off, y, hy, e, _, hrg⟩ := hr.at_ a (List.getElem?_eq_some_iff.1 hx).1
  simp only [Option.some.injEq, Addr.mk.injEq, and_true] at e
  obtain ⟨rfl, rfl⟩ := e
  obtain rfl := Option.some.inj (hy.symm.trans hx)
  have := hrg 0 _ rfl
  simpa using this
theorem RowO.cellS {e : TypeId} {w : World} {B B1 g n cap : Nat} {xs : List ByteArray} (h : RowO encS 1 e w B B1 (.slice (some ⟨g, 0, Option.none⟩) n cap) xs) {a : Nat} {x : ByteArray} (hx : xs[a]? = some x) : w.cell? ⟨g, a, Option.none⟩ = some (.string x) := by
  obtain ⟨hr, _⟩ := h.copy encS_len
  obtain ⟨b, off, y, hy, e, _, hrg⟩ := hr.at_ a (List.getElem?_eq_some_iff.1 hx).1
  simp only [Option.some.injEq, Addr.mk.injEq, and_true] at e
  obtain ⟨rfl, rfl⟩ := e
  obtain rfl := Option.some.inj (hy.symm.trans hx)
  have := hrg 0 _ rfl
  simpa using this
def StoreD.zero : StoreD := { fRows := [], fSpace := { fRefs := [], fLast := [] }, fTxg := 0, fGone := [], fKeep := 0, fDead := [], fSame := false }
theorem own_zero (w : World) (B B1 : Nat) : StoreD.Own w B B1 (.agg #[.slice none 0 0, .slice none 0 0, .slice none 0 0, .int .i64 0, .slice none 0 0, .int .i64 0, .slice none 0 0, .bool false]) StoreD.zero :=
  ⟨none, 0, none, 0, none, 0, none, 0, none, 0, rfl, RowO.empty _ _ _ _ _ _ _, RowO.empty _ _ _ _ _ _ _, RowO.empty _ _ _ _ _ _ _, RowO.empty _ _ _ _ _ _ _, RowO.empty _ _ _ _ _ _ _, .inl rfl, .inl rfl, .inl rfl, .inl rfl, .inl rfl, .inl rfl, .inl rfl, .inl rfl, .inl rfl, .inl rfl⟩
theorem apart_nil (a : Value) (ao : Option Addr) : Apart a (.slice ao 0 0) := by
  unfold Apart
  rw [rowBlock_zero]
  cases Value.rowBlock a with
  | none => exact .inl rfl
  | some g => exact .inr (by simp)
end Go.Proofs.Ytfijfjjleelphaa
