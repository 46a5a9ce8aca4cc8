/- A part of the proof in YtigjfacaofgjjaaGreatDoorFlZ32. -/
import Derived.Lib.Bytealg
import Derived.Test.YtigjfacaofgjjaaGreatDoorFlZ21
namespace Go.Proofs.YtigjfacaofgjjaaGreatDoor
set_option linter.unusedVariables false
set_option linter.unusedSimpArgs false
set_option maxHeartbeats 1000000
set_option maxRecDepth 100000
open Go.RowKit
theorem Zem : ∀ a : List UInt8, Op.bytesLess a a = false
  | [] => rfl
  | x :: a => by
    unfold Op.bytesLess;rw [Zem a]
    simp
theorem Uw : ∀ {a b c : List UInt8}, Op.bytesLess a b = true → Op.bytesLess b c = true → Op.bytesLess a c = true
  | _, y, [], _, h2 => by cases y <;> cases h2
  | x, [], _ :: _, h1, _ => by cases x <;> cases h1
  | [], _ :: _, _ :: _, _, _ => rfl
  | x :: a, y :: b, z :: c, h1, h2 => by
    unfold Op.bytesLess at h1 h2 ⊢;simp only [Bool.or_eq_true, Bool.and_eq_true, decide_eq_true_eq, beq_iff_eq] at h1 h2 ⊢;rcases h1 with h1 | ⟨h1, h3⟩
    · rcases h2 with h2 | ⟨h2, h4⟩
      · exact .inl (UInt8.lt_trans h1 h2)
      · exact .inl (h2 ▸ h1)
    · rcases h2 with h2 | ⟨h2, h4⟩
      · exact .inl (h1 ▸ h2)
      · exact .inr ⟨h1.trans h2, Uw h3 h4⟩
theorem Zen : ∀ (a b : List UInt8), (decide (Go.Lib.compareBytes a b < 0)) = Op.bytesLess a b
  | [], [] => rfl
  | [], _ :: _ => rfl
  | _ :: _, [] => rfl
  | x :: a, y :: b => by
    unfold Go.Lib.compareBytes Op.bytesLess;have ih := Zen a b
    by_cases h : x < y
    · rw [if_pos h]; simp [h]
    · rw [if_neg h]
      by_cases h2 : y < x
      · rw [if_pos h2]
        have : ¬ x = y := fun e => by subst e; exact UInt8.lt_irrefl x h2
        simp [h, this]
      · rw [if_neg h2, ih]
        have : x = y := UInt8.le_antisymm (UInt8.not_lt.1 h2) (UInt8.not_lt.1 h);simp [h, this]
theorem ZhZ : ∀ {a b : List UInt8}, Go.Lib.compareBytes a b = 0 → a = b
  | [], [], _ => rfl
  | [], _ :: _, h => by unfold Go.Lib.compareBytes at h; cases h
  | _ :: _, [], h => by unfold Go.Lib.compareBytes at h; cases h
  | x :: a, y :: b, h => by
    unfold Go.Lib.compareBytes at h
    by_cases h1 : x < y
    · rw [if_pos h1] at h; cases h
    · rw [if_neg h1] at h
      by_cases h2 : y < x
      · rw [if_pos h2] at h; cases h
      · rw [if_neg h2] at h
        have e : x = y := UInt8.le_antisymm (UInt8.not_lt.1 h2) (UInt8.not_lt.1 h1);rw [e, ZhZ h]
theorem Zh0 : ∀ (a : List UInt8), Go.Lib.compareBytes a a = 0
  | [] => rfl
  | x :: a => by
    unfold Go.Lib.compareBytes;rw [if_neg (UInt8.lt_irrefl x), if_neg (UInt8.lt_irrefl x)]; exact Zh0 a
theorem J9 {l : List Zb} (h : Z4 l = true) : ∀ {j i : Nat}, i < j → j < l.length → Op.bytesLess (l.getD i Zb.zero).fName.toList (l.getD j Zb.zero).fName.toList = true
  | 0, i, hi, _ => absurd hi (Nat.not_lt_zero _)
  | j + 1, i, hi, hj => by
    have h1 := (ZhO ((YM h).1 (j + 1) hj)).2.2.2;have h1 := h1.resolve_left (Nat.succ_ne_zero j);rw [Nat.add_sub_cancel] at h1
    by_cases e : i = j
    · rw [e]; exact h1
    · exact Uw (J9 h (show i < j by omega) (by omega)) h1
def Znn (l : List Zb) (s : ByteArray) (o : Option Nat) : Prop := match o with
  | some i => i < l.length ∧ (l.getD i Zb.zero).fName = s
  | none => ∀ i, i < l.length → (l.getD i Zb.zero).fName ≠ s
theorem Zmj {l : List Zb} (h : Z4 l = true) {s : ByteArray} {o o' : Option Nat} (h1 : Znn l s o) (h2 : Znn l s o') : o = o' := by
  cases o with
  | none =>
    cases o' with
    | none => rfl
    | some j => exact absurd h2.2 (h1 j h2.1)
  | some i =>
    cases o' with
    | none => exact absurd h1.2 (h2 i h1.1)
    | some j =>
      have hne : ∀ {a b : Nat}, a < b → b < l.length → (l.getD a Zb.zero).fName = s → (l.getD b Zb.zero).fName = s → False := fun {a b} hab hb ha hb2 => by
        have := J9 h hab hb;rw [ha, hb2, Zem] at this; cases this
      rcases Nat.lt_trichotomy i j with hij | hij | hij
      · exact (hne hij h2.1 h1.2 h2.2).elim
      · rw [hij]
      · exact (hne hij h1.1 h2.2 h1.2).elim
open Classical in
noncomputable def entIx (l : List Zb) (s : ByteArray) : Option Nat := if h : ∃ i, i < l.length ∧ (l.getD i Zb.zero).fName = s then some (Classical.choose h) else none
theorem Zbh (l : List Zb) (s : ByteArray) : Znn l s (entIx l s) := by
  unfold entIx
  split
  · rename_i h
    exact Classical.choose_spec h
  · rename_i h
    exact fun i hi e => h ⟨i, hi, e⟩
theorem Vh {l : List Zb} (h : Z4 l = true) {s : ByteArray} {o : Option Nat} (h1 : Znn l s o) : entIx l s = o := Zmj h (Zbh l s) h1
structure Qu (l : List Zb) (s : ByteArray) (lo hi : Nat) : Prop where
  le : lo ≤ hi
  top : hi ≤ l.length
  low : ∀ i, i < lo → Op.bytesLess (l.getD i Zb.zero).fName.toList s.toList = true
  high : ∀ i, hi ≤ i → i < l.length → Op.bytesLess (l.getD i Zb.zero).fName.toList s.toList = false
theorem Qu.start (l : List Zb) (s : ByteArray) : Qu l s 0 l.length := ⟨Nat.zero_le _, Nat.le_refl _, fun i hi => absurd hi (Nat.not_lt_zero _), fun i h1 h2 => absurd h2 (by omega)⟩
theorem Qu.up {l : List Zb} {s : ByteArray} {lo hi m : Nat} (h : Qu l s lo hi) (ho : Z4 l = true) (hm : lo ≤ m) (hm2 : m < hi) (hl : Op.bytesLess (l.getD m Zb.zero).fName.toList s.toList = true) : Qu l s (m + 1) hi :=
  ⟨by omega, h.top, fun i hi2 => by
    by_cases e : i = m
    · rw [e]; exact hl
    · exact Uw (J9 ho (show i < m by omega) (by have := h.top; omega)) hl, h.high⟩
theorem Qu.down {l : List Zb} {s : ByteArray} {lo hi m : Nat} (h : Qu l s lo hi) (ho : Z4 l = true) (hm : lo ≤ m) (hm2 : m < hi) (hl : Op.bytesLess (l.getD m Zb.zero).fName.toList s.toList = false) : Qu l s lo m :=
  ⟨hm, by have := h.top; omega, h.low, fun i h1 h2 => by
    by_cases e : i = m
    · rw [e]; exact hl
    · cases hq : Op.bytesLess (l.getD i Zb.zero).fName.toList s.toList with
      | false => rfl
      | true =>
        have := Uw (J9 ho (show m < i by omega) h2) hq;rw [hl] at this; cases this⟩
theorem Qu.none {l : List Zb} {s : ByteArray} {k : Nat} (h : Qu l s k k) (ho : Z4 l = true) (hn : k < l.length → (l.getD k Zb.zero).fName ≠ s) : entIx l s = .none := by
  refine Vh ho fun i hi e => ?_;rcases Nat.lt_trichotomy i k with hik | hik | hik
  · have := h.low i hik
    rw [e, Zem] at this; cases this
  · subst hik; exact hn hi e
  · have h1 := h.high k (Nat.le_refl _) (by omega)
    have h2 := J9 ho hik hi;rw [e] at h2;rw [h1] at h2; cases h2
theorem Qu.some {l : List Zb} {s : ByteArray} {k : Nat} (ho : Z4 l = true) (hk : k < l.length) (hn : (l.getD k Zb.zero).fName = s) : entIx l s = .some k := Vh ho ⟨hk, hn⟩
theorem Qu.fin {l : List Zb} {s : ByteArray} {k : Nat} (h : Qu l s k k) (ho : Z4 l = true) (hk : k < l.length) : (Go.Lib.compareBytes (l.getD k Zb.zero).fName.data.toList s.data.toList == 0) = (entIx l s).isSome ∧ ∀ j, entIx l s = .some j → k = j := by
  by_cases e : (l.getD k Zb.zero).fName = s
  · rw [Qu.some ho hk e, e, Zh0]
    exact ⟨rfl, fun j hj => Option.some.inj hj⟩
  · rw [h.none ho fun _ => e]
    refine ⟨?_, fun j hj => by cases hj⟩;refine beq_eq_false_iff_ne.2 fun h0 => e ?_;have := ZhZ h0;exact ByteArray.ext (Array.toList_inj.1 this)
theorem Qu.out {l : List Zb} {s : ByteArray} {k : Nat} (h : Qu l s k k) (ho : Z4 l = true) (hk : ¬ k < l.length) : entIx l s = .none := h.none ho fun h2 => absurd h2 hk
noncomputable def Xm (st : Za) (ns : List (Option Zc)) : List ByteArray → Nat → Option Nat
  | [], k => some k
  | s :: r, k => match entIx (ZK st ns k) s with
    | none => none
    | some i => Xm st ns r ((ZK st ns k).getD i Zb.zero).fId.toNat
theorem ZfV (st : Za) (ns : List (Option Zc)) (k : Nat) : Xm st ns [] k = some k := rfl
theorem Zbi {st : Za} {ns : List (Option Zc)} {s : ByteArray} {r : List ByteArray} {k : Nat} (h : entIx (ZK st ns k) s = none) : Xm st ns (s :: r) k = none := by unfold Xm; rw [h]
theorem Zb8 {st : Za} {ns : List (Option Zc)} {s : ByteArray} {r : List ByteArray} {k i : Nat} (h : entIx (ZK st ns k) s = some i) : Xm st ns (s :: r) k = Xm st ns r ((ZK st ns k).getD i Zb.zero).fId.toNat := by
  conv => lhs; unfold Xm
  rw [h]
open Go.RowKit
def Zq.give (s : Zq) (a : Nat) : Zq := { fRefs := s.fRefs.set a (s.fRefs.getD a 0 - 1), fLast := if s.fRefs.getD a 0 - 1 = 0 then s.fLast.set a 0 else s.fLast }
def Za.drop (st : Za) (a : Nat) : Za := { st with fSpace := st.fSpace.give a, fRows := if st.fSpace.fRefs.getD a 0 - 1 = 0 then st.fRows.set a ByteArray.empty else st.fRows }
def Za.drops (st : Za) (ps : List PtrD) : Za := ps.foldl (fun st p => st.drop p.fAt.toNat) st
def Za.next (st : Za) : Za := { st.drops st.fGone with fGone := [], fTxg := st.fTxg + 1 }
end Go.Proofs.YtigjfacaofgjjaaGreatDoor
