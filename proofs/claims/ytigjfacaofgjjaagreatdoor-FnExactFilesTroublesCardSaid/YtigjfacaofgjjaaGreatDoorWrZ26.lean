/- A part of the proof in YtigjfacaofgjjaaGreatDoorWrZ33. -/
import Derived.Lib.Bytealg
import Derived.Test.YtigjfacaofgjjaaGreatDoorWrZ25
namespace Go.Proofs.YtigjfacaofgjjaaGreatDoor
set_option linter.unusedVariables false
set_option linter.unusedSimpArgs false
set_option maxHeartbeats 1000000
set_option maxRecDepth 100000
open Go.RowKit
theorem ZeC : ∀ a : List UInt8, Op.bytesLess a a = false
  | [] => rfl
  | x :: a => by
    unfold Op.bytesLess;rw [ZeC a]
    simp
theorem ZeD : ∀ {a b c : List UInt8}, Op.bytesLess a b = true → Op.bytesLess b c = true → Op.bytesLess a c = true
  | _, y, [], _, h2 => by cases y <;> cases h2
  | x, [], _ :: _, h1, _ => by cases x <;> cases h1
  | [], _ :: _, _ :: _, _, _ => rfl
  | x :: a, y :: b, z :: c, h1, h2 => by
    unfold Op.bytesLess at h1 h2 ⊢;simp only [Bool.or_eq_true, Bool.and_eq_true, decide_eq_true_eq, beq_iff_eq] at h1 h2 ⊢;rcases h1 with h1 | ⟨h1, h3⟩
    · rcases h2 with h2 | ⟨h2, h4⟩
      · exact .inl (UInt8.lt_trans h1 h2)
      · exact .inl (h2 ▸ h1)
    · rcases h2 with h2 | ⟨h2, h4⟩
      · exact .inl (h1 ▸ h2)
      · exact .inr ⟨h1.trans h2, ZeD h3 h4⟩
theorem Zcc {l : List Za} (h : YE l = true) : ∀ {j i : Nat}, i < j → j < l.length → Op.bytesLess (l.getD i Za.zero).fName.toList (l.getD j Za.zero).fName.toList = true
  | 0, i, hi, _ => absurd hi (Nat.not_lt_zero _)
  | j + 1, i, hi, hj => by
    have h1 := (Zhd ((Qu h).1 (j + 1) hj)).2.2.2;have h1 := h1.resolve_left (Nat.succ_ne_zero j);rw [Nat.add_sub_cancel] at h1
    by_cases e : i = j
    · rw [e]; exact h1
    · exact ZeD (Zcc h (show i < j by omega) (by omega)) h1
def ZmR (l : List Za) (s : ByteArray) (o : Option Nat) : Prop := match o with
  | some i => i < l.length ∧ (l.getD i Za.zero).fName = s
  | none => ∀ i, i < l.length → (l.getD i Za.zero).fName ≠ s
theorem ZlQ {l : List Za} (h : YE l = true) {s : ByteArray} {o o' : Option Nat} (h1 : ZmR l s o) (h2 : ZmR l s o') : o = o' := by
  cases o with
  | none =>
    cases o' with
    | none => rfl
    | some j => exact absurd h2.2 (h1 j h2.1)
  | some i =>
    cases o' with
    | none => exact absurd h1.2 (h2 i h1.1)
    | some j =>
      have hne : ∀ {a b : Nat}, a < b → b < l.length → (l.getD a Za.zero).fName = s → (l.getD b Za.zero).fName = s → False := fun {a b} hab hb ha hb2 => by
        have := Zcc h hab hb;rw [ha, hb2, ZeC] at this; cases this
      rcases Nat.lt_trichotomy i j with hij | hij | hij
      · exact (hne hij h2.1 h1.2 h2.2).elim
      · rw [hij]
      · exact (hne hij h1.1 h2.2 h1.2).elim
open Classical in
noncomputable def ZfQ (l : List Za) (s : ByteArray) : Option Nat := if h : ∃ i, i < l.length ∧ (l.getD i Za.zero).fName = s then some (Classical.choose h) else none
theorem ZlR (l : List Za) (s : ByteArray) : ZmR l s (ZfQ l s) := by
  unfold ZfQ
  split
  · rename_i h
    exact Classical.choose_spec h
  · rename_i h
    exact fun i hi e => h ⟨i, hi, e⟩
theorem ZhQ {l : List Za} (h : YE l = true) {s : ByteArray} {o : Option Nat} (h1 : ZmR l s o) : ZfQ l s = o := ZlQ h (ZlR l s) h1
structure ZeE (l : List Za) (s : ByteArray) (lo hi : Nat) : Prop where
  le : lo ≤ hi
  top : hi ≤ l.length
  low : ∀ i, i < lo → Op.bytesLess (l.getD i Za.zero).fName.toList s.toList = true
  high : ∀ i, hi ≤ i → i < l.length → Op.bytesLess (l.getD i Za.zero).fName.toList s.toList = false
theorem ZeE.start (l : List Za) (s : ByteArray) : ZeE l s 0 l.length := ⟨Nat.zero_le _, Nat.le_refl _, fun i hi => absurd hi (Nat.not_lt_zero _), fun i h1 h2 => absurd h2 (by omega)⟩
theorem ZeE.none {l : List Za} {s : ByteArray} {k : Nat} (h : ZeE l s k k) (ho : YE l = true) (hn : k < l.length → (l.getD k Za.zero).fName ≠ s) : ZfQ l s = .none := by
  refine ZhQ ho fun i hi e => ?_;rcases Nat.lt_trichotomy i k with hik | hik | hik
  · have := h.low i hik
    rw [e, ZeC] at this; cases this
  · subst hik; exact hn hi e
  · have h1 := h.high k (Nat.le_refl _) (by omega)
    have h2 := Zcc ho hik hi;rw [e] at h2;rw [h1] at h2; cases h2
theorem ZeE.some {l : List Za} {s : ByteArray} {k : Nat} (ho : YE l = true) (hk : k < l.length) (hn : (l.getD k Za.zero).fName = s) : ZfQ l s = .some k := ZhQ ho ⟨hk, hn⟩
theorem ZeE.out {l : List Za} {s : ByteArray} {k : Nat} (h : ZeE l s k k) (ho : YE l = true) (hk : ¬ k < l.length) : ZfQ l s = .none := h.none ho fun h2 => absurd h2 hk
end Go.Proofs.YtigjfacaofgjjaaGreatDoor
