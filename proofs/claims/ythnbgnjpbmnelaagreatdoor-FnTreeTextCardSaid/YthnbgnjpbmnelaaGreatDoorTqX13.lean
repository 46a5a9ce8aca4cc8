/- A part of the proof in YthnbgnjpbmnelaaGreatDoorTqX34. -/
import Derived.Laws.RangeAny
import Derived.Lib.IndexBytes
import Derived.Lib.IndexLaws
import Derived.Lib.Join
import Derived.Lib.Split
import Derived.Lib.SplitLaws
import Derived.Shelf.GgClosure.StringsIndexFunc
import Derived.Test.YthnbgnjpbmnelaaGreatDoorTqX12
namespace Go.Proofs.YthnbgnjpbmnelaaGreatDoor
open List (getD_eq_getElem?_getD length_cons length_map length_take map_cons mem_append mem_cons_of_mem mem_cons_self nil_append)
set_option linter.unusedVariables false
set_option linter.unusedSimpArgs false
set_option maxHeartbeats 1000000
set_option maxRecDepth 100000
open Go.RowKit Go.Lib
def splitL (c : UInt8) : List UInt8 → List (List UInt8)
 | [] => [[]]
 | b :: t => if b = c then [] :: splitL c t else match splitL c t with
  | h :: r => (b :: h) :: r
  | [] => [[b]]
theorem V7 (c : UInt8) (l : List UInt8) : ∃ h r, splitL c l = h :: r := by
 cases l with
 | nil => exact ⟨_, _, rfl⟩
 | cons b t =>
  unfold splitL
  split
  ·exact ⟨_, _, rfl⟩
  ·split
   ·exact ⟨_, _, rfl⟩
   ·exact ⟨_, _, rfl⟩
theorem Jk (c : UInt8) (t : List UInt8) : splitL c (c :: t) = [] :: splitL c t := by
 conv => lhs; unfold splitL
 rw [if_pos rfl]
theorem Qi {b c : UInt8} (t : List UInt8) (h : b ≠ c) {x : List UInt8} {r : List (List UInt8)} (hs : splitL c t = x :: r) : splitL c (b :: t) = (b :: x) :: r := by
 conv => lhs; unfold splitL
 rw [if_neg h, hs]
theorem QY (c : UInt8) : ∀ (l : List UInt8), (∀ x ∈ l, x ≠ c) → splitL c l = [l]
 | [], _ => rfl
 | b :: t, h => Qi t (h b (mem_cons_self ..)) (QY c t fun x hx => h x (mem_cons_of_mem _ hx))
theorem QO (c : UInt8) (b : List UInt8) : ∀ (a : List UInt8), (∀ x ∈ a, x ≠ c) → splitL c (a ++ c :: b) = a :: splitL c b
 | [], _ => Jk c b
 | x :: a, h => Qi _ (h x (mem_cons_self ..)) (QO c b a fun y hy => h y (mem_cons_of_mem _ hy))
theorem ZaF (c : UInt8) : ∀ (l : List UInt8), (splitL c l).length = l.count c + 1
 | [] => rfl
 | b :: t => by
  by_cases h : b = c
  ·subst h; rw [Jk, length_cons, ZaF b t, List.count_cons_self]
  ·obtain ⟨x, r, hs⟩ := V7 c t
   have := ZaF c t;rw [Qi t h hs, length_cons, List.count_cons_of_ne h];rw [hs, length_cons] at this; exact this
theorem ZcF (c : UInt8) : ∀ (l : List UInt8), Go.Lib.join (splitL c l) [c] = l
 | [] => rfl
 | b :: t => by
  obtain ⟨x, r, hs⟩ := V7 c t;have ih := ZcF c t;rw [hs, Go.Lib.join_cons] at ih
  by_cases h : b = c
  ·subst h
   rw [Jk, hs, Go.Lib.join_cons];simp only [Go.Lib.joinTail, map_cons, List.flatten_cons, nil_append, List.cons_append] at ih ⊢;rw [ih]
  ·rw [Qi t h hs, Go.Lib.join_cons, List.cons_append, ih]
def Ze (s : ByteArray) (c : UInt8) : List ByteArray := (splitL c s.data.toList).map fun l => ⟨l.toArray⟩
theorem Zdt (xs : List ByteArray) : (xs.map (·.data.toList)).map (fun l => (⟨l.toArray⟩ : ByteArray)) = xs := by
 rw [List.map_map]
 conv => rhs; rw [← List.map_id xs]
 exact List.map_congr_left fun x _ => by simp
theorem Qa (s : ByteArray) (c : UInt8) : (Ze s c).length = s.data.toList.count c + 1 := by unfold Ze; rw [length_map, ZaF]
def Z4 (s : ByteArray) (c : UInt8) : Nat → List ByteArray × Nat
 | 0 => ([], 0)
 | k + 1 => if s.get! k = c then ((Z4 s c k).1 ++ [s.extract (Z4 s c k).2 k], k + 1) else Z4 s c k
theorem V8 {s : ByteArray} {c : UInt8} {k : Nat} (h : s.get! k = c) : Z4 s c (k + 1) = ((Z4 s c k).1 ++ [s.extract (Z4 s c k).2 k], k + 1) := by
 conv => lhs; unfold Z4
 rw [if_pos h]
theorem U0 {s : ByteArray} {c : UInt8} {k : Nat} (h : s.get! k ≠ c) : Z4 s c (k + 1) = Z4 s c k := by
 conv => lhs; unfold Z4
 rw [if_neg h]
theorem Zbm (s : ByteArray) (c : UInt8) : ∀ k, (Z4 s c k).2 ≤ k
 | 0 => Nat.le_refl _
 | k + 1 => by
  by_cases h : s.get! k = c
  ·rw [V8 h]; exact Nat.le_refl _
  ·rw [U0 h]; exact Nat.le_succ_of_le (Zbm s c k)
theorem ZaG (s : ByteArray) (c : UInt8) : ∀ k, (Z4 s c k).1.length ≤ k
 | 0 => Nat.le_refl _
 | k + 1 => by
  by_cases h : s.get! k = c
  ·rw [V8 h]; simp; exact ZaG s c k
  ·rw [U0 h]; exact Nat.le_succ_of_le (ZaG s c k)
theorem QM {s : ByteArray} {k : Nat} (h : k < s.size) : s.data.toList[k]? = some (s.get! k) := by
 have hl := Zf s;rw [Zlr, getD_eq_getElem?_getD, List.getElem?_eq_getElem (by omega)]; rfl
theorem Zlx {s : ByteArray} {k : Nat} (h : k < s.size) : s.data.toList.drop k = s.get! k :: s.data.toList.drop (k + 1) := by
 have hl := Zf s;rw [List.drop_eq_getElem_cons (by omega)];rw [Option.some.inj ((List.getElem?_eq_getElem (show k < s.data.toList.length by omega)).symm.trans (QM h))]
theorem Zdu (s : ByteArray) (c : UInt8) : ∀ k, k ≤ s.size →
  splitL c s.data.toList = (Z4 s c k).1.map (·.data.toList) ++ splitL c (s.data.toList.drop (Z4 s c k).2) ∧ ∀ x ∈ (s.data.toList.drop (Z4 s c k).2).take (k - (Z4 s c k).2), x ≠ c
 | 0, _ => ⟨by simp [Z4], by simp⟩
 | k + 1, hk => by
  obtain ⟨h1, h2⟩ := Zdu s c k (by omega);have hle := Zbm s c k;have hl := Zf s;have hget := Zlx (s := s) (k := k) (by omega);have hsp : s.data.toList.drop (Z4 s c k).2 = (s.data.toList.drop (Z4 s c k).2).take (k - (Z4 s c k).2) ++ s.data.toList.drop k := by
   conv => lhs; rw [← List.take_append_drop (k - (Z4 s c k).2) (s.data.toList.drop (Z4 s c k).2)]
   rw [List.drop_drop, show (Z4 s c k).2 + (k - (Z4 s c k).2) = k by omega]
  by_cases h : s.get! k = c
  ·rw [V8 h]
   refine ⟨?_, by simp⟩;rw [h1, hsp, hget, h, QO c _ _ h2, List.map_append];simp only [map_cons, List.map_nil, Z8, List.append_assoc, List.cons_append, nil_append]
  ·rw [U0 h]
   refine ⟨h1, fun x hx => ?_⟩;rw [show k + 1 - (Z4 s c k).2 = (k - (Z4 s c k).2) + 1 by omega, List.take_add_one] at hx;rcases mem_append.1 hx with hx | hx
   ·exact h2 x hx
   ·rw [List.getElem?_drop, show (Z4 s c k).2 + (k - (Z4 s c k).2) = k by omega] at hx
    rw [QM (by omega)] at hx;obtain rfl : x = s.get! k := by simpa using hx
    exact h
def Zng (s : ByteArray) (c : UInt8) : List ByteArray := (Z4 s c s.size).1 ++ [s.extract (Z4 s c s.size).2 s.size]
theorem ZcG (s : ByteArray) (c : UInt8) : Zng s c = Ze s c := by
 obtain ⟨h1, h2⟩ := Zdu s c s.size (Nat.le_refl _);have hle := Zbm s c s.size;have hl := Zf s;have hall : (s.data.toList.drop (Z4 s c s.size).2).take (s.size - (Z4 s c s.size).2) = s.data.toList.drop (Z4 s c s.size).2 := List.take_of_length_le (by rw [List.length_drop]; omega);rw [hall] at h2;rw [QY c _ h2] at h1;unfold Ze Zng;rw [h1, List.map_append, Zdt]
 congr 1
 simp only [map_cons, List.map_nil]
 congr 1
 apply Yo
 rw [Z8, hall]
def Jc (b : UInt8) : Bool := decide (97 ≤ b.toNat) && decide (b.toNat ≤ 122)
def Yt (s : ByteArray) : Bool := inB (s.size : Int) 1 4 && s.data.toList.all Jc
theorem ZaH {s : ByteArray} {k : Nat} (h : k < s.size) : (s.data.toList.drop k).all Jc = (Jc (s.get! k) && (s.data.toList.drop (k + 1)).all Jc) := by rw [Zlx h, List.all_cons]
theorem ZjX {s : ByteArray} {k : Nat} (h : ¬ k < s.size) : (s.data.toList.drop k).all Jc = true := by
 have hl := Zf s;rw [List.drop_eq_nil_of_le (by omega)]; rfl
def Zdv (t : ByteArray) : Bool := decide ((Ze t 47).length ≤ 4) && (Ze t 47).all Yt
def ZG (s : ByteArray) : Bool := bif (s.toList == (⟨#[47]⟩ : ByteArray).toList) then true else (s.data.toList.head? == some 47 && Zdv (s.extract 1 s.size))
theorem Zly {s : ByteArray} (h : (s.toList == (⟨#[47]⟩ : ByteArray).toList) = true) : ZG s = true := by unfold ZG; rw [h]; rfl
theorem JA {s : ByteArray} (h : (s.toList == (⟨#[47]⟩ : ByteArray).toList) = false) (h2 : (s.data.toList.head? == some 47) = false) : ZG s = false := by unfold ZG; rw [h, h2]; rfl
theorem JB {s : ByteArray} (h : (s.toList == (⟨#[47]⟩ : ByteArray).toList) = false) (h2 : (s.data.toList.head? == some 47) = true) : ZG s = Zdv (s.extract 1 s.size) := by unfold ZG; rw [h, h2]; rfl
theorem ZeY {s : ByteArray} : (s.extract 1 s.size).size = s.size - 1 := by
 have h := Zf s;rw [Zf, Z8, length_take, List.length_drop, ← h]; omega
def okN (xs : List ByteArray) : Bool := decide (xs.length ≤ 4) && xs.all Yt
theorem ZeZ (t : ByteArray) : Zdv t = okN (Ze t 47) := rfl
theorem ZcH {s : ByteArray} (h : s.data.toList.head? = some 47) : Ze s 47 = ByteArray.empty :: Ze (s.extract 1 s.size) 47 := by
  have hl : s.data.toList = 47 :: s.data.toList.drop 1 := by
    cases hs : s.data.toList with
    | nil => rw [hs] at h; cases h
    | cons b t => rw [hs] at h; obtain rfl : b = 47 := by simpa using h
                  simp
  have hz := Zf s;have hx : (s.extract 1 s.size).data.toList = s.data.toList.drop 1 := by
    rw [Z8, List.take_of_length_le (by rw [List.length_drop]; omega)]
  unfold Ze;rw [hx]
  conv => lhs; rw [hl, Jk]
  rfl
theorem ZgS {s : ByteArray} (h : 0 < s.size) : (s.data.toList.head? == some 47) = ((((s.get! 0).toNat : Nat) : Int) == 47) := by
 have hz := Zf s;have hg := QM h;rw [List.head?_eq_getElem?, hg]
 by_cases hb : s.get! 0 = 47
 ·rw [hb]; rfl
 ·rw [beq_eq_false_iff_ne.2 (fun e => hb (Option.some.inj e))]
  symm
  rw [beq_eq_false_iff_ne];intro e;exact hb (UInt8.toNat_inj.1 (by show (s.get! 0).toNat = 47; omega))
theorem ZgT {s : ByteArray} (h : (s.toList == (⟨#[]⟩ : ByteArray).toList) = false) : 0 < s.size := by
 rcases Nat.eq_zero_or_pos s.size with h0 | h0
 ·have : s = ⟨#[]⟩ := by apply Yo; rw [Zf] at h0; exact List.length_eq_zero_iff.1 h0
  rw [this] at h; simp at h
 ·exact h0
theorem Zlz {s : ByteArray} (h : (s.toList == (⟨#[]⟩ : ByteArray).toList) = true) (hb : ∀ {a b : ByteArray}, (a.toList == b.toList) = true → a = b) : (s.data.toList.head? == some 47) = false := by
 rw [hb h]; rfl
theorem Jf (t : ByteArray) (c : UInt8) : Qz (Ze t c) ⟨#[c]⟩ = t := by
 apply Yo
 show Go.Lib.join ((Ze t c).map (·.data.toList)) [c] = _;unfold Ze;rw [List.map_map];have : ((fun x : ByteArray => x.data.toList) ∘ fun l : List UInt8 => (⟨l.toArray⟩ : ByteArray)) = id := by funext l; rfl
 rw [this, List.map_id, ZcF]
end Go.Proofs.YthnbgnjpbmnelaaGreatDoor
