/- A part of the proof in YtfhdmfcfcgbgeaaGreatDoorNpX34. -/
import Derived.Laws.RangeAny
import Derived.Lib.IndexBytes
import Derived.Lib.IndexLaws
import Derived.Lib.Join
import Derived.Lib.Split
import Derived.Lib.SplitLaws
import Derived.Shelf.GgClosure.StringsIndexFunc
import Derived.Test.YtfhdmfcfcgbgeaaGreatDoorNpX12
namespace Go.Proofs.YtfhdmfcfcgbgeaaGreatDoor
open List (getD_eq_getElem?_getD length_cons length_map length_nil length_take map_cons mem_append mem_cons_of_mem mem_cons_self nil_append)
set_option linter.unusedVariables false
set_option linter.unusedSimpArgs false
set_option maxHeartbeats 1000000
set_option maxRecDepth 100000
open Go.RowKit Go.Lib
def splitL (c : UInt8) : List UInt8 → List (List UInt8)
 | [] => [[]]
 | b :: t => if b = c then [] :: splitL c t else match splitL c t with
  | h :: r => (b :: h) :: r
  | [] => [[b]]
theorem Zam (c : UInt8) (l : List UInt8) : ∃ h r, splitL c l = h :: r := by
 cases l with
 | nil => exact ⟨_, _, rfl⟩
 | cons b t =>
  unfold splitL
  split
  ·exact ⟨_, _, rfl⟩
  ·split
   ·exact ⟨_, _, rfl⟩
   ·exact ⟨_, _, rfl⟩
theorem QZ (c : UInt8) (t : List UInt8) : splitL c (c :: t) = [] :: splitL c t := by
 conv => lhs; unfold splitL
 rw [if_pos rfl]
theorem Xz {b c : UInt8} (t : List UInt8) (h : b ≠ c) {x : List UInt8} {r : List (List UInt8)} (hs : splitL c t = x :: r) : splitL c (b :: t) = (b :: x) :: r := by
 conv => lhs; unfold splitL
 rw [if_neg h, hs]
theorem Jf (c : UInt8) : ∀ (l : List UInt8), (∀ x ∈ l, x ≠ c) → splitL c l = [l]
 | [], _ => rfl
 | b :: t, h => Xz t (h b (mem_cons_self ..)) (Jf c t fun x hx => h x (mem_cons_of_mem _ hx))
theorem Q0 (c : UInt8) (b : List UInt8) : ∀ (a : List UInt8), (∀ x ∈ a, x ≠ c) → splitL c (a ++ c :: b) = a :: splitL c b
 | [], _ => QZ c b
 | x :: a, h => Xz _ (h x (mem_cons_self ..)) (Q0 c b a fun y hy => h y (mem_cons_of_mem _ hy))
theorem ZaR (c : UInt8) : ∀ (l : List UInt8), (splitL c l).length = l.count c + 1
 | [] => rfl
 | b :: t => by
  by_cases h : b = c
  ·subst h; rw [QZ, length_cons, ZaR b t, List.count_cons_self]
  ·obtain ⟨x, r, hs⟩ := Zam c t
   have := ZaR c t;rw [Xz t h hs, length_cons, List.count_cons_of_ne h];rw [hs, length_cons] at this; exact this
theorem ZcS (c : UInt8) : ∀ (l : List UInt8), Go.Lib.join (splitL c l) [c] = l
 | [] => rfl
 | b :: t => by
  obtain ⟨x, r, hs⟩ := Zam c t;have ih := ZcS c t;rw [hs, Go.Lib.join_cons] at ih
  by_cases h : b = c
  ·subst h
   rw [QZ, hs, Go.Lib.join_cons];simp only [Go.Lib.joinTail, map_cons, List.flatten_cons, nil_append, List.cons_append] at ih ⊢;rw [ih]
  ·rw [Xz t h hs, Go.Lib.join_cons, List.cons_append, ih]
theorem ZdF (c : UInt8) : ∀ (l : List UInt8), Go.Lib.splitK [c] 0 (Go.Lib.count l [c]) l = splitL c l
 | [] => by
  rw [show Go.Lib.count [] [c] = 0 from Go.Lib.count_one c []]; rfl
 | b :: t => by
  have ih := ZdF c t
  by_cases h : b = c
  ·subst h
   rw [Go.Lib.count_cons_eq, Nat.add_comm, QZ];unfold Go.Lib.splitK;have h0 : Go.Lib.index (b :: t) [b] = 0 := by unfold Go.Lib.index; simp
   rw [h0];simp only [show ((0 : Int) == -1) = false from rfl, Bool.false_eq_true, if_false, Int.toNat_zero, Nat.zero_add, List.take_zero, length_cons, length_nil, List.drop_succ_cons, List.drop_zero];rw [ih]
  ·rw [Go.Lib.count_cons_ne b c t h]
   cases hk : Go.Lib.count t [c] with
   | zero =>
    rw [hk] at ih;have h1 : splitL c t = [t] := by rw [← ih]; rfl
    rw [Xz t h h1]; rfl
   | succ k =>
    rw [hk] at ih;unfold Go.Lib.splitK at ih ⊢;have hi : Go.Lib.index (b :: t) [c] = if Go.Lib.index t [c] == -1 then -1 else Go.Lib.index t [c] + 1 := by
     conv => lhs; unfold Go.Lib.index
     rw [if_neg (by simp [List.isPrefixOf]; exact fun e => h e.symm)]
    have hge := Go.Lib.index_ge t [c]
    cases hm : (Go.Lib.index t [c] == -1) with
    | true =>
     have := Go.Lib.count_miss (beq_iff_eq.1 hm)
     omega
    | false =>
     rw [hm] at ih hi;simp only [Bool.false_eq_true, if_false] at ih hi;have hne : Go.Lib.index t [c] ≠ -1 := by simpa using hm
     obtain ⟨i, he⟩ : ∃ i : Nat, Go.Lib.index t [c] = i := ⟨(Go.Lib.index t [c]).toNat, by omega⟩;rw [he] at ih hi;rw [hi];rw [show ((((i : Nat) : Int) + 1) == -1) = false by simp; omega];simp only [Bool.false_eq_true, if_false];rw [show (((i : Nat) : Int) + 1).toNat = i + 1 by omega];rw [Int.toNat_natCast] at ih;rw [Xz t h ih.symm];simp [List.take_succ_cons, List.drop_succ_cons]
def Zd (s : ByteArray) (c : UInt8) : List ByteArray := (splitL c s.data.toList).map fun l => ⟨l.toArray⟩
theorem ZbA (xs : List ByteArray) : (xs.map (·.data.toList)).map (fun l => (⟨l.toArray⟩ : ByteArray)) = xs := by
 rw [List.map_map]
 conv => rhs; rw [← List.map_id xs]
 exact List.map_congr_left fun x _ => by simp
theorem ZaF (s : ByteArray) (c : UInt8) : Go.Lib.splitB ⟨#[c]⟩ 0 (Go.Lib.countB s ⟨#[c]⟩) s = Zd s c := by
 have h := Go.Lib.splitB_data (⟨#[c]⟩ : ByteArray) 0 (Go.Lib.countB s ⟨#[c]⟩) s;have h2 : Go.Lib.splitK [c] 0 (Go.Lib.countB s ⟨#[c]⟩) s.data.toList = splitL c s.data.toList := ZdF c _;rw [← ZbA (Go.Lib.splitB _ _ _ _), h];show (Go.Lib.splitK [c] 0 (Go.Lib.countB s ⟨#[c]⟩) s.data.toList).map _ = _;rw [h2]; rfl
theorem XW (s : ByteArray) (c : UInt8) : (Zd s c).length = s.data.toList.count c + 1 := by unfold Zd; rw [length_map, ZaR]
def Z7 (s : ByteArray) (c : UInt8) : Nat → List ByteArray × Nat
 | 0 => ([], 0)
 | k + 1 => if s.get! k = c then ((Z7 s c k).1 ++ [s.extract (Z7 s c k).2 k], k + 1) else Z7 s c k
theorem Zan {s : ByteArray} {c : UInt8} {k : Nat} (h : s.get! k = c) : Z7 s c (k + 1) = ((Z7 s c k).1 ++ [s.extract (Z7 s c k).2 k], k + 1) := by
 conv => lhs; unfold Z7
 rw [if_pos h]
theorem Ve {s : ByteArray} {c : UInt8} {k : Nat} (h : s.get! k ≠ c) : Z7 s c (k + 1) = Z7 s c k := by
 conv => lhs; unfold Z7
 rw [if_neg h]
theorem ZbB (s : ByteArray) (c : UInt8) : ∀ k, (Z7 s c k).2 ≤ k
 | 0 => Nat.le_refl _
 | k + 1 => by
  by_cases h : s.get! k = c
  ·rw [Zan h]; exact Nat.le_refl _
  ·rw [Ve h]; exact Nat.le_succ_of_le (ZbB s c k)
theorem ZaS (s : ByteArray) (c : UInt8) : ∀ k, (Z7 s c k).1.length ≤ k
 | 0 => Nat.le_refl _
 | k + 1 => by
  by_cases h : s.get! k = c
  ·rw [Zan h]; simp; exact ZaS s c k
  ·rw [Ve h]; exact Nat.le_succ_of_le (ZaS s c k)
theorem QY {s : ByteArray} {k : Nat} (h : k < s.size) : s.data.toList[k]? = some (s.get! k) := by
 have hl := Zh s;rw [Zlv, getD_eq_getElem?_getD, List.getElem?_eq_getElem (by omega)]; rfl
theorem ZlB {s : ByteArray} {k : Nat} (h : k < s.size) : s.data.toList.drop k = s.get! k :: s.data.toList.drop (k + 1) := by
 have hl := Zh s;rw [List.drop_eq_getElem_cons (by omega)];rw [Option.some.inj ((List.getElem?_eq_getElem (show k < s.data.toList.length by omega)).symm.trans (QY h))]
theorem ZdG (s : ByteArray) (c : UInt8) : ∀ k, k ≤ s.size →
  splitL c s.data.toList = (Z7 s c k).1.map (·.data.toList) ++ splitL c (s.data.toList.drop (Z7 s c k).2) ∧ ∀ x ∈ (s.data.toList.drop (Z7 s c k).2).take (k - (Z7 s c k).2), x ≠ c
 | 0, _ => ⟨by simp [Z7], by simp⟩
 | k + 1, hk => by
  obtain ⟨h1, h2⟩ := ZdG s c k (by omega);have hle := ZbB s c k;have hl := Zh s;have hget := ZlB (s := s) (k := k) (by omega);have hsp : s.data.toList.drop (Z7 s c k).2 = (s.data.toList.drop (Z7 s c k).2).take (k - (Z7 s c k).2) ++ s.data.toList.drop k := by
   conv => lhs; rw [← List.take_append_drop (k - (Z7 s c k).2) (s.data.toList.drop (Z7 s c k).2)]
   rw [List.drop_drop, show (Z7 s c k).2 + (k - (Z7 s c k).2) = k by omega]
  by_cases h : s.get! k = c
  ·rw [Zan h]
   refine ⟨?_, by simp⟩;rw [h1, hsp, hget, h, Q0 c _ _ h2, List.map_append];simp only [map_cons, List.map_nil, Yd, List.append_assoc, List.cons_append, nil_append]
  ·rw [Ve h]
   refine ⟨h1, fun x hx => ?_⟩;rw [show k + 1 - (Z7 s c k).2 = (k - (Z7 s c k).2) + 1 by omega, List.take_add_one] at hx;rcases mem_append.1 hx with hx | hx
   ·exact h2 x hx
   ·rw [List.getElem?_drop, show (Z7 s c k).2 + (k - (Z7 s c k).2) = k by omega] at hx
    rw [QY (by omega)] at hx;obtain rfl : x = s.get! k := by simpa using hx
    exact h
def Znf (s : ByteArray) (c : UInt8) : List ByteArray := (Z7 s c s.size).1 ++ [s.extract (Z7 s c s.size).2 s.size]
theorem ZcT (s : ByteArray) (c : UInt8) : Znf s c = Zd s c := by
 obtain ⟨h1, h2⟩ := ZdG s c s.size (Nat.le_refl _);have hle := ZbB s c s.size;have hl := Zh s;have hall : (s.data.toList.drop (Z7 s c s.size).2).take (s.size - (Z7 s c s.size).2) = s.data.toList.drop (Z7 s c s.size).2 := List.take_of_length_le (by rw [List.length_drop]; omega);rw [hall] at h2;rw [Jf c _ h2] at h1;unfold Zd Znf;rw [h1, List.map_append, ZbA]
 congr 1
 simp only [map_cons, List.map_nil]
 congr 1
 apply Yx
 rw [Yd, hall]
def Jq (b : UInt8) : Bool := decide (97 ≤ b.toNat) && decide (b.toNat ≤ 122)
def YD (s : ByteArray) : Bool := inB (s.size : Int) 1 4 && s.data.toList.all Jq
theorem ZaT {s : ByteArray} {k : Nat} (h : k < s.size) : (s.data.toList.drop k).all Jq = (Jq (s.get! k) && (s.data.toList.drop (k + 1)).all Jq) := by rw [ZlB h, List.all_cons]
theorem Zj5 {s : ByteArray} {k : Nat} (h : ¬ k < s.size) : (s.data.toList.drop k).all Jq = true := by
 have hl := Zh s;rw [List.drop_eq_nil_of_le (by omega)]; rfl
def ZdH (t : ByteArray) : Bool := decide ((Zd t 47).length ≤ 4) && (Zd t 47).all YD
def ZK (s : ByteArray) : Bool := bif (s.toList == (⟨#[47]⟩ : ByteArray).toList) then true else (s.data.toList.head? == some 47 && ZdH (s.extract 1 s.size))
theorem ZlC {s : ByteArray} (h : (s.toList == (⟨#[47]⟩ : ByteArray).toList) = true) : ZK s = true := by unfold ZK; rw [h]; rfl
theorem JO {s : ByteArray} (h : (s.toList == (⟨#[47]⟩ : ByteArray).toList) = false) (h2 : (s.data.toList.head? == some 47) = false) : ZK s = false := by unfold ZK; rw [h, h2]; rfl
theorem JP {s : ByteArray} (h : (s.toList == (⟨#[47]⟩ : ByteArray).toList) = false) (h2 : (s.data.toList.head? == some 47) = true) : ZK s = ZdH (s.extract 1 s.size) := by unfold ZK; rw [h, h2]; rfl
theorem Ze6 {s : ByteArray} : (s.extract 1 s.size).size = s.size - 1 := by
 have h := Zh s;rw [Zh, Yd, length_take, List.length_drop, ← h]; omega
def okN (xs : List ByteArray) : Bool := decide (xs.length ≤ 4) && xs.all YD
theorem Ze7 (t : ByteArray) : ZdH t = okN (Zd t 47) := rfl
theorem ZcU {s : ByteArray} (h : s.data.toList.head? = some 47) : Zd s 47 = ByteArray.empty :: Zd (s.extract 1 s.size) 47 := by
  have hl : s.data.toList = 47 :: s.data.toList.drop 1 := by
    cases hs : s.data.toList with
    | nil => rw [hs] at h; cases h
    | cons b t => rw [hs] at h; obtain rfl : b = 47 := by simpa using h
                  simp
  have hz := Zh s;have hx : (s.extract 1 s.size).data.toList = s.data.toList.drop 1 := by
    rw [Yd, List.take_of_length_le (by rw [List.length_drop]; omega)]
  unfold Zd;rw [hx]
  conv => lhs; rw [hl, QZ]
  rfl
theorem Zg2 {s : ByteArray} (h : 0 < s.size) : (s.data.toList.head? == some 47) = ((((s.get! 0).toNat : Nat) : Int) == 47) := by
 have hz := Zh s;have hg := QY h;rw [List.head?_eq_getElem?, hg]
 by_cases hb : s.get! 0 = 47
 ·rw [hb]; rfl
 ·rw [beq_eq_false_iff_ne.2 (fun e => hb (Option.some.inj e))]
  symm
  rw [beq_eq_false_iff_ne];intro e;exact hb (UInt8.toNat_inj.1 (by show (s.get! 0).toNat = 47; omega))
theorem Zg3 {s : ByteArray} (h : (s.toList == (⟨#[]⟩ : ByteArray).toList) = false) : 0 < s.size := by
 rcases Nat.eq_zero_or_pos s.size with h0 | h0
 ·have : s = ⟨#[]⟩ := by apply Yx; rw [Zh] at h0; exact List.length_eq_zero_iff.1 h0
  rw [this] at h; simp at h
 ·exact h0
theorem ZlD {s : ByteArray} (h : (s.toList == (⟨#[]⟩ : ByteArray).toList) = true) (hb : ∀ {a b : ByteArray}, (a.toList == b.toList) = true → a = b) : (s.data.toList.head? == some 47) = false := by
 rw [hb h]; rfl
theorem Ju (t : ByteArray) (c : UInt8) : QM (Zd t c) ⟨#[c]⟩ = t := by
 apply Yx
 show Go.Lib.join ((Zd t c).map (·.data.toList)) [c] = _;unfold Zd;rw [List.map_map];have : ((fun x : ByteArray => x.data.toList) ∘ fun l : List UInt8 => (⟨l.toArray⟩ : ByteArray)) = id := by funext l; rfl
 rw [this, List.map_id, ZcS]
end Go.Proofs.YtfhdmfcfcgbgeaaGreatDoor
