/- A part of the proof in YthnbgnjpbmnelaaGreatDoorTqX34. -/
import Derived.Lib.ItoaNum
import Derived.Test.YthnbgnjpbmnelaaGreatDoorTqX10
namespace Go.Proofs.YthnbgnjpbmnelaaGreatDoor
open List (getD_eq_getElem?_getD length_append)
set_option linter.unusedVariables false
set_option linter.unusedSimpArgs false
set_option maxHeartbeats 1000000
set_option maxRecDepth 100000
open Go.RowKit
def Zw (n : Nat) : ByteArray := ⟨(Go.Lib.decDigits n).toArray⟩
theorem Yd (n : Nat) : (Zw n).data.toList = Go.Lib.decDigits n := rfl
theorem Zid {n : Nat} (h : n < 10) : Zw n = ⟨#[UInt8.ofNat (48 + n)]⟩ := by
 apply Yo; rw [Yd, Go.Lib.decDigits_one h]
theorem Zdm {n : Nat} (h : ¬ n < 10) : Zw n = Zw (n / 10) ++ ⟨#[UInt8.ofNat (48 + n % 10)]⟩ := by
 apply Yo; rw [Zz, Yd, Yd, Go.Lib.decDigits, dif_neg h]
theorem Zie {n k : Nat} (h : n < 10 ^ (k + 1)) : Go.Lib.nDigits n ≤ k + 1 := by
 induction k generalizing n with
 | zero => rw [Go.Lib.nDigits_small (by simpa using h)]; exact Nat.le_refl _
 | succ k ih =>
  by_cases hs : n < 10
  ·rw [Go.Lib.nDigits_small hs]; omega
  ·have := ih (n := n / 10) (by rw [Nat.pow_succ] at h; omega)
   rw [Go.Lib.nDigits_big hs]; omega
theorem ZeV {n : Nat} : (Zw n).size = Go.Lib.nDigits n := by rw [Zf, Yd, Go.Lib.decDigits_length]
theorem V6 {n k : Nat} (h : n < 10 ^ (k + 1)) : (Zw n).size ≤ k + 1 := by rw [ZeV]; exact Zie h
theorem Zdn (n : Nat) : 1 ≤ (Zw n).size := by rw [ZeV]; exact Go.Lib.nDigits_pos n
theorem J7 {n : Nat} (h : n ≤ 9223372036854775807) : (Zw n).size ≤ 19 := V6 (k := 18) (by omega)
def Zdo : ByteArray := ⟨#[58]⟩
def ZF (n : Int) : ByteArray := if 0 ≤ n ∧ n ≤ 999999999 then Zw n.toNat else ByteArray.empty
theorem YH {n : Int} (h0 : 0 ≤ n) (h1 : n ≤ 999999999) : ZF n = Zw n.toNat := if_pos ⟨h0, h1⟩
theorem Zdp {n : Int} (h : ¬ (0 ≤ n ∧ n ≤ 999999999)) : ZF n = ByteArray.empty := if_neg h
theorem Ym (n : Int) : (ZF n).size ≤ 9 := by
 unfold ZF; split
 ·exact V6 (k := 8) (by omega)
 ·exact Nat.zero_le _
def ZU (l : List ByteArray) : ByteArray := l.foldl (fun a s => a ++ Zw s.size ++ Zdo ++ s) ByteArray.empty
theorem ZjV (l : List ByteArray) (s : ByteArray) : ZU (l ++ [s]) = ZU l ++ Zw s.size ++ Zdo ++ s := by
 unfold ZU; rw [List.foldl_append]; rfl
theorem ZeW (xs : List ByteArray) {k : Nat} (h : k < xs.length) : xs.take (k + 1) = xs.take k ++ [xs.getD k ByteArray.empty] := by
 rw [List.take_add_one, List.getElem?_eq_getElem h]; simp [List.getD, h]
theorem Jj (xs : List ByteArray) {k : Nat} (h : k < xs.length) : ZU (xs.take (k + 1)) = ZU (xs.take k) ++ Zw (xs.getD k ByteArray.empty).size ++ Zdo ++ xs.getD k ByteArray.empty := by
 rw [ZeW xs h, ZjV]
theorem Zk (a b : ByteArray) : (a ++ b).size = a.size + b.size := by rw [Zf, Zz, length_append, ← Zf, ← Zf]
theorem Zif (l : List ByteArray) (a : ByteArray) : a.size ≤ (l.foldl (fun a s => a ++ Zw s.size ++ Zdo ++ s) a).size := by
 induction l generalizing a with
 | nil => exact Nat.le_refl _
 | cons s l ih =>
  refine Nat.le_trans ?_ (ih _);rw [Zk, Zk, Zk]; omega
theorem ZeX (xs : List ByteArray) (k : Nat) : (ZU (xs.take k)).size ≤ (ZU xs).size := by
 conv => rhs; rw [← List.take_append_drop k xs]
 unfold ZU; rw [List.foldl_append]; exact Zif _ _
theorem XQ (xs : List ByteArray) {k : Nat} (h : k < xs.length) : (xs.getD k ByteArray.empty).size < (ZU xs).size := by
 refine Nat.lt_of_lt_of_le ?_ (ZeX xs (k + 1));rw [Jj xs h, Zk, Zk, Zk];have : Zdo.size = 1 := rfl
 omega
def ZX (l : List ByteArray) : ByteArray × Bool := if l.length ≤ 60 ∧ (ZU l).size ≤ 2048 then (ZU l, true) else (ByteArray.empty, false)
theorem Yy {l : List ByteArray} (h : l.length ≤ 60) (hs : (ZU l).size ≤ 2048) : ZX l = (ZU l, true) := if_pos ⟨h, hs⟩
theorem Jz {l : List ByteArray} (h : ¬ l.length ≤ 60) : ZX l = (ByteArray.empty, false) := if_neg fun x => h x.1
theorem Zaq {l : List ByteArray} {k : Nat} (hs : ¬ (ZU (l.take k)).size ≤ 2048) : ZX l = (ByteArray.empty, false) := if_neg fun x => hs (Nat.le_trans (ZeX l k) x.2)
theorem Zdq {l : List ByteArray} {k : Nat} (hk : k < l.length) (hs : ¬ (l.getD k ByteArray.empty).size ≤ 2048) : ZX l = (ByteArray.empty, false) := if_neg fun x => by have := XQ l hk; omega
theorem ZfS (l : List ByteArray) : (ZX l).1.size ≤ 2048 := by
 unfold ZX; split
 ·rename_i h; exact h.2
 ·exact Nat.zero_le _
def szs (xs : List ByteArray) : Prop := ∀ k, (xs.getD k ByteArray.empty).size ≤ 1099511627776
theorem J8 : szs [] := fun k => by simp
theorem YR {x : ByteArray} {xs : List ByteArray} (h : x.size ≤ 1099511627776) (hs : szs xs) : szs (x :: xs) := fun k => by
 cases k with
 | zero => simpa using h
 | succ k => simpa using hs k
theorem Zbl {xs ys : List ByteArray} (hx : szs xs) (hy : szs ys) : szs (xs ++ ys) := fun k => by
 by_cases h : k < xs.length
 ·have := hx k
  simp only [getD_eq_getElem?_getD] at this ⊢;rw [List.getElem?_append_left h]; exact this
 ·have := hy (k - xs.length)
  simp only [getD_eq_getElem?_getD] at this ⊢;rw [List.getElem?_append_right (by omega)]; exact this
end Go.Proofs.YthnbgnjpbmnelaaGreatDoor
