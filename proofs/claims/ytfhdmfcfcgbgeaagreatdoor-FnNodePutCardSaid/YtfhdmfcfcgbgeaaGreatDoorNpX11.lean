/- A part of the proof in YtfhdmfcfcgbgeaaGreatDoorNpX34. -/
import Derived.Lib.ItoaNum
import Derived.Test.YtfhdmfcfcgbgeaaGreatDoorNpX10
namespace Go.Proofs.YtfhdmfcfcgbgeaaGreatDoor
open List (getD_eq_getElem?_getD length_append)
set_option linter.unusedVariables false
set_option linter.unusedSimpArgs false
set_option maxHeartbeats 1000000
set_option maxRecDepth 100000
open Go.RowKit
def Zy (n : Nat) : ByteArray := ⟨(Go.Lib.decDigits n).toArray⟩
theorem Yj (n : Nat) : (Zy n).data.toList = Go.Lib.decDigits n := rfl
theorem Zih {n : Nat} (h : n < 10) : Zy n = ⟨#[UInt8.ofNat (48 + n)]⟩ := by
 apply Yx; rw [Yj, Go.Lib.decDigits_one h]
theorem Zdz {n : Nat} (h : ¬ n < 10) : Zy n = Zy (n / 10) ++ ⟨#[UInt8.ofNat (48 + n % 10)]⟩ := by
 apply Yx; rw [ZB, Yj, Yj, Go.Lib.decDigits, dif_neg h]
theorem Zii {n k : Nat} (h : n < 10 ^ (k + 1)) : Go.Lib.nDigits n ≤ k + 1 := by
 induction k generalizing n with
 | zero => rw [Go.Lib.nDigits_small (by simpa using h)]; exact Nat.le_refl _
 | succ k ih =>
  by_cases hs : n < 10
  ·rw [Go.Lib.nDigits_small hs]; omega
  ·have := ih (n := n / 10) (by rw [Nat.pow_succ] at h; omega)
   rw [Go.Lib.nDigits_big hs]; omega
theorem Ze3 {n : Nat} : (Zy n).size = Go.Lib.nDigits n := by rw [Zh, Yj, Go.Lib.decDigits_length]
theorem Zal {n k : Nat} (h : n < 10 ^ (k + 1)) : (Zy n).size ≤ k + 1 := by rw [Ze3]; exact Zii h
theorem ZdA (n : Nat) : 1 ≤ (Zy n).size := by rw [Ze3]; exact Go.Lib.nDigits_pos n
theorem Uj {n : Nat} (h : n ≤ 9223372036854775807) : (Zy n).size ≤ 19 := Zal (k := 18) (by omega)
def ZdB : ByteArray := ⟨#[58]⟩
def ZI (n : Int) : ByteArray := if 0 ≤ n ∧ n ≤ 999999999 then Zy n.toNat else ByteArray.empty
theorem YO {n : Int} (h0 : 0 ≤ n) (h1 : n ≤ 999999999) : ZI n = Zy n.toNat := if_pos ⟨h0, h1⟩
theorem Zg0 {n : Int} (h : ¬ (0 ≤ n ∧ n ≤ 999999999)) : ZI n = ByteArray.empty := if_neg h
theorem Yr (n : Int) : (ZI n).size ≤ 9 := by
 unfold ZI; split
 ·exact Zal (k := 8) (by omega)
 ·exact Nat.zero_le _
def Z1 (l : List ByteArray) : ByteArray := l.foldl (fun a s => a ++ Zy s.size ++ ZdB ++ s) ByteArray.empty
theorem Zj3 (l : List ByteArray) (s : ByteArray) : Z1 (l ++ [s]) = Z1 l ++ Zy s.size ++ ZdB ++ s := by
 unfold Z1; rw [List.foldl_append]; rfl
theorem Ze4 (xs : List ByteArray) {k : Nat} (h : k < xs.length) : xs.take (k + 1) = xs.take k ++ [xs.getD k ByteArray.empty] := by
 rw [List.take_add_one, List.getElem?_eq_getElem h]; simp [List.getD, h]
theorem Jz (xs : List ByteArray) {k : Nat} (h : k < xs.length) : Z1 (xs.take (k + 1)) = Z1 (xs.take k) ++ Zy (xs.getD k ByteArray.empty).size ++ ZdB ++ xs.getD k ByteArray.empty := by
 rw [Ze4 xs h, Zj3]
theorem Zk (a b : ByteArray) : (a ++ b).size = a.size + b.size := by rw [Zh, ZB, length_append, ← Zh, ← Zh]
theorem Zij (l : List ByteArray) (a : ByteArray) : a.size ≤ (l.foldl (fun a s => a ++ Zy s.size ++ ZdB ++ s) a).size := by
 induction l generalizing a with
 | nil => exact Nat.le_refl _
 | cons s l ih =>
  refine Nat.le_trans ?_ (ih _);rw [Zk, Zk, Zk]; omega
theorem Ze5 (xs : List ByteArray) (k : Nat) : (Z1 (xs.take k)).size ≤ (Z1 xs).size := by
 conv => rhs; rw [← List.take_append_drop k xs]
 unfold Z1; rw [List.foldl_append]; exact Zij _ _
theorem YC (xs : List ByteArray) {k : Nat} (h : k < xs.length) : (xs.getD k ByteArray.empty).size < (Z1 xs).size := by
 refine Nat.lt_of_lt_of_le ?_ (Ze5 xs (k + 1));rw [Jz xs h, Zk, Zk, Zk];have : ZdB.size = 1 := rfl
 omega
def Yk (l : List ByteArray) : ByteArray × Bool := if l.length ≤ 60 ∧ (Z1 l).size ≤ 2048 then (Z1 l, true) else (ByteArray.empty, false)
theorem YY {l : List ByteArray} (h : l.length ≤ 60) (hs : (Z1 l).size ≤ 2048) : Yk l = (Z1 l, true) := if_pos ⟨h, hs⟩
theorem JN {l : List ByteArray} (h : ¬ l.length ≤ 60) : Yk l = (ByteArray.empty, false) := if_neg fun x => h x.1
theorem ZaE {l : List ByteArray} {k : Nat} (hs : ¬ (Z1 (l.take k)).size ≤ 2048) : Yk l = (ByteArray.empty, false) := if_neg fun x => hs (Nat.le_trans (Ze5 l k) x.2)
theorem ZdC {l : List ByteArray} {k : Nat} (hk : k < l.length) (hs : ¬ (l.getD k ByteArray.empty).size ≤ 2048) : Yk l = (ByteArray.empty, false) := if_neg fun x => by have := YC l hk; omega
def szs (xs : List ByteArray) : Prop := ∀ k, (xs.getD k ByteArray.empty).size ≤ 1099511627776
theorem Uk : szs [] := fun k => by simp
theorem Yz {x : ByteArray} {xs : List ByteArray} (h : x.size ≤ 1099511627776) (hs : szs xs) : szs (x :: xs) := fun k => by
 cases k with
 | zero => simpa using h
 | succ k => simpa using hs k
theorem Zbz {xs ys : List ByteArray} (hx : szs xs) (hy : szs ys) : szs (xs ++ ys) := fun k => by
 by_cases h : k < xs.length
 ·have := hx k
  simp only [getD_eq_getElem?_getD] at this ⊢;rw [List.getElem?_append_left h]; exact this
 ·have := hy (k - xs.length)
  simp only [getD_eq_getElem?_getD] at this ⊢;rw [List.getElem?_append_right (by omega)]; exact this
end Go.Proofs.YtfhdmfcfcgbgeaaGreatDoor
