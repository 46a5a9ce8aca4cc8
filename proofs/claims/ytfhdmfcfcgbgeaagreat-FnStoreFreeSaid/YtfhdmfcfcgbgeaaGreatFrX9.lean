/- A part of the proof in YtfhdmfcfcgbgeaaGreatFrX30. -/
import Derived.Lib.ItoaNum
import Derived.Test.YtfhdmfcfcgbgeaaGreatFrX8
namespace Go.Proofs.YtfhdmfcfcgbgeaaGreat
open List (length_append)
set_option linter.unusedVariables false
set_option linter.unusedSimpArgs false
set_option maxHeartbeats 1000000
set_option maxRecDepth 100000
open Go.RowKit
def ZA (n : Nat) : ByteArray := ⟨(Go.Lib.decDigits n).toArray⟩
theorem Yg (n : Nat) : (ZA n).data.toList = Go.Lib.decDigits n := rfl
theorem Zh1 {n : Nat} (h : n < 10) : ZA n = ⟨#[UInt8.ofNat (48 + n)]⟩ := by
 apply YA; rw [Yg, Go.Lib.decDigits_one h]
theorem Zdo {n : Nat} (h : ¬ n < 10) : ZA n = ZA (n / 10) ++ ⟨#[UInt8.ofNat (48 + n % 10)]⟩ := by
 apply YA; rw [Z4, Yg, Yg, Go.Lib.decDigits, dif_neg h]
theorem Zh2 {n k : Nat} (h : n < 10 ^ (k + 1)) : Go.Lib.nDigits n ≤ k + 1 := by
 induction k generalizing n with
 | zero => rw [Go.Lib.nDigits_small (by simpa using h)]; exact Nat.le_refl _
 | succ k ih =>
  by_cases hs : n < 10
  ·rw [Go.Lib.nDigits_small hs]; omega
  ·have := ih (n := n / 10) (by rw [Nat.pow_succ] at h; omega)
   rw [Go.Lib.nDigits_big hs]; omega
theorem ZeS {n : Nat} : (ZA n).size = Go.Lib.nDigits n := by rw [Zi, Yg, Go.Lib.decDigits_length]
theorem V9 {n k : Nat} (h : n < 10 ^ (k + 1)) : (ZA n).size ≤ k + 1 := by rw [ZeS]; exact Zh2 h
theorem Zbk (n : Nat) : 1 ≤ (ZA n).size := by rw [ZeS]; exact Go.Lib.nDigits_pos n
theorem U5 {n : Nat} (h : n ≤ 9223372036854775807) : (ZA n).size ≤ 19 := V9 (k := 18) (by omega)
def Zdp : ByteArray := ⟨#[58]⟩
def Yy (n : Int) : ByteArray := if 0 ≤ n ∧ n ≤ 999999999 then ZA n.toNat else ByteArray.empty
theorem Xe {n : Int} (h0 : 0 ≤ n) (h1 : n ≤ 999999999) : Yy n = ZA n.toNat := if_pos ⟨h0, h1⟩
theorem Xu (n : Int) : (Yy n).size ≤ 9 := by
 unfold Yy; split
 ·exact V9 (k := 8) (by omega)
 ·exact Nat.zero_le _
def Yd (l : List ByteArray) : ByteArray := l.foldl (fun a s => a ++ ZA s.size ++ Zdp ++ s) ByteArray.empty
theorem ZjJ (l : List ByteArray) (s : ByteArray) : Yd (l ++ [s]) = Yd l ++ ZA s.size ++ Zdp ++ s := by
 unfold Yd; rw [List.foldl_append]; rfl
theorem ZeT (xs : List ByteArray) {k : Nat} (h : k < xs.length) : xs.take (k + 1) = xs.take k ++ [xs.getD k ByteArray.empty] := by
 rw [List.take_add_one, List.getElem?_eq_getElem h]; simp [List.getD, h]
theorem Zb6 (xs : List ByteArray) {k : Nat} (h : k < xs.length) : Yd (xs.take (k + 1)) = Yd (xs.take k) ++ ZA (xs.getD k ByteArray.empty).size ++ Zdp ++ xs.getD k ByteArray.empty := by
 rw [ZeT xs h, ZjJ]
theorem Zk (a b : ByteArray) : (a ++ b).size = a.size + b.size := by rw [Zi, Z4, length_append, ← Zi, ← Zi]
theorem Zh3 (l : List ByteArray) (a : ByteArray) : a.size ≤ (l.foldl (fun a s => a ++ ZA s.size ++ Zdp ++ s) a).size := by
 induction l generalizing a with
 | nil => exact Nat.le_refl _
 | cons s l ih =>
  refine Nat.le_trans ?_ (ih _);rw [Zk, Zk, Zk]; omega
theorem ZeU (xs : List ByteArray) (k : Nat) : (Yd (xs.take k)).size ≤ (Yd xs).size := by
 conv => rhs; rw [← List.take_append_drop k xs]
 unfold Yd; rw [List.foldl_append]; exact Zh3 _ _
theorem X1 (xs : List ByteArray) {k : Nat} (h : k < xs.length) : (xs.getD k ByteArray.empty).size < (Yd xs).size := by
 refine Nat.lt_of_lt_of_le ?_ (ZeU xs (k + 1));rw [Zb6 xs h, Zk, Zk, Zk];have : Zdp.size = 1 := rfl
 omega
def Yv (l : List ByteArray) : ByteArray × Bool := if l.length ≤ 60 ∧ (Yd l).size ≤ 2048 then (Yd l, true) else (ByteArray.empty, false)
theorem Y7 {l : List ByteArray} (h : l.length ≤ 60) (hs : (Yd l).size ≤ 2048) : Yv l = (Yd l, true) := if_pos ⟨h, hs⟩
theorem Vz {l : List ByteArray} (h : ¬ l.length ≤ 60) : Yv l = (ByteArray.empty, false) := if_neg fun x => h x.1
theorem Zez {l : List ByteArray} {k : Nat} (hs : ¬ (Yd (l.take k)).size ≤ 2048) : Yv l = (ByteArray.empty, false) := if_neg fun x => hs (Nat.le_trans (ZeU l k) x.2)
theorem Zdq {l : List ByteArray} {k : Nat} (hk : k < l.length) (hs : ¬ (l.getD k ByteArray.empty).size ≤ 2048) : Yv l = (ByteArray.empty, false) := if_neg fun x => by have := X1 l hk; omega
def szs (xs : List ByteArray) : Prop := ∀ k, (xs.getD k ByteArray.empty).size ≤ 1099511627776
theorem ZmO : szs [] := fun k => by simp
theorem JD {x : ByteArray} {xs : List ByteArray} (h : x.size ≤ 1099511627776) (hs : szs xs) : szs (x :: xs) := fun k => by
 cases k with
 | zero => simpa using h
 | succ k => simpa using hs k
end Go.Proofs.YtfhdmfcfcgbgeaaGreat
