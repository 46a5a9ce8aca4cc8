/- A part of the proof in YtfhdmfcfcgbgeaaGreatSaX30. -/
import Derived.Lib.ItoaNum
import Derived.Test.YtfhdmfcfcgbgeaaGreatSaX8
namespace Go.Proofs.YtfhdmfcfcgbgeaaGreat
open List (length_append)
set_option linter.unusedVariables false
set_option linter.unusedSimpArgs false
set_option maxHeartbeats 1000000
set_option maxRecDepth 100000
open Go.RowKit
def ZB (n : Nat) : ByteArray := ⟨(Go.Lib.decDigits n).toArray⟩
theorem Yj (n : Nat) : (ZB n).data.toList = Go.Lib.decDigits n := rfl
theorem Ziy {n : Nat} (h : n < 10) : ZB n = ⟨#[UInt8.ofNat (48 + n)]⟩ := by
 apply Yz; rw [Yj, Go.Lib.decDigits_one h]
theorem ZdO {n : Nat} (h : ¬ n < 10) : ZB n = ZB (n / 10) ++ ⟨#[UInt8.ofNat (48 + n % 10)]⟩ := by
 apply Yz; rw [Z6, Yj, Yj, Go.Lib.decDigits, dif_neg h]
theorem Ziz {n k : Nat} (h : n < 10 ^ (k + 1)) : Go.Lib.nDigits n ≤ k + 1 := by
 induction k generalizing n with
 | zero => rw [Go.Lib.nDigits_small (by simpa using h)]; exact Nat.le_refl _
 | succ k ih =>
  by_cases hs : n < 10
  ·rw [Go.Lib.nDigits_small hs]; omega
  ·have := ih (n := n / 10) (by rw [Nat.pow_succ] at h; omega)
   rw [Go.Lib.nDigits_big hs]; omega
theorem Zfn {n : Nat} : (ZB n).size = Go.Lib.nDigits n := by rw [Zi, Yj, Go.Lib.decDigits_length]
theorem Zaf {n k : Nat} (h : n < 10 ^ (k + 1)) : (ZB n).size ≤ k + 1 := by rw [Zfn]; exact Ziz h
theorem Zbs (n : Nat) : 1 ≤ (ZB n).size := by rw [Zfn]; exact Go.Lib.nDigits_pos n
theorem U6 {n : Nat} (h : n ≤ 9223372036854775807) : (ZB n).size ≤ 19 := Zaf (k := 18) (by omega)
def ZdP : ByteArray := ⟨#[58]⟩
def Yx (n : Int) : ByteArray := if 0 ≤ n ∧ n ≤ 999999999 then ZB n.toNat else ByteArray.empty
theorem Xc {n : Int} (h0 : 0 ≤ n) (h1 : n ≤ 999999999) : Yx n = ZB n.toNat := if_pos ⟨h0, h1⟩
theorem Xs (n : Int) : (Yx n).size ≤ 9 := by
 unfold Yx; split
 ·exact Zaf (k := 8) (by omega)
 ·exact Nat.zero_le _
def Ye (l : List ByteArray) : ByteArray := l.foldl (fun a s => a ++ ZB s.size ++ ZdP ++ s) ByteArray.empty
theorem Zj6 (l : List ByteArray) (s : ByteArray) : Ye (l ++ [s]) = Ye l ++ ZB s.size ++ ZdP ++ s := by
 unfold Ye; rw [List.foldl_append]; rfl
theorem Zfo (xs : List ByteArray) {k : Nat} (h : k < xs.length) : xs.take (k + 1) = xs.take k ++ [xs.getD k ByteArray.empty] := by
 rw [List.take_add_one, List.getElem?_eq_getElem h]; simp [List.getD, h]
theorem Zck (xs : List ByteArray) {k : Nat} (h : k < xs.length) : Ye (xs.take (k + 1)) = Ye (xs.take k) ++ ZB (xs.getD k ByteArray.empty).size ++ ZdP ++ xs.getD k ByteArray.empty := by
 rw [Zfo xs h, Zj6]
theorem Zl (a b : ByteArray) : (a ++ b).size = a.size + b.size := by rw [Zi, Z6, length_append, ← Zi, ← Zi]
theorem ZiA (l : List ByteArray) (a : ByteArray) : a.size ≤ (l.foldl (fun a s => a ++ ZB s.size ++ ZdP ++ s) a).size := by
 induction l generalizing a with
 | nil => exact Nat.le_refl _
 | cons s l ih =>
  refine Nat.le_trans ?_ (ih _);rw [Zl, Zl, Zl]; omega
theorem Zfp (xs : List ByteArray) (k : Nat) : (Ye (xs.take k)).size ≤ (Ye xs).size := by
 conv => rhs; rw [← List.take_append_drop k xs]
 unfold Ye; rw [List.foldl_append]; exact ZiA _ _
theorem X0 (xs : List ByteArray) {k : Nat} (h : k < xs.length) : (xs.getD k ByteArray.empty).size < (Ye xs).size := by
 refine Nat.lt_of_lt_of_le ?_ (Zfp xs (k + 1));rw [Zck xs h, Zl, Zl, Zl];have : ZdP.size = 1 := rfl
 omega
def Yv (l : List ByteArray) : ByteArray × Bool := if l.length ≤ 60 ∧ (Ye l).size ≤ 2048 then (Ye l, true) else (ByteArray.empty, false)
theorem Y4 {l : List ByteArray} (h : l.length ≤ 60) (hs : (Ye l).size ≤ 2048) : Yv l = (Ye l, true) := if_pos ⟨h, hs⟩
theorem VH {l : List ByteArray} (h : ¬ l.length ≤ 60) : Yv l = (ByteArray.empty, false) := if_neg fun x => h x.1
theorem Ze6 {l : List ByteArray} {k : Nat} (hs : ¬ (Ye (l.take k)).size ≤ 2048) : Yv l = (ByteArray.empty, false) := if_neg fun x => hs (Nat.le_trans (Zfp l k) x.2)
theorem ZdQ {l : List ByteArray} {k : Nat} (hk : k < l.length) (hs : ¬ (l.getD k ByteArray.empty).size ≤ 2048) : Yv l = (ByteArray.empty, false) := if_neg fun x => by have := X0 l hk; omega
def szs (xs : List ByteArray) : Prop := ∀ k, (xs.getD k ByteArray.empty).size ≤ 1099511627776
theorem Znh : szs [] := fun k => by simp
theorem JJ {x : ByteArray} {xs : List ByteArray} (h : x.size ≤ 1099511627776) (hs : szs xs) : szs (x :: xs) := fun k => by
 cases k with
 | zero => simpa using h
 | succ k => simpa using hs k
end Go.Proofs.YtfhdmfcfcgbgeaaGreat
