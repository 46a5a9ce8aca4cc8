/- A part of the proof in YtfhdmfcfcgbgeaaGreatWrX30. -/
import Derived.Lib.ItoaNum
import Derived.Test.YtfhdmfcfcgbgeaaGreatWrX8
namespace Go.Proofs.YtfhdmfcfcgbgeaaGreat
open List (length_append)
set_option linter.unusedVariables false
set_option linter.unusedSimpArgs false
set_option maxHeartbeats 1000000
set_option maxRecDepth 100000
open Go.RowKit
def ZB (n : Nat) : ByteArray := ⟨(Go.Lib.decDigits n).toArray⟩
theorem Yk (n : Nat) : (ZB n).data.toList = Go.Lib.decDigits n := rfl
theorem Ziq {n : Nat} (h : n < 10) : ZB n = ⟨#[UInt8.ofNat (48 + n)]⟩ := by
 apply YC; rw [Yk, Go.Lib.decDigits_one h]
theorem ZdH {n : Nat} (h : ¬ n < 10) : ZB n = ZB (n / 10) ++ ⟨#[UInt8.ofNat (48 + n % 10)]⟩ := by
 apply YC; rw [Z6, Yk, Yk, Go.Lib.decDigits, dif_neg h]
theorem Zir {n k : Nat} (h : n < 10 ^ (k + 1)) : Go.Lib.nDigits n ≤ k + 1 := by
 induction k generalizing n with
 | zero => rw [Go.Lib.nDigits_small (by simpa using h)]; exact Nat.le_refl _
 | succ k ih =>
  by_cases hs : n < 10
  ·rw [Go.Lib.nDigits_small hs]; omega
  ·have := ih (n := n / 10) (by rw [Nat.pow_succ] at h; omega)
   rw [Go.Lib.nDigits_big hs]; omega
theorem Zff {n : Nat} : (ZB n).size = Go.Lib.nDigits n := by rw [Zi, Yk, Go.Lib.decDigits_length]
theorem Zam {n k : Nat} (h : n < 10 ^ (k + 1)) : (ZB n).size ≤ k + 1 := by rw [Zff]; exact Zir h
theorem Zbt (n : Nat) : 1 ≤ (ZB n).size := by rw [Zff]; exact Go.Lib.nDigits_pos n
theorem Vd {n : Nat} (h : n ≤ 9223372036854775807) : (ZB n).size ≤ 19 := Zam (k := 18) (by omega)
def ZdI : ByteArray := ⟨#[58]⟩
def Yz (n : Int) : ByteArray := if 0 ≤ n ∧ n ≤ 999999999 then ZB n.toNat else ByteArray.empty
theorem Xk {n : Int} (h0 : 0 ≤ n) (h1 : n ≤ 999999999) : Yz n = ZB n.toNat := if_pos ⟨h0, h1⟩
theorem XA (n : Int) : (Yz n).size ≤ 9 := by
 unfold Yz; split
 ·exact Zam (k := 8) (by omega)
 ·exact Nat.zero_le _
def Ye (l : List ByteArray) : ByteArray := l.foldl (fun a s => a ++ ZB s.size ++ ZdI ++ s) ByteArray.empty
theorem Zj7 (l : List ByteArray) (s : ByteArray) : Ye (l ++ [s]) = Ye l ++ ZB s.size ++ ZdI ++ s := by
 unfold Ye; rw [List.foldl_append]; rfl
theorem Zfg (xs : List ByteArray) {k : Nat} (h : k < xs.length) : xs.take (k + 1) = xs.take k ++ [xs.getD k ByteArray.empty] := by
 rw [List.take_add_one, List.getElem?_eq_getElem h]; simp [List.getD, h]
theorem Zci (xs : List ByteArray) {k : Nat} (h : k < xs.length) : Ye (xs.take (k + 1)) = Ye (xs.take k) ++ ZB (xs.getD k ByteArray.empty).size ++ ZdI ++ xs.getD k ByteArray.empty := by
 rw [Zfg xs h, Zj7]
theorem Zl (a b : ByteArray) : (a ++ b).size = a.size + b.size := by rw [Zi, Z6, length_append, ← Zi, ← Zi]
theorem Zis (l : List ByteArray) (a : ByteArray) : a.size ≤ (l.foldl (fun a s => a ++ ZB s.size ++ ZdI ++ s) a).size := by
 induction l generalizing a with
 | nil => exact Nat.le_refl _
 | cons s l ih =>
  refine Nat.le_trans ?_ (ih _);rw [Zl, Zl, Zl]; omega
theorem Zfh (xs : List ByteArray) (k : Nat) : (Ye (xs.take k)).size ≤ (Ye xs).size := by
 conv => rhs; rw [← List.take_append_drop k xs]
 unfold Ye; rw [List.foldl_append]; exact Zis _ _
theorem X8 (xs : List ByteArray) {k : Nat} (h : k < xs.length) : (xs.getD k ByteArray.empty).size < (Ye xs).size := by
 refine Nat.lt_of_lt_of_le ?_ (Zfh xs (k + 1));rw [Zci xs h, Zl, Zl, Zl];have : ZdI.size = 1 := rfl
 omega
def Yw (l : List ByteArray) : ByteArray × Bool := if l.length ≤ 60 ∧ (Ye l).size ≤ 2048 then (Ye l, true) else (ByteArray.empty, false)
theorem Xb {l : List ByteArray} (h : l.length ≤ 60) (hs : (Ye l).size ≤ 2048) : Yw l = (Ye l, true) := if_pos ⟨h, hs⟩
theorem VN {l : List ByteArray} (h : ¬ l.length ≤ 60) : Yw l = (ByteArray.empty, false) := if_neg fun x => h x.1
theorem ZeY {l : List ByteArray} {k : Nat} (hs : ¬ (Ye (l.take k)).size ≤ 2048) : Yw l = (ByteArray.empty, false) := if_neg fun x => hs (Nat.le_trans (Zfh l k) x.2)
theorem ZdJ {l : List ByteArray} {k : Nat} (hk : k < l.length) (hs : ¬ (l.getD k ByteArray.empty).size ≤ 2048) : Yw l = (ByteArray.empty, false) := if_neg fun x => by have := X8 l hk; omega
def szs (xs : List ByteArray) : Prop := ∀ k, (xs.getD k ByteArray.empty).size ≤ 1099511627776
theorem Zni : szs [] := fun k => by simp
theorem JP {x : ByteArray} {xs : List ByteArray} (h : x.size ≤ 1099511627776) (hs : szs xs) : szs (x :: xs) := fun k => by
 cases k with
 | zero => simpa using h
 | succ k => simpa using hs k
end Go.Proofs.YtfhdmfcfcgbgeaaGreat
