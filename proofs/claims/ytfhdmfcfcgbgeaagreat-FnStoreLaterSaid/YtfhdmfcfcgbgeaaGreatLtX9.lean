/- A part of the proof in YtfhdmfcfcgbgeaaGreatLtX30. -/
import Derived.Lib.ItoaNum
import Derived.Test.YtfhdmfcfcgbgeaaGreatLtX8
namespace Go.Proofs.YtfhdmfcfcgbgeaaGreat
open List (length_append)
set_option linter.unusedVariables false
set_option linter.unusedSimpArgs false
set_option maxHeartbeats 1000000
set_option maxRecDepth 100000
open Go.RowKit
def ZB (n : Nat) : ByteArray := ⟨(Go.Lib.decDigits n).toArray⟩
theorem Yk (n : Nat) : (ZB n).data.toList = Go.Lib.decDigits n := rfl
theorem Zit {n : Nat} (h : n < 10) : ZB n = ⟨#[UInt8.ofNat (48 + n)]⟩ := by
 apply YE; rw [Yk, Go.Lib.decDigits_one h]
theorem ZdK {n : Nat} (h : ¬ n < 10) : ZB n = ZB (n / 10) ++ ⟨#[UInt8.ofNat (48 + n % 10)]⟩ := by
 apply YE; rw [Z6, Yk, Yk, Go.Lib.decDigits, dif_neg h]
theorem Ziu {n k : Nat} (h : n < 10 ^ (k + 1)) : Go.Lib.nDigits n ≤ k + 1 := by
 induction k generalizing n with
 | zero => rw [Go.Lib.nDigits_small (by simpa using h)]; exact Nat.le_refl _
 | succ k ih =>
  by_cases hs : n < 10
  ·rw [Go.Lib.nDigits_small hs]; omega
  ·have := ih (n := n / 10) (by rw [Nat.pow_succ] at h; omega)
   rw [Go.Lib.nDigits_big hs]; omega
theorem Zfp {n : Nat} : (ZB n).size = Go.Lib.nDigits n := by rw [Zi, Yk, Go.Lib.decDigits_length]
theorem Zap {n k : Nat} (h : n < 10 ^ (k + 1)) : (ZB n).size ≤ k + 1 := by rw [Zfp]; exact Ziu h
theorem Zbz (n : Nat) : 1 ≤ (ZB n).size := by rw [Zfp]; exact Go.Lib.nDigits_pos n
theorem Vf {n : Nat} (h : n ≤ 9223372036854775807) : (ZB n).size ≤ 19 := Zap (k := 18) (by omega)
def ZdL : ByteArray := ⟨#[58]⟩
def YB (n : Int) : ByteArray := if 0 ≤ n ∧ n ≤ 999999999 then ZB n.toNat else ByteArray.empty
theorem Xm {n : Int} (h0 : 0 ≤ n) (h1 : n ≤ 999999999) : YB n = ZB n.toNat := if_pos ⟨h0, h1⟩
theorem XB (n : Int) : (YB n).size ≤ 9 := by
 unfold YB; split
 ·exact Zap (k := 8) (by omega)
 ·exact Nat.zero_le _
def Yf (l : List ByteArray) : ByteArray := l.foldl (fun a s => a ++ ZB s.size ++ ZdL ++ s) ByteArray.empty
theorem Zj6 (l : List ByteArray) (s : ByteArray) : Yf (l ++ [s]) = Yf l ++ ZB s.size ++ ZdL ++ s := by
 unfold Yf; rw [List.foldl_append]; rfl
theorem Zfq (xs : List ByteArray) {k : Nat} (h : k < xs.length) : xs.take (k + 1) = xs.take k ++ [xs.getD k ByteArray.empty] := by
 rw [List.take_add_one, List.getElem?_eq_getElem h]; simp [List.getD, h]
theorem Zcm (xs : List ByteArray) {k : Nat} (h : k < xs.length) : Yf (xs.take (k + 1)) = Yf (xs.take k) ++ ZB (xs.getD k ByteArray.empty).size ++ ZdL ++ xs.getD k ByteArray.empty := by
 rw [Zfq xs h, Zj6]
theorem Zl (a b : ByteArray) : (a ++ b).size = a.size + b.size := by rw [Zi, Z6, length_append, ← Zi, ← Zi]
theorem Ziv (l : List ByteArray) (a : ByteArray) : a.size ≤ (l.foldl (fun a s => a ++ ZB s.size ++ ZdL ++ s) a).size := by
 induction l generalizing a with
 | nil => exact Nat.le_refl _
 | cons s l ih =>
  refine Nat.le_trans ?_ (ih _);rw [Zl, Zl, Zl]; omega
theorem Zfr (xs : List ByteArray) (k : Nat) : (Yf (xs.take k)).size ≤ (Yf xs).size := by
 conv => rhs; rw [← List.take_append_drop k xs]
 unfold Yf; rw [List.foldl_append]; exact Ziv _ _
theorem X9 (xs : List ByteArray) {k : Nat} (h : k < xs.length) : (xs.getD k ByteArray.empty).size < (Yf xs).size := by
 refine Nat.lt_of_lt_of_le ?_ (Zfr xs (k + 1));rw [Zcm xs h, Zl, Zl, Zl];have : ZdL.size = 1 := rfl
 omega
def Yw (l : List ByteArray) : ByteArray × Bool := if l.length ≤ 60 ∧ (Yf l).size ≤ 2048 then (Yf l, true) else (ByteArray.empty, false)
theorem Xb {l : List ByteArray} (h : l.length ≤ 60) (hs : (Yf l).size ≤ 2048) : Yw l = (Yf l, true) := if_pos ⟨h, hs⟩
theorem VQ {l : List ByteArray} (h : ¬ l.length ≤ 60) : Yw l = (ByteArray.empty, false) := if_neg fun x => h x.1
theorem Ze8 {l : List ByteArray} {k : Nat} (hs : ¬ (Yf (l.take k)).size ≤ 2048) : Yw l = (ByteArray.empty, false) := if_neg fun x => hs (Nat.le_trans (Zfr l k) x.2)
theorem ZdM {l : List ByteArray} {k : Nat} (hk : k < l.length) (hs : ¬ (l.getD k ByteArray.empty).size ≤ 2048) : Yw l = (ByteArray.empty, false) := if_neg fun x => by have := X9 l hk; omega
def szs (xs : List ByteArray) : Prop := ∀ k, (xs.getD k ByteArray.empty).size ≤ 1099511627776
theorem Znh : szs [] := fun k => by simp
theorem JP {x : ByteArray} {xs : List ByteArray} (h : x.size ≤ 1099511627776) (hs : szs xs) : szs (x :: xs) := fun k => by
 cases k with
 | zero => simpa using h
 | succ k => simpa using hs k
end Go.Proofs.YtfhdmfcfcgbgeaaGreat
