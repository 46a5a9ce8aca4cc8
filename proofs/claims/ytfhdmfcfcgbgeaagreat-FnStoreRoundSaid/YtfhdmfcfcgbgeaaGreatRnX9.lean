/- A part of the proof in YtfhdmfcfcgbgeaaGreatRnX30. -/
import Derived.Lib.ItoaNum
import Derived.Test.YtfhdmfcfcgbgeaaGreatRnX8
namespace Go.Proofs.YtfhdmfcfcgbgeaaGreat
open List (length_append)
set_option linter.unusedVariables false
set_option linter.unusedSimpArgs false
set_option maxHeartbeats 1000000
set_option maxRecDepth 100000
open Go.RowKit
def ZB (n : Nat) : ByteArray := ⟨(Go.Lib.decDigits n).toArray⟩
theorem Yh (n : Nat) : (ZB n).data.toList = Go.Lib.decDigits n := rfl
theorem Zie {n : Nat} (h : n < 10) : ZB n = ⟨#[UInt8.ofNat (48 + n)]⟩ := by
 apply YB; rw [Yh, Go.Lib.decDigits_one h]
theorem ZdA {n : Nat} (h : ¬ n < 10) : ZB n = ZB (n / 10) ++ ⟨#[UInt8.ofNat (48 + n % 10)]⟩ := by
 apply YB; rw [Z5, Yh, Yh, Go.Lib.decDigits, dif_neg h]
theorem Zif {n k : Nat} (h : n < 10 ^ (k + 1)) : Go.Lib.nDigits n ≤ k + 1 := by
 induction k generalizing n with
 | zero => rw [Go.Lib.nDigits_small (by simpa using h)]; exact Nat.le_refl _
 | succ k ih =>
  by_cases hs : n < 10
  ·rw [Go.Lib.nDigits_small hs]; omega
  ·have := ih (n := n / 10) (by rw [Nat.pow_succ] at h; omega)
   rw [Go.Lib.nDigits_big hs]; omega
theorem Ze6 {n : Nat} : (ZB n).size = Go.Lib.nDigits n := by rw [Zi, Yh, Go.Lib.decDigits_length]
theorem Zak {n k : Nat} (h : n < 10 ^ (k + 1)) : (ZB n).size ≤ k + 1 := by rw [Ze6]; exact Zif h
theorem Zbr (n : Nat) : 1 ≤ (ZB n).size := by rw [Ze6]; exact Go.Lib.nDigits_pos n
theorem Vb {n : Nat} (h : n ≤ 9223372036854775807) : (ZB n).size ≤ 19 := Zak (k := 18) (by omega)
def ZdB : ByteArray := ⟨#[58]⟩
def Yy (n : Int) : ByteArray := if 0 ≤ n ∧ n ≤ 999999999 then ZB n.toNat else ByteArray.empty
theorem Xg {n : Int} (h0 : 0 ≤ n) (h1 : n ≤ 999999999) : Yy n = ZB n.toNat := if_pos ⟨h0, h1⟩
theorem Xt (n : Int) : (Yy n).size ≤ 9 := by
 unfold Yy; split
 ·exact Zak (k := 8) (by omega)
 ·exact Nat.zero_le _
def Yc (l : List ByteArray) : ByteArray := l.foldl (fun a s => a ++ ZB s.size ++ ZdB ++ s) ByteArray.empty
theorem ZjR (l : List ByteArray) (s : ByteArray) : Yc (l ++ [s]) = Yc l ++ ZB s.size ++ ZdB ++ s := by
 unfold Yc; rw [List.foldl_append]; rfl
theorem Ze7 (xs : List ByteArray) {k : Nat} (h : k < xs.length) : xs.take (k + 1) = xs.take k ++ [xs.getD k ByteArray.empty] := by
 rw [List.take_add_one, List.getElem?_eq_getElem h]; simp [List.getD, h]
theorem Zce (xs : List ByteArray) {k : Nat} (h : k < xs.length) : Yc (xs.take (k + 1)) = Yc (xs.take k) ++ ZB (xs.getD k ByteArray.empty).size ++ ZdB ++ xs.getD k ByteArray.empty := by
 rw [Ze7 xs h, ZjR]
theorem Zl (a b : ByteArray) : (a ++ b).size = a.size + b.size := by rw [Zi, Z5, length_append, ← Zi, ← Zi]
theorem Zig (l : List ByteArray) (a : ByteArray) : a.size ≤ (l.foldl (fun a s => a ++ ZB s.size ++ ZdB ++ s) a).size := by
 induction l generalizing a with
 | nil => exact Nat.le_refl _
 | cons s l ih =>
  refine Nat.le_trans ?_ (ih _);rw [Zl, Zl, Zl]; omega
theorem Ze8 (xs : List ByteArray) (k : Nat) : (Yc (xs.take k)).size ≤ (Yc xs).size := by
 conv => rhs; rw [← List.take_append_drop k xs]
 unfold Yc; rw [List.foldl_append]; exact Zig _ _
theorem X2 (xs : List ByteArray) {k : Nat} (h : k < xs.length) : (xs.getD k ByteArray.empty).size < (Yc xs).size := by
 refine Nat.lt_of_lt_of_le ?_ (Ze8 xs (k + 1));rw [Zce xs h, Zl, Zl, Zl];have : ZdB.size = 1 := rfl
 omega
def Yv (l : List ByteArray) : ByteArray × Bool := if l.length ≤ 60 ∧ (Yc l).size ≤ 2048 then (Yc l, true) else (ByteArray.empty, false)
theorem Y7 {l : List ByteArray} (h : l.length ≤ 60) (hs : (Yc l).size ≤ 2048) : Yv l = (Yc l, true) := if_pos ⟨h, hs⟩
theorem VL {l : List ByteArray} (h : ¬ l.length ≤ 60) : Yv l = (ByteArray.empty, false) := if_neg fun x => h x.1
theorem ZeP {l : List ByteArray} {k : Nat} (hs : ¬ (Yc (l.take k)).size ≤ 2048) : Yv l = (ByteArray.empty, false) := if_neg fun x => hs (Nat.le_trans (Ze8 l k) x.2)
theorem ZdC {l : List ByteArray} {k : Nat} (hk : k < l.length) (hs : ¬ (l.getD k ByteArray.empty).size ≤ 2048) : Yv l = (ByteArray.empty, false) := if_neg fun x => by have := X2 l hk; omega
def szs (xs : List ByteArray) : Prop := ∀ k, (xs.getD k ByteArray.empty).size ≤ 1099511627776
theorem Zm2 : szs [] := fun k => by simp
theorem JN {x : ByteArray} {xs : List ByteArray} (h : x.size ≤ 1099511627776) (hs : szs xs) : szs (x :: xs) := fun k => by
 cases k with
 | zero => simpa using h
 | succ k => simpa using hs k
end Go.Proofs.YtfhdmfcfcgbgeaaGreat
