/- A part of the proof in YtfhdmfcfcgbgeaaGreatRdX29. -/
import Derived.Lib.ItoaNum
import Derived.Test.YtfhdmfcfcgbgeaaGreatRdX8
namespace Go.Proofs.YtfhdmfcfcgbgeaaGreat
open List (length_append)
set_option linter.unusedVariables false
set_option linter.unusedSimpArgs false
set_option maxHeartbeats 1000000
set_option maxRecDepth 100000
open Go.RowKit
def Zy (n : Nat) : ByteArray := ⟨(Go.Lib.decDigits n).toArray⟩
theorem Yd (n : Nat) : (Zy n).data.toList = Go.Lib.decDigits n := rfl
theorem ZhF {n : Nat} (h : n < 10) : Zy n = ⟨#[UInt8.ofNat (48 + n)]⟩ := by
 apply Yv; rw [Yd, Go.Lib.decDigits_one h]
theorem Zdb {n : Nat} (h : ¬ n < 10) : Zy n = Zy (n / 10) ++ ⟨#[UInt8.ofNat (48 + n % 10)]⟩ := by
 apply Yv; rw [ZZ, Yd, Yd, Go.Lib.decDigits, dif_neg h]
theorem ZhG {n k : Nat} (h : n < 10 ^ (k + 1)) : Go.Lib.nDigits n ≤ k + 1 := by
 induction k generalizing n with
 | zero => rw [Go.Lib.nDigits_small (by simpa using h)]; exact Nat.le_refl _
 | succ k ih =>
  by_cases hs : n < 10
  ·rw [Go.Lib.nDigits_small hs]; omega
  ·have := ih (n := n / 10) (by rw [Nat.pow_succ] at h; omega)
   rw [Go.Lib.nDigits_big hs]; omega
theorem ZeE {n : Nat} : (Zy n).size = Go.Lib.nDigits n := by rw [Zi, Yd, Go.Lib.decDigits_length]
theorem V0 {n k : Nat} (h : n < 10 ^ (k + 1)) : (Zy n).size ≤ k + 1 := by rw [ZeE]; exact ZhG h
theorem Zba (n : Nat) : 1 ≤ (Zy n).size := by rw [ZeE]; exact Go.Lib.nDigits_pos n
theorem UO {n : Nat} (h : n ≤ 9223372036854775807) : (Zy n).size ≤ 19 := V0 (k := 18) (by omega)
def Zdc : ByteArray := ⟨#[58]⟩
def Yt (n : Int) : ByteArray := if 0 ≤ n ∧ n ≤ 999999999 then Zy n.toNat else ByteArray.empty
theorem Y9 {n : Int} (h0 : 0 ≤ n) (h1 : n ≤ 999999999) : Yt n = Zy n.toNat := if_pos ⟨h0, h1⟩
theorem Xq (n : Int) : (Yt n).size ≤ 9 := by
 unfold Yt; split
 ·exact V0 (k := 8) (by omega)
 ·exact Nat.zero_le _
def Z8 (l : List ByteArray) : ByteArray := l.foldl (fun a s => a ++ Zy s.size ++ Zdc ++ s) ByteArray.empty
theorem Zji (l : List ByteArray) (s : ByteArray) : Z8 (l ++ [s]) = Z8 l ++ Zy s.size ++ Zdc ++ s := by
 unfold Z8; rw [List.foldl_append]; rfl
theorem ZeF (xs : List ByteArray) {k : Nat} (h : k < xs.length) : xs.take (k + 1) = xs.take k ++ [xs.getD k ByteArray.empty] := by
 rw [List.take_add_one, List.getElem?_eq_getElem h]; simp [List.getD, h]
theorem ZbS (xs : List ByteArray) {k : Nat} (h : k < xs.length) : Z8 (xs.take (k + 1)) = Z8 (xs.take k) ++ Zy (xs.getD k ByteArray.empty).size ++ Zdc ++ xs.getD k ByteArray.empty := by
 rw [ZeF xs h, Zji]
theorem Zk (a b : ByteArray) : (a ++ b).size = a.size + b.size := by rw [Zi, ZZ, length_append, ← Zi, ← Zi]
theorem ZhH (l : List ByteArray) (a : ByteArray) : a.size ≤ (l.foldl (fun a s => a ++ Zy s.size ++ Zdc ++ s) a).size := by
 induction l generalizing a with
 | nil => exact Nat.le_refl _
 | cons s l ih =>
  refine Nat.le_trans ?_ (ih _);rw [Zk, Zk, Zk]; omega
theorem ZeG (xs : List ByteArray) (k : Nat) : (Z8 (xs.take k)).size ≤ (Z8 xs).size := by
 conv => rhs; rw [← List.take_append_drop k xs]
 unfold Z8; rw [List.foldl_append]; exact ZhH _ _
theorem XX (xs : List ByteArray) {k : Nat} (h : k < xs.length) : (xs.getD k ByteArray.empty).size < (Z8 xs).size := by
 refine Nat.lt_of_lt_of_le ?_ (ZeG xs (k + 1));rw [ZbS xs h, Zk, Zk, Zk];have : Zdc.size = 1 := rfl
 omega
def Yr (l : List ByteArray) : ByteArray × Bool := if l.length ≤ 60 ∧ (Z8 l).size ≤ 2048 then (Z8 l, true) else (ByteArray.empty, false)
theorem Y0 {l : List ByteArray} (h : l.length ≤ 60) (hs : (Z8 l).size ≤ 2048) : Yr l = (Z8 l, true) := if_pos ⟨h, hs⟩
theorem Vq {l : List ByteArray} (h : ¬ l.length ≤ 60) : Yr l = (ByteArray.empty, false) := if_neg fun x => h x.1
theorem Zel {l : List ByteArray} {k : Nat} (hs : ¬ (Z8 (l.take k)).size ≤ 2048) : Yr l = (ByteArray.empty, false) := if_neg fun x => hs (Nat.le_trans (ZeG l k) x.2)
theorem Zdd {l : List ByteArray} {k : Nat} (hk : k < l.length) (hs : ¬ (l.getD k ByteArray.empty).size ≤ 2048) : Yr l = (ByteArray.empty, false) := if_neg fun x => by have := XX l hk; omega
def szs (xs : List ByteArray) : Prop := ∀ k, (xs.getD k ByteArray.empty).size ≤ 1099511627776
theorem Zmp : szs [] := fun k => by simp
theorem Jt {x : ByteArray} {xs : List ByteArray} (h : x.size ≤ 1099511627776) (hs : szs xs) : szs (x :: xs) := fun k => by
 cases k with
 | zero => simpa using h
 | succ k => simpa using hs k
end Go.Proofs.YtfhdmfcfcgbgeaaGreat
