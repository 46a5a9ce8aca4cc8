/- A part of the proof in YtfhdmfcfcgbgeaaGreatSoX29. -/
import Derived.Lib.ItoaNum
import Derived.Test.YtfhdmfcfcgbgeaaGreatSoX8
namespace Go.Proofs.YtfhdmfcfcgbgeaaGreat
open List (length_append)
set_option linter.unusedVariables false
set_option linter.unusedSimpArgs false
set_option maxHeartbeats 1000000
set_option maxRecDepth 100000
open Go.RowKit
def Zy (n : Nat) : ByteArray := ⟨(Go.Lib.decDigits n).toArray⟩
theorem Ye (n : Nat) : (Zy n).data.toList = Go.Lib.decDigits n := rfl
theorem ZhU {n : Nat} (h : n < 10) : Zy n = ⟨#[UInt8.ofNat (48 + n)]⟩ := by
 apply Yw; rw [Ye, Go.Lib.decDigits_one h]
theorem Zdk {n : Nat} (h : ¬ n < 10) : Zy n = Zy (n / 10) ++ ⟨#[UInt8.ofNat (48 + n % 10)]⟩ := by
 apply Yw; rw [Z0, Ye, Ye, Go.Lib.decDigits, dif_neg h]
theorem ZhV {n k : Nat} (h : n < 10 ^ (k + 1)) : Go.Lib.nDigits n ≤ k + 1 := by
 induction k generalizing n with
 | zero => rw [Go.Lib.nDigits_small (by simpa using h)]; exact Nat.le_refl _
 | succ k ih =>
  by_cases hs : n < 10
  ·rw [Go.Lib.nDigits_small hs]; omega
  ·have := ih (n := n / 10) (by rw [Nat.pow_succ] at h; omega)
   rw [Go.Lib.nDigits_big hs]; omega
theorem ZeS {n : Nat} : (Zy n).size = Go.Lib.nDigits n := by rw [Zi, Ye, Go.Lib.decDigits_length]
theorem VZ {n k : Nat} (h : n < 10 ^ (k + 1)) : (Zy n).size ≤ k + 1 := by rw [ZeS]; exact ZhV h
theorem Zbb (n : Nat) : 1 ≤ (Zy n).size := by rw [ZeS]; exact Go.Lib.nDigits_pos n
theorem US {n : Nat} (h : n ≤ 9223372036854775807) : (Zy n).size ≤ 19 := VZ (k := 18) (by omega)
def Zdl : ByteArray := ⟨#[58]⟩
def Yu (n : Int) : ByteArray := if 0 ≤ n ∧ n ≤ 999999999 then Zy n.toNat else ByteArray.empty
theorem Y4 {n : Int} (h0 : 0 ≤ n) (h1 : n ≤ 999999999) : Yu n = Zy n.toNat := if_pos ⟨h0, h1⟩
theorem Xk (n : Int) : (Yu n).size ≤ 9 := by
 unfold Yu; split
 ·exact VZ (k := 8) (by omega)
 ·exact Nat.zero_le _
def Ya (l : List ByteArray) : ByteArray := l.foldl (fun a s => a ++ Zy s.size ++ Zdl ++ s) ByteArray.empty
theorem Zjs (l : List ByteArray) (s : ByteArray) : Ya (l ++ [s]) = Ya l ++ Zy s.size ++ Zdl ++ s := by
 unfold Ya; rw [List.foldl_append]; rfl
theorem ZeT (xs : List ByteArray) {k : Nat} (h : k < xs.length) : xs.take (k + 1) = xs.take k ++ [xs.getD k ByteArray.empty] := by
 rw [List.take_add_one, List.getElem?_eq_getElem h]; simp [List.getD, h]
theorem ZbZ (xs : List ByteArray) {k : Nat} (h : k < xs.length) : Ya (xs.take (k + 1)) = Ya (xs.take k) ++ Zy (xs.getD k ByteArray.empty).size ++ Zdl ++ xs.getD k ByteArray.empty := by
 rw [ZeT xs h, Zjs]
theorem Zk (a b : ByteArray) : (a ++ b).size = a.size + b.size := by rw [Zi, Z0, length_append, ← Zi, ← Zi]
theorem ZhW (l : List ByteArray) (a : ByteArray) : a.size ≤ (l.foldl (fun a s => a ++ Zy s.size ++ Zdl ++ s) a).size := by
 induction l generalizing a with
 | nil => exact Nat.le_refl _
 | cons s l ih =>
  refine Nat.le_trans ?_ (ih _);rw [Zk, Zk, Zk]; omega
theorem ZeU (xs : List ByteArray) (k : Nat) : (Ya (xs.take k)).size ≤ (Ya xs).size := by
 conv => rhs; rw [← List.take_append_drop k xs]
 unfold Ya; rw [List.foldl_append]; exact ZhW _ _
theorem XS (xs : List ByteArray) {k : Nat} (h : k < xs.length) : (xs.getD k ByteArray.empty).size < (Ya xs).size := by
 refine Nat.lt_of_lt_of_le ?_ (ZeU xs (k + 1));rw [ZbZ xs h, Zk, Zk, Zk];have : Zdl.size = 1 := rfl
 omega
def Yr (l : List ByteArray) : ByteArray × Bool := if l.length ≤ 60 ∧ (Ya l).size ≤ 2048 then (Ya l, true) else (ByteArray.empty, false)
theorem YW {l : List ByteArray} (h : l.length ≤ 60) (hs : (Ya l).size ≤ 2048) : Yr l = (Ya l, true) := if_pos ⟨h, hs⟩
theorem Vq {l : List ByteArray} (h : ¬ l.length ≤ 60) : Yr l = (ByteArray.empty, false) := if_neg fun x => h x.1
theorem Zez {l : List ByteArray} {k : Nat} (hs : ¬ (Ya (l.take k)).size ≤ 2048) : Yr l = (ByteArray.empty, false) := if_neg fun x => hs (Nat.le_trans (ZeU l k) x.2)
theorem Zdm {l : List ByteArray} {k : Nat} (hk : k < l.length) (hs : ¬ (l.getD k ByteArray.empty).size ≤ 2048) : Yr l = (ByteArray.empty, false) := if_neg fun x => by have := XS l hk; omega
def szs (xs : List ByteArray) : Prop := ∀ k, (xs.getD k ByteArray.empty).size ≤ 1099511627776
theorem Zmx : szs [] := fun k => by simp
theorem Js {x : ByteArray} {xs : List ByteArray} (h : x.size ≤ 1099511627776) (hs : szs xs) : szs (x :: xs) := fun k => by
 cases k with
 | zero => simpa using h
 | succ k => simpa using hs k
end Go.Proofs.YtfhdmfcfcgbgeaaGreat
