/- A part of the proof in YtfhdmfcfcgbgeaaGreatNxX30. -/
import Derived.Lib.ItoaNum
import Derived.Test.YtfhdmfcfcgbgeaaGreatNxX8
namespace Go.Proofs.YtfhdmfcfcgbgeaaGreat
open List (length_append)
set_option linter.unusedVariables false
set_option linter.unusedSimpArgs false
set_option maxHeartbeats 1000000
set_option maxRecDepth 100000
open Go.RowKit
def ZA (n : Nat) : ByteArray := ⟨(Go.Lib.decDigits n).toArray⟩
theorem Yf (n : Nat) : (ZA n).data.toList = Go.Lib.decDigits n := rfl
theorem Zh9 {n : Nat} (h : n < 10) : ZA n = ⟨#[UInt8.ofNat (48 + n)]⟩ := by
 apply Yw; rw [Yf, Go.Lib.decDigits_one h]
theorem Zdt {n : Nat} (h : ¬ n < 10) : ZA n = ZA (n / 10) ++ ⟨#[UInt8.ofNat (48 + n % 10)]⟩ := by
 apply Yw; rw [Z3, Yf, Yf, Go.Lib.decDigits, dif_neg h]
theorem Zia {n k : Nat} (h : n < 10 ^ (k + 1)) : Go.Lib.nDigits n ≤ k + 1 := by
 induction k generalizing n with
 | zero => rw [Go.Lib.nDigits_small (by simpa using h)]; exact Nat.le_refl _
 | succ k ih =>
  by_cases hs : n < 10
  ·rw [Go.Lib.nDigits_small hs]; omega
  ·have := ih (n := n / 10) (by rw [Nat.pow_succ] at h; omega)
   rw [Go.Lib.nDigits_big hs]; omega
theorem ZeY {n : Nat} : (ZA n).size = Go.Lib.nDigits n := by rw [Zi, Yf, Go.Lib.decDigits_length]
theorem V1 {n k : Nat} (h : n < 10 ^ (k + 1)) : (ZA n).size ≤ k + 1 := by rw [ZeY]; exact Zia h
theorem Zbf (n : Nat) : 1 ≤ (ZA n).size := by rw [ZeY]; exact Go.Lib.nDigits_pos n
theorem UV {n : Nat} (h : n ≤ 9223372036854775807) : (ZA n).size ≤ 19 := V1 (k := 18) (by omega)
def Zdu : ByteArray := ⟨#[58]⟩
def Yu (n : Int) : ByteArray := if 0 ≤ n ∧ n ≤ 999999999 then ZA n.toNat else ByteArray.empty
theorem Y6 {n : Int} (h0 : 0 ≤ n) (h1 : n ≤ 999999999) : Yu n = ZA n.toNat := if_pos ⟨h0, h1⟩
theorem Xn (n : Int) : (Yu n).size ≤ 9 := by
 unfold Yu; split
 ·exact V1 (k := 8) (by omega)
 ·exact Nat.zero_le _
def Yc (l : List ByteArray) : ByteArray := l.foldl (fun a s => a ++ ZA s.size ++ Zdu ++ s) ByteArray.empty
theorem ZjQ (l : List ByteArray) (s : ByteArray) : Yc (l ++ [s]) = Yc l ++ ZA s.size ++ Zdu ++ s := by
 unfold Yc; rw [List.foldl_append]; rfl
theorem ZeZ (xs : List ByteArray) {k : Nat} (h : k < xs.length) : xs.take (k + 1) = xs.take k ++ [xs.getD k ByteArray.empty] := by
 rw [List.take_add_one, List.getElem?_eq_getElem h]; simp [List.getD, h]
theorem Zb2 (xs : List ByteArray) {k : Nat} (h : k < xs.length) : Yc (xs.take (k + 1)) = Yc (xs.take k) ++ ZA (xs.getD k ByteArray.empty).size ++ Zdu ++ xs.getD k ByteArray.empty := by
 rw [ZeZ xs h, ZjQ]
theorem Zk (a b : ByteArray) : (a ++ b).size = a.size + b.size := by rw [Zi, Z3, length_append, ← Zi, ← Zi]
theorem Zib (l : List ByteArray) (a : ByteArray) : a.size ≤ (l.foldl (fun a s => a ++ ZA s.size ++ Zdu ++ s) a).size := by
 induction l generalizing a with
 | nil => exact Nat.le_refl _
 | cons s l ih =>
  refine Nat.le_trans ?_ (ih _);rw [Zk, Zk, Zk]; omega
theorem Ze0 (xs : List ByteArray) (k : Nat) : (Yc (xs.take k)).size ≤ (Yc xs).size := by
 conv => rhs; rw [← List.take_append_drop k xs]
 unfold Yc; rw [List.foldl_append]; exact Zib _ _
theorem XU (xs : List ByteArray) {k : Nat} (h : k < xs.length) : (xs.getD k ByteArray.empty).size < (Yc xs).size := by
 refine Nat.lt_of_lt_of_le ?_ (Ze0 xs (k + 1));rw [Zb2 xs h, Zk, Zk, Zk];have : Zdu.size = 1 := rfl
 omega
def Ys (l : List ByteArray) : ByteArray × Bool := if l.length ≤ 60 ∧ (Yc l).size ≤ 2048 then (Yc l, true) else (ByteArray.empty, false)
theorem YX {l : List ByteArray} (h : l.length ≤ 60) (hs : (Yc l).size ≤ 2048) : Ys l = (Yc l, true) := if_pos ⟨h, hs⟩
theorem Vt {l : List ByteArray} (h : ¬ l.length ≤ 60) : Ys l = (ByteArray.empty, false) := if_neg fun x => h x.1
theorem ZeF {l : List ByteArray} {k : Nat} (hs : ¬ (Yc (l.take k)).size ≤ 2048) : Ys l = (ByteArray.empty, false) := if_neg fun x => hs (Nat.le_trans (Ze0 l k) x.2)
theorem Zdv {l : List ByteArray} {k : Nat} (hk : k < l.length) (hs : ¬ (l.getD k ByteArray.empty).size ≤ 2048) : Ys l = (ByteArray.empty, false) := if_neg fun x => by have := XU l hk; omega
def szs (xs : List ByteArray) : Prop := ∀ k, (xs.getD k ByteArray.empty).size ≤ 1099511627776
theorem Zm2 : szs [] := fun k => by simp
theorem Jt {x : ByteArray} {xs : List ByteArray} (h : x.size ≤ 1099511627776) (hs : szs xs) : szs (x :: xs) := fun k => by
 cases k with
 | zero => simpa using h
 | succ k => simpa using hs k
end Go.Proofs.YtfhdmfcfcgbgeaaGreat
