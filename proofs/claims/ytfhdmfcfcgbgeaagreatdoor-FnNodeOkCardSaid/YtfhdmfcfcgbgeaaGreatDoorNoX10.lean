/- A part of the proof in YtfhdmfcfcgbgeaaGreatDoorNoX33. -/
import Derived.Lib.ItoaNum
import Derived.Test.YtfhdmfcfcgbgeaaGreatDoorNoX9
namespace Go.Proofs.YtfhdmfcfcgbgeaaGreatDoor
open List (getD_eq_getElem?_getD length_append)
set_option linter.unusedVariables false
set_option linter.unusedSimpArgs false
set_option maxHeartbeats 1000000
set_option maxRecDepth 100000
open Go.RowKit
def Zy (n : Nat) : ByteArray := ⟨(Go.Lib.decDigits n).toArray⟩
theorem Yp (n : Nat) : (Zy n).data.toList = Go.Lib.decDigits n := rfl
theorem ZhU {n : Nat} (h : n < 10) : Zy n = ⟨#[UInt8.ofNat (48 + n)]⟩ := by
 apply YA; rw [Yp, Go.Lib.decDigits_one h]
theorem Zdi {n : Nat} (h : ¬ n < 10) : Zy n = Zy (n / 10) ++ ⟨#[UInt8.ofNat (48 + n % 10)]⟩ := by
 apply YA; rw [ZA, Yp, Yp, Go.Lib.decDigits, dif_neg h]
theorem ZhV {n k : Nat} (h : n < 10 ^ (k + 1)) : Go.Lib.nDigits n ≤ k + 1 := by
 induction k generalizing n with
 | zero => rw [Go.Lib.nDigits_small (by simpa using h)]; exact Nat.le_refl _
 | succ k ih =>
  by_cases hs : n < 10
  ·rw [Go.Lib.nDigits_small hs]; omega
  ·have := ih (n := n / 10) (by rw [Nat.pow_succ] at h; omega)
   rw [Go.Lib.nDigits_big hs]; omega
theorem ZeM {n : Nat} : (Zy n).size = Go.Lib.nDigits n := by rw [Zi, Yp, Go.Lib.decDigits_length]
theorem Zab {n k : Nat} (h : n < 10 ^ (k + 1)) : (Zy n).size ≤ k + 1 := by rw [ZeM]; exact ZhV h
theorem Zdj (n : Nat) : 1 ≤ (Zy n).size := by rw [ZeM]; exact Go.Lib.nDigits_pos n
theorem J7 {n : Nat} (h : n ≤ 9223372036854775807) : (Zy n).size ≤ 19 := Zab (k := 18) (by omega)
def Zdk : ByteArray := ⟨#[58]⟩
def ZJ (n : Int) : ByteArray := if 0 ≤ n ∧ n ≤ 999999999 then Zy n.toNat else ByteArray.empty
theorem Y1 {n : Int} (h0 : 0 ≤ n) (h1 : n ≤ 999999999) : ZJ n = Zy n.toNat := if_pos ⟨h0, h1⟩
theorem Zk7 {n : Int} (h : ¬ (0 ≤ n ∧ n ≤ 999999999)) : ZJ n = ByteArray.empty := if_neg h
theorem Ym (n : Int) : (ZJ n).size ≤ 9 := by
 unfold ZJ; split
 ·exact Zab (k := 8) (by omega)
 ·exact Nat.zero_le _
def ZY (l : List ByteArray) : ByteArray := l.foldl (fun a s => a ++ Zy s.size ++ Zdk ++ s) ByteArray.empty
theorem ZjB (l : List ByteArray) (s : ByteArray) : ZY (l ++ [s]) = ZY l ++ Zy s.size ++ Zdk ++ s := by
 unfold ZY; rw [List.foldl_append]; rfl
theorem ZeN (xs : List ByteArray) {k : Nat} (h : k < xs.length) : xs.take (k + 1) = xs.take k ++ [xs.getD k ByteArray.empty] := by
 rw [List.take_add_one, List.getElem?_eq_getElem h]; simp [List.getD, h]
theorem Jn (xs : List ByteArray) {k : Nat} (h : k < xs.length) : ZY (xs.take (k + 1)) = ZY (xs.take k) ++ Zy (xs.getD k ByteArray.empty).size ++ Zdk ++ xs.getD k ByteArray.empty := by
 rw [ZeN xs h, ZjB]
theorem Zk (a b : ByteArray) : (a ++ b).size = a.size + b.size := by rw [Zi, ZA, length_append, ← Zi, ← Zi]
theorem ZhW (l : List ByteArray) (a : ByteArray) : a.size ≤ (l.foldl (fun a s => a ++ Zy s.size ++ Zdk ++ s) a).size := by
 induction l generalizing a with
 | nil => exact Nat.le_refl _
 | cons s l ih =>
  refine Nat.le_trans ?_ (ih _);rw [Zk, Zk, Zk]; omega
theorem ZeO (xs : List ByteArray) (k : Nat) : (ZY (xs.take k)).size ≤ (ZY xs).size := by
 conv => rhs; rw [← List.take_append_drop k xs]
 unfold ZY; rw [List.foldl_append]; exact ZhW _ _
theorem XS (xs : List ByteArray) {k : Nat} (h : k < xs.length) : (xs.getD k ByteArray.empty).size < (ZY xs).size := by
 refine Nat.lt_of_lt_of_le ?_ (ZeO xs (k + 1));rw [Jn xs h, Zk, Zk, Zk];have : Zdk.size = 1 := rfl
 omega
def Yf (l : List ByteArray) : ByteArray × Bool := if l.length ≤ 60 ∧ (ZY l).size ≤ 2048 then (ZY l, true) else (ByteArray.empty, false)
theorem YQ {l : List ByteArray} (h : l.length ≤ 60) (hs : (ZY l).size ≤ 2048) : Yf l = (ZY l, true) := if_pos ⟨h, hs⟩
theorem JD {l : List ByteArray} (h : ¬ l.length ≤ 60) : Yf l = (ByteArray.empty, false) := if_neg fun x => h x.1
theorem Zau {l : List ByteArray} {k : Nat} (hs : ¬ (ZY (l.take k)).size ≤ 2048) : Yf l = (ByteArray.empty, false) := if_neg fun x => hs (Nat.le_trans (ZeO l k) x.2)
theorem Zdl {l : List ByteArray} {k : Nat} (hk : k < l.length) (hs : ¬ (l.getD k ByteArray.empty).size ≤ 2048) : Yf l = (ByteArray.empty, false) := if_neg fun x => by have := XS l hk; omega
def szs (xs : List ByteArray) : Prop := ∀ k, (xs.getD k ByteArray.empty).size ≤ 1099511627776
theorem J8 : szs [] := fun k => by simp
theorem Yt {x : ByteArray} {xs : List ByteArray} (h : x.size ≤ 1099511627776) (hs : szs xs) : szs (x :: xs) := fun k => by
 cases k with
 | zero => simpa using h
 | succ k => simpa using hs k
theorem Zbp {xs ys : List ByteArray} (hx : szs xs) (hy : szs ys) : szs (xs ++ ys) := fun k => by
 by_cases h : k < xs.length
 ·have := hx k
  simp only [getD_eq_getElem?_getD] at this ⊢;rw [List.getElem?_append_left h]; exact this
 ·have := hy (k - xs.length)
  simp only [getD_eq_getElem?_getD] at this ⊢;rw [List.getElem?_append_right (by omega)]; exact this
end Go.Proofs.YtfhdmfcfcgbgeaaGreatDoor
