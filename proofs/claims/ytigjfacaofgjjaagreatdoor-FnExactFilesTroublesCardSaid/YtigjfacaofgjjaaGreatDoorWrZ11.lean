/- A part of the proof in YtigjfacaofgjjaaGreatDoorWrZ33. -/
import Derived.Lib.ItoaNum
import Derived.Test.YtigjfacaofgjjaaGreatDoorWrZ10
namespace Go.Proofs.YtigjfacaofgjjaaGreatDoor
set_option linter.unusedVariables false
set_option linter.unusedSimpArgs false
set_option maxHeartbeats 1000000
set_option maxRecDepth 100000
open Go.RowKit
def ZJ (n : Nat) : ByteArray := ⟨(Go.Lib.decDigits n).toArray⟩
theorem Yg (n : Nat) : (ZJ n).data.toList = Go.Lib.decDigits n := rfl
theorem Zh7 {n : Nat} (h : n < 10) : ZJ n = ⟨#[UInt8.ofNat (48 + n)]⟩ := by
  apply Yn; rw [Yg, Go.Lib.decDigits_one h]
theorem Zdu {n : Nat} (h : ¬ n < 10) : ZJ n = ZJ (n / 10) ++ ⟨#[UInt8.ofNat (48 + n % 10)]⟩ := by
  apply Yn; rw [ZO, Yg, Yg, Go.Lib.decDigits, dif_neg h]
theorem Zh8 {n k : Nat} (h : n < 10 ^ (k + 1)) : Go.Lib.nDigits n ≤ k + 1 := by
  induction k generalizing n with
  | zero => rw [Go.Lib.nDigits_small (by simpa using h)]; exact Nat.le_refl _
  | succ k ih =>
    by_cases hs : n < 10
    · rw [Go.Lib.nDigits_small hs]; omega
    · have := ih (n := n / 10) (by rw [Nat.pow_succ] at h; omega)
      rw [Go.Lib.nDigits_big hs]; omega
theorem Ze9 {n : Nat} : (ZJ n).size = Go.Lib.nDigits n := by rw [Zj, Yg, Go.Lib.decDigits_length]
theorem Zf6 {n k : Nat} (h : n < 10 ^ (k + 1)) : (ZJ n).size ≤ k + 1 := by rw [Ze9]; exact Zh8 h
theorem Zdv (n : Nat) : 1 ≤ (ZJ n).size := by rw [Ze9]; exact Go.Lib.nDigits_pos n
theorem JV {n : Nat} (h : n ≤ 9223372036854775807) : (ZJ n).size ≤ 19 := Zf6 (k := 18) (by omega)
def Zdw : ByteArray := ⟨#[58]⟩
def Zw (n : Int) : ByteArray := if 0 ≤ n ∧ n ≤ 999999999 then ZJ n.toNat else ByteArray.empty
theorem YO {n : Int} (h0 : 0 ≤ n) (h1 : n ≤ 999999999) : Zw n = ZJ n.toNat := if_pos ⟨h0, h1⟩
theorem ZgR {n : Int} (h : ¬ (0 ≤ n ∧ n ≤ 999999999)) : Zw n = ByteArray.empty := if_neg h
theorem YH (n : Int) : (Zw n).size ≤ 9 := by
  unfold Zw; split
  · exact Zf6 (k := 8) (by omega)
  · exact Nat.zero_le _
def Z8 (l : List ByteArray) : ByteArray := l.foldl (fun a s => a ++ ZJ s.size ++ Zdw ++ s) ByteArray.empty
theorem ZjJ (l : List ByteArray) (s : ByteArray) : Z8 (l ++ [s]) = Z8 l ++ ZJ s.size ++ Zdw ++ s := by
  unfold Z8; rw [List.foldl_append]; rfl
theorem Zfa (xs : List ByteArray) {k : Nat} (h : k < xs.length) : xs.take (k + 1) = xs.take k ++ [xs.getD k ByteArray.empty] := by
  rw [List.take_add_one, List.getElem?_eq_getElem h]; simp [List.getD, h]
theorem Jy (xs : List ByteArray) {k : Nat} (h : k < xs.length) : Z8 (xs.take (k + 1)) = Z8 (xs.take k) ++ ZJ (xs.getD k ByteArray.empty).size ++ Zdw ++ xs.getD k ByteArray.empty := by
  rw [Zfa xs h, ZjJ]
theorem ZC (a b : ByteArray) : (a ++ b).size = a.size + b.size := by rw [Zj, ZO, List.length_append, ← Zj, ← Zj]
theorem Zh9 (l : List ByteArray) (a : ByteArray) : a.size ≤ (l.foldl (fun a s => a ++ ZJ s.size ++ Zdw ++ s) a).size := by
  induction l generalizing a with
  | nil => exact Nat.le_refl _
  | cons s l ih =>
    refine Nat.le_trans ?_ (ih _);rw [ZC, ZC, ZC]; omega
theorem Zfb (xs : List ByteArray) (k : Nat) : (Z8 (xs.take k)).size ≤ (Z8 xs).size := by
  conv => rhs; rw [← List.take_append_drop k xs]
  unfold Z8; rw [List.foldl_append]; exact Zh9 _ _
theorem Yx (xs : List ByteArray) {k : Nat} (h : k < xs.length) : (xs.getD k ByteArray.empty).size < (Z8 xs).size := by
  refine Nat.lt_of_lt_of_le ?_ (Zfb xs (k + 1));rw [Jy xs h, ZC, ZC, ZC];have : Zdw.size = 1 := rfl
  omega
def Yh (l : List ByteArray) : ByteArray × Bool := if l.length ≤ 60 ∧ (Z8 l).size ≤ 2048 then (Z8 l, true) else (ByteArray.empty, false)
theorem YR {l : List ByteArray} (h : l.length ≤ 60) (hs : (Z8 l).size ≤ 2048) : Yh l = (Z8 l, true) := if_pos ⟨h, hs⟩
theorem JF {l : List ByteArray} (h : ¬ l.length ≤ 60) : Yh l = (ByteArray.empty, false) := if_neg fun x => h x.1
theorem V8 {l : List ByteArray} {k : Nat} (hs : ¬ (Z8 (l.take k)).size ≤ 2048) : Yh l = (ByteArray.empty, false) := if_neg fun x => hs (Nat.le_trans (Zfb l k) x.2)
theorem Zdx {l : List ByteArray} {k : Nat} (hk : k < l.length) (hs : ¬ (l.getD k ByteArray.empty).size ≤ 2048) : Yh l = (ByteArray.empty, false) := if_neg fun x => by have := Yx l hk; omega
def szs (xs : List ByteArray) : Prop := ∀ k, (xs.getD k ByteArray.empty).size ≤ 1099511627776
theorem JW : szs [] := fun k => by simp
theorem Yt {x : ByteArray} {xs : List ByteArray} (h : x.size ≤ 1099511627776) (hs : szs xs) : szs (x :: xs) := fun k => by
  cases k with
  | zero => simpa using h
  | succ k => simpa using hs k
theorem ZaV {xs ys : List ByteArray} (hx : szs xs) (hy : szs ys) : szs (xs ++ ys) := fun k => by
  by_cases h : k < xs.length
  · have := hx k
    simp only [List.getD_eq_getElem?_getD] at this ⊢;rw [List.getElem?_append_left h]; exact this
  · have := hy (k - xs.length)
    simp only [List.getD_eq_getElem?_getD] at this ⊢;rw [List.getElem?_append_right (by omega)]; exact this
end Go.Proofs.YtigjfacaofgjjaaGreatDoor
