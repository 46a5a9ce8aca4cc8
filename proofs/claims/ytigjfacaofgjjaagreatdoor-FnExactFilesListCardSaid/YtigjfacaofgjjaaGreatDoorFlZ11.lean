/- A part of the proof in YtigjfacaofgjjaaGreatDoorFlZ32. -/
import Derived.Lib.ItoaNum
import Derived.Test.YtigjfacaofgjjaaGreatDoorFlZ10
namespace Go.Proofs.YtigjfacaofgjjaaGreatDoor
set_option linter.unusedVariables false
set_option linter.unusedSimpArgs false
set_option maxHeartbeats 1000000
set_option maxRecDepth 100000
open Go.RowKit
def ZE (n : Nat) : ByteArray := ⟨(Go.Lib.decDigits n).toArray⟩
theorem Z8 (n : Nat) : (ZE n).data.toList = Go.Lib.decDigits n := rfl
theorem ZiT {n : Nat} (h : n < 10) : ZE n = ⟨#[UInt8.ofNat (48 + n)]⟩ := by
  apply Ys; rw [Z8, Go.Lib.decDigits_one h]
theorem Zdy {n : Nat} (h : ¬ n < 10) : ZE n = ZE (n / 10) ++ ⟨#[UInt8.ofNat (48 + n % 10)]⟩ := by
  apply Ys; rw [ZH, Z8, Z8, Go.Lib.decDigits, dif_neg h]
theorem ZiU {n k : Nat} (h : n < 10 ^ (k + 1)) : Go.Lib.nDigits n ≤ k + 1 := by
  induction k generalizing n with
  | zero => rw [Go.Lib.nDigits_small (by simpa using h)]; exact Nat.le_refl _
  | succ k ih =>
    by_cases hs : n < 10
    · rw [Go.Lib.nDigits_small hs]; omega
    · have := ih (n := n / 10) (by rw [Nat.pow_succ] at h; omega)
      rw [Go.Lib.nDigits_big hs]; omega
theorem Zfw {n : Nat} : (ZE n).size = Go.Lib.nDigits n := by rw [Zf, Z8, Go.Lib.decDigits_length]
theorem Zgq {n k : Nat} (h : n < 10 ^ (k + 1)) : (ZE n).size ≤ k + 1 := by rw [Zfw]; exact ZiU h
theorem Zdz (n : Nat) : 1 ≤ (ZE n).size := by rw [Zfw]; exact Go.Lib.nDigits_pos n
theorem JA {n : Nat} (h : n ≤ 9223372036854775807) : (ZE n).size ≤ 19 := Zgq (k := 18) (by omega)
def ZdA : ByteArray := ⟨#[58]⟩
def Zs (n : Int) : ByteArray := if 0 ≤ n ∧ n ≤ 999999999 then ZE n.toNat else ByteArray.empty
theorem YH {n : Int} (h0 : 0 ≤ n) (h1 : n ≤ 999999999) : Zs n = ZE n.toNat := if_pos ⟨h0, h1⟩
theorem Zho {n : Int} (h : ¬ (0 ≤ n ∧ n ≤ 999999999)) : Zs n = ByteArray.empty := if_neg h
theorem YC (n : Int) : (Zs n).size ≤ 9 := by
  unfold Zs; split
  · exact Zgq (k := 8) (by omega)
  · exact Nat.zero_le _
def ZX (l : List ByteArray) : ByteArray := l.foldl (fun a s => a ++ ZE s.size ++ ZdA ++ s) ByteArray.empty
theorem Zkp (l : List ByteArray) (s : ByteArray) : ZX (l ++ [s]) = ZX l ++ ZE s.size ++ ZdA ++ s := by
  unfold ZX; rw [List.foldl_append]; rfl
theorem Zfx (xs : List ByteArray) {k : Nat} (h : k < xs.length) : xs.take (k + 1) = xs.take k ++ [xs.getD k ByteArray.empty] := by
  rw [List.take_add_one, List.getElem?_eq_getElem h]; simp [List.getD, h]
theorem Q8 (xs : List ByteArray) {k : Nat} (h : k < xs.length) : ZX (xs.take (k + 1)) = ZX (xs.take k) ++ ZE (xs.getD k ByteArray.empty).size ++ ZdA ++ xs.getD k ByteArray.empty := by
  rw [Zfx xs h, Zkp]
theorem Zz (a b : ByteArray) : (a ++ b).size = a.size + b.size := by rw [Zf, ZH, List.length_append, ← Zf, ← Zf]
theorem ZiV (l : List ByteArray) (a : ByteArray) : a.size ≤ (l.foldl (fun a s => a ++ ZE s.size ++ ZdA ++ s) a).size := by
  induction l generalizing a with
  | nil => exact Nat.le_refl _
  | cons s l ih =>
    refine Nat.le_trans ?_ (ih _);rw [Zz, Zz, Zz]; omega
theorem Zfy (xs : List ByteArray) (k : Nat) : (ZX (xs.take k)).size ≤ (ZX xs).size := by
  conv => rhs; rw [← List.take_append_drop k xs]
  unfold ZX; rw [List.foldl_append]; exact ZiV _ _
theorem Yq (xs : List ByteArray) {k : Nat} (h : k < xs.length) : (xs.getD k ByteArray.empty).size < (ZX xs).size := by
  refine Nat.lt_of_lt_of_le ?_ (Zfy xs (k + 1));rw [Q8 xs h, Zz, Zz, Zz];have : ZdA.size = 1 := rfl
  omega
def Z9 (l : List ByteArray) : ByteArray × Bool := if l.length ≤ 60 ∧ (ZX l).size ≤ 2048 then (ZX l, true) else (ByteArray.empty, false)
theorem YJ {l : List ByteArray} (h : l.length ≤ 60) (hs : (ZX l).size ≤ 2048) : Z9 l = (ZX l, true) := if_pos ⟨h, hs⟩
theorem Ji {l : List ByteArray} (h : ¬ l.length ≤ 60) : Z9 l = (ByteArray.empty, false) := if_neg fun x => h x.1
theorem VV {l : List ByteArray} {k : Nat} (hs : ¬ (ZX (l.take k)).size ≤ 2048) : Z9 l = (ByteArray.empty, false) := if_neg fun x => hs (Nat.le_trans (Zfy l k) x.2)
theorem ZdB {l : List ByteArray} {k : Nat} (hk : k < l.length) (hs : ¬ (l.getD k ByteArray.empty).size ≤ 2048) : Z9 l = (ByteArray.empty, false) := if_neg fun x => by have := Yq l hk; omega
def szs (xs : List ByteArray) : Prop := ∀ k, (xs.getD k ByteArray.empty).size ≤ 1099511627776
theorem JB : szs [] := fun k => by simp
theorem Yk {x : ByteArray} {xs : List ByteArray} (h : x.size ≤ 1099511627776) (hs : szs xs) : szs (x :: xs) := fun k => by
  cases k with
  | zero => simpa using h
  | succ k => simpa using hs k
theorem ZaK {xs ys : List ByteArray} (hx : szs xs) (hy : szs ys) : szs (xs ++ ys) := fun k => by
  by_cases h : k < xs.length
  · have := hx k
    simp only [List.getD_eq_getElem?_getD] at this ⊢;rw [List.getElem?_append_left h]; exact this
  · have := hy (k - xs.length)
    simp only [List.getD_eq_getElem?_getD] at this ⊢;rw [List.getElem?_append_right (by omega)]; exact this
end Go.Proofs.YtigjfacaofgjjaaGreatDoor
