/- A part of the proof in YtigjfacaofgjjaaGreatDoorFtZ32. -/
import Derived.Lib.ItoaNum
import Derived.Test.YtigjfacaofgjjaaGreatDoorFtZ10
namespace Go.Proofs.YtigjfacaofgjjaaGreatDoor
set_option linter.unusedVariables false
set_option linter.unusedSimpArgs false
set_option maxHeartbeats 1000000
set_option maxRecDepth 100000
open Go.RowKit
def ZD (n : Nat) : ByteArray := ⟨(Go.Lib.decDigits n).toArray⟩
theorem Z6 (n : Nat) : (ZD n).data.toList = Go.Lib.decDigits n := rfl
theorem Zil {n : Nat} (h : n < 10) : ZD n = ⟨#[UInt8.ofNat (48 + n)]⟩ := by
  apply Yq; rw [Z6, Go.Lib.decDigits_one h]
theorem Zdm {n : Nat} (h : ¬ n < 10) : ZD n = ZD (n / 10) ++ ⟨#[UInt8.ofNat (48 + n % 10)]⟩ := by
  apply Yq; rw [ZF, Z6, Z6, Go.Lib.decDigits, dif_neg h]
theorem Zim {n k : Nat} (h : n < 10 ^ (k + 1)) : Go.Lib.nDigits n ≤ k + 1 := by
  induction k generalizing n with
  | zero => rw [Go.Lib.nDigits_small (by simpa using h)]; exact Nat.le_refl _
  | succ k ih =>
    by_cases hs : n < 10
    · rw [Go.Lib.nDigits_small hs]; omega
    · have := ih (n := n / 10) (by rw [Nat.pow_succ] at h; omega)
      rw [Go.Lib.nDigits_big hs]; omega
theorem Zfd {n : Nat} : (ZD n).size = Go.Lib.nDigits n := by rw [Zf, Z6, Go.Lib.decDigits_length]
theorem Zf3 {n k : Nat} (h : n < 10 ^ (k + 1)) : (ZD n).size ≤ k + 1 := by rw [Zfd]; exact Zim h
theorem Zdn (n : Nat) : 1 ≤ (ZD n).size := by rw [Zfd]; exact Go.Lib.nDigits_pos n
theorem Jq {n : Nat} (h : n ≤ 9223372036854775807) : (ZD n).size ≤ 19 := Zf3 (k := 18) (by omega)
def Zdo : ByteArray := ⟨#[58]⟩
def Zs (n : Int) : ByteArray := if 0 ≤ n ∧ n ≤ 999999999 then ZD n.toNat else ByteArray.empty
theorem YF {n : Int} (h0 : 0 ≤ n) (h1 : n ≤ 999999999) : Zs n = ZD n.toNat := if_pos ⟨h0, h1⟩
theorem ZgX {n : Int} (h : ¬ (0 ≤ n ∧ n ≤ 999999999)) : Zs n = ByteArray.empty := if_neg h
theorem YA (n : Int) : (Zs n).size ≤ 9 := by
  unfold Zs; split
  · exact Zf3 (k := 8) (by omega)
  · exact Nat.zero_le _
def ZV (l : List ByteArray) : ByteArray := l.foldl (fun a s => a ++ ZD s.size ++ Zdo ++ s) ByteArray.empty
theorem ZjN (l : List ByteArray) (s : ByteArray) : ZV (l ++ [s]) = ZV l ++ ZD s.size ++ Zdo ++ s := by
  unfold ZV; rw [List.foldl_append]; rfl
theorem Zfe (xs : List ByteArray) {k : Nat} (h : k < xs.length) : xs.take (k + 1) = xs.take k ++ [xs.getD k ByteArray.empty] := by
  rw [List.take_add_one, List.getElem?_eq_getElem h]; simp [List.getD, h]
theorem Q2 (xs : List ByteArray) {k : Nat} (h : k < xs.length) : ZV (xs.take (k + 1)) = ZV (xs.take k) ++ ZD (xs.getD k ByteArray.empty).size ++ Zdo ++ xs.getD k ByteArray.empty := by
  rw [Zfe xs h, ZjN]
theorem Zw (a b : ByteArray) : (a ++ b).size = a.size + b.size := by rw [Zf, ZF, List.length_append, ← Zf, ← Zf]
theorem Zin (l : List ByteArray) (a : ByteArray) : a.size ≤ (l.foldl (fun a s => a ++ ZD s.size ++ Zdo ++ s) a).size := by
  induction l generalizing a with
  | nil => exact Nat.le_refl _
  | cons s l ih =>
    refine Nat.le_trans ?_ (ih _);rw [Zw, Zw, Zw]; omega
theorem Zff (xs : List ByteArray) (k : Nat) : (ZV (xs.take k)).size ≤ (ZV xs).size := by
  conv => rhs; rw [← List.take_append_drop k xs]
  unfold ZV; rw [List.foldl_append]; exact Zin _ _
theorem Yo (xs : List ByteArray) {k : Nat} (h : k < xs.length) : (xs.getD k ByteArray.empty).size < (ZV xs).size := by
  refine Nat.lt_of_lt_of_le ?_ (Zff xs (k + 1));rw [Q2 xs h, Zw, Zw, Zw];have : Zdo.size = 1 := rfl
  omega
def Z7 (l : List ByteArray) : ByteArray × Bool := if l.length ≤ 60 ∧ (ZV l).size ≤ 2048 then (ZV l, true) else (ByteArray.empty, false)
theorem YH {l : List ByteArray} (h : l.length ≤ 60) (hs : (ZV l).size ≤ 2048) : Z7 l = (ZV l, true) := if_pos ⟨h, hs⟩
theorem Jb {l : List ByteArray} (h : ¬ l.length ≤ 60) : Z7 l = (ByteArray.empty, false) := if_neg fun x => h x.1
theorem VJ {l : List ByteArray} {k : Nat} (hs : ¬ (ZV (l.take k)).size ≤ 2048) : Z7 l = (ByteArray.empty, false) := if_neg fun x => hs (Nat.le_trans (Zff l k) x.2)
theorem Zdp {l : List ByteArray} {k : Nat} (hk : k < l.length) (hs : ¬ (l.getD k ByteArray.empty).size ≤ 2048) : Z7 l = (ByteArray.empty, false) := if_neg fun x => by have := Yo l hk; omega
def szs (xs : List ByteArray) : Prop := ∀ k, (xs.getD k ByteArray.empty).size ≤ 1099511627776
theorem Jr : szs [] := fun k => by simp
theorem Yi {x : ByteArray} {xs : List ByteArray} (h : x.size ≤ 1099511627776) (hs : szs xs) : szs (x :: xs) := fun k => by
  cases k with
  | zero => simpa using h
  | succ k => simpa using hs k
theorem Zaz {xs ys : List ByteArray} (hx : szs xs) (hy : szs ys) : szs (xs ++ ys) := fun k => by
  by_cases h : k < xs.length
  · have := hx k
    simp only [List.getD_eq_getElem?_getD] at this ⊢;rw [List.getElem?_append_left h]; exact this
  · have := hy (k - xs.length)
    simp only [List.getD_eq_getElem?_getD] at this ⊢;rw [List.getElem?_append_right (by omega)]; exact this
end Go.Proofs.YtigjfacaofgjjaaGreatDoor
