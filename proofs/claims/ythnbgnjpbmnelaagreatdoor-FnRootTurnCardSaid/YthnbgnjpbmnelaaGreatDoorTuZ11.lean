/- A part of the proof in YthnbgnjpbmnelaaGreatDoorTuZ31. -/
import Derived.Lib.ItoaNum
import Derived.Test.YthnbgnjpbmnelaaGreatDoorTuZ10
/- Records: numbers and fields as texts: plain. -/
namespace Go.Proofs.YthnbgnjpbmnelaaGreatDoor
set_option linter.unusedVariables false
set_option linter.unusedSimpArgs false
set_option maxHeartbeats 1000000
set_option maxRecDepth 100000
open Go.RowKit

/-- A number in decimals. -/
def ZO (n : Nat) : ByteArray := ⟨(Go.Lib.decDigits n).toArray⟩
theorem Y3 (n : Nat) : (ZO n).data.toList = Go.Lib.decDigits n := rfl
theorem Zbg {n : Nat} (h : n < 10) : ZO n = ⟨#[UInt8.ofNat (48 + n)]⟩ := by
  apply YY; rw [Y3, Go.Lib.decDigits_one h]
theorem UY {n : Nat} (h : ¬ n < 10) : ZO n = ZO (n / 10) ++ ⟨#[UInt8.ofNat (48 + n % 10)]⟩ := by
  apply YY; rw [Z7, Y3, Y3, Go.Lib.decDigits, dif_neg h]
theorem Zbh {n k : Nat} (h : n < 10 ^ (k + 1)) : Go.Lib.nDigits n ≤ k + 1 := by
  induction k generalizing n with
  | zero => rw [Go.Lib.nDigits_small (by simpa using h)]; exact Nat.le_refl _
  | succ k ih =>
    by_cases hs : n < 10
    · rw [Go.Lib.nDigits_small hs]; omega
    · have := ih (n := n / 10) (by rw [Nat.pow_succ] at h; omega)
      rw [Go.Lib.nDigits_big hs]; omega
theorem Zcl {n : Nat} : (ZO n).size = Go.Lib.nDigits n := by rw [ZV, Y3, Go.Lib.decDigits_length]
theorem JY {n k : Nat} (h : n < 10 ^ (k + 1)) : (ZO n).size ≤ k + 1 := by rw [Zcl]; exact Zbh h
theorem Xs {n : Nat} (h : n ≤ 9223372036854775807) : (ZO n).size ≤ 19 := JY (k := 18) (by omega)
def UZ : ByteArray := ⟨#[58]⟩
/-- A number text; the empty text out of the range. -/
def ZD (n : Int) : ByteArray := if 0 ≤ n ∧ n ≤ 999999999 then ZO n.toNat else ByteArray.empty
theorem Y6 {n : Int} (h0 : 0 ≤ n) (h1 : n ≤ 999999999) : ZD n = ZO n.toNat := if_pos ⟨h0, h1⟩
theorem U0 {n : Int} (h : ¬ (0 ≤ n ∧ n ≤ 999999999)) : ZD n = ByteArray.empty := if_neg h
theorem Yw (n : Int) : (ZD n).size ≤ 9 := by
  unfold ZD; split
  · exact JY (k := 8) (by omega)
  · exact Nat.zero_le _
/-- A record. -/
def Yi (l : List ByteArray) : ByteArray := l.foldl (fun a s => a ++ ZO s.size ++ UZ ++ s) ByteArray.empty
theorem Zcm (l : List ByteArray) (s : ByteArray) : Yi (l ++ [s]) = Yi l ++ ZO s.size ++ UZ ++ s := by
  unfold Yi; rw [List.foldl_append]; rfl
theorem Zcn (xs : List ByteArray) {k : Nat} (h : k < xs.length) : xs.take (k + 1) = xs.take k ++ [xs.getD k ByteArray.empty] := by
  rw [List.take_add_one, List.getElem?_eq_getElem h]; simp [List.getD, h]
theorem XU (xs : List ByteArray) {k : Nat} (h : k < xs.length) : Yi (xs.take (k + 1)) = Yi (xs.take k) ++ ZO (xs.getD k ByteArray.empty).size ++ UZ ++ xs.getD k ByteArray.empty := by
  rw [Zcn xs h, Zcm]
theorem Yq (a b : ByteArray) : (a ++ b).size = a.size + b.size := by rw [ZV, Z7, List.length_append, ← ZV, ← ZV]
theorem Zbi (l : List ByteArray) (a : ByteArray) : a.size ≤ (l.foldl (fun a s => a ++ ZO s.size ++ UZ ++ s) a).size := by
  induction l generalizing a with
  | nil => exact Nat.le_refl _
  | cons s l ih =>
    refine Nat.le_trans ?_ (ih _);rw [Yq, Yq, Yq]; omega
theorem VK (xs : List ByteArray) (k : Nat) : (Yi (xs.take k)).size ≤ (Yi xs).size := by
  conv => rhs; rw [← List.take_append_drop k xs]
  unfold Yi; rw [List.foldl_append]; exact Zbi _ _
theorem VL (xs : List ByteArray) {k : Nat} (h : k < xs.length) : (xs.getD k ByteArray.empty).size < (Yi xs).size := by
  refine Nat.lt_of_lt_of_le ?_ (VK xs (k + 1));rw [XU xs h, Yq, Yq, Yq];have : UZ.size = 1 := rfl
  omega
/-- The text of a record, and whether there is one. -/
def Zt (l : List ByteArray) : ByteArray × Bool := if l.length ≤ 60 ∧ (Yi l).size ≤ 2048 then (Yi l, true) else (ByteArray.empty, false)
theorem Y4 {l : List ByteArray} (h : l.length ≤ 60) (hs : (Yi l).size ≤ 2048) : Zt l = (Yi l, true) := if_pos ⟨h, hs⟩
theorem X1 {l : List ByteArray} (h : ¬ l.length ≤ 60) : Zt l = (ByteArray.empty, false) := if_neg fun x => h x.1
theorem Jj {l : List ByteArray} {k : Nat} (hs : ¬ (Yi (l.take k)).size ≤ 2048) : Zt l = (ByteArray.empty, false) := if_neg fun x => hs (Nat.le_trans (VK l k) x.2)
theorem U1 {l : List ByteArray} {k : Nat} (hk : k < l.length) (hs : ¬ (l.getD k ByteArray.empty).size ≤ 2048) : Zt l = (ByteArray.empty, false) := if_neg fun x => by have := VL l hk; omega
theorem XP (l : List ByteArray) : (Zt l).1.size ≤ 2048 := by
  unfold Zt; split
  · rename_i h; exact h.2
  · exact Nat.zero_le _
/-- Fields of a size that a machine holds. -/
def szs (xs : List ByteArray) : Prop := ∀ k, (xs.getD k ByteArray.empty).size ≤ 1099511627776
theorem YW : szs [] := fun k => by simp
theorem Yn {x : ByteArray} {xs : List ByteArray} (h : x.size ≤ 1099511627776) (hs : szs xs) : szs (x :: xs) := fun k => by
  cases k with
  | zero => simpa using h
  | succ k => simpa using hs k
theorem Y7 {xs ys : List ByteArray} (hx : szs xs) (hy : szs ys) : szs (xs ++ ys) := fun k => by
  by_cases h : k < xs.length
  · have := hx k
    simp only [List.getD_eq_getElem?_getD] at this ⊢;rw [List.getElem?_append_left h]; exact this
  · have := hy (k - xs.length)
    simp only [List.getD_eq_getElem?_getD] at this ⊢;rw [List.getElem?_append_right (by omega)]; exact this
/-- A record with the checksum of its own record behind. -/
def Uv (f : List ByteArray) : ByteArray := (Zt (f ++ [ZO (Z2 (Zt f).1).toNat])).1
theorem Zdc (f : List ByteArray) : (Uv f).size ≤ 2048 := XP _
theorem Zdd (t : ByteArray) : ZD (Z2 t) = ZO (Z2 t).toNat := Y6 (X0 t).1 (by have := (X0 t).2; omega)
end Go.Proofs.YthnbgnjpbmnelaaGreatDoor
