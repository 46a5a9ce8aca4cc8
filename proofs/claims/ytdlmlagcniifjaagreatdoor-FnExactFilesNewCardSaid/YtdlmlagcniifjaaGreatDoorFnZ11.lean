/- A part of the proof in YtdlmlagcniifjaaGreatDoorFnZ32. -/
import Derived.Lib.ItoaNum
import Derived.Test.YtdlmlagcniifjaaGreatDoorFnZ10
namespace Go.Proofs.YtdlmlagcniifjaaGreatDoor
set_option linter.unusedVariables false
set_option linter.unusedSimpArgs false
set_option maxHeartbeats 1000000
set_option maxRecDepth 100000
open Go.RowKit
def decB (n : Nat) : ByteArray := ⟨(Go.Lib.decDigits n).toArray⟩
theorem decB_list (n : Nat) : (decB n).data.toList = Go.Lib.decDigits n := rfl
theorem decB_small {n : Nat} (h : n < 10) : decB n = ⟨#[UInt8.ofNat (48 + n)]⟩ := by
  apply ba_ext; rw [decB_list, Go.Lib.decDigits_one h]
theorem decB_big {n : Nat} (h : ¬ n < 10) : decB n = decB (n / 10) ++ ⟨#[UInt8.ofNat (48 + n % 10)]⟩ := by
  apply ba_ext; rw [list_append, decB_list, decB_list, Go.Lib.decDigits, dif_neg h]
theorem nDigits_le {n k : Nat} (h : n < 10 ^ (k + 1)) : Go.Lib.nDigits n ≤ k + 1 := by
  induction k generalizing n with
  | zero => rw [Go.Lib.nDigits_small (by simpa using h)]; exact Nat.le_refl _
  | succ k ih =>
    by_cases hs : n < 10
    · rw [Go.Lib.nDigits_small hs]; omega
    · have := ih (n := n / 10) (by rw [Nat.pow_succ] at h; omega)
      rw [Go.Lib.nDigits_big hs]; omega
theorem decB_size {n : Nat} : (decB n).size = Go.Lib.nDigits n := by rw [size_list, decB_list, Go.Lib.decDigits_length]
theorem decB_le {n k : Nat} (h : n < 10 ^ (k + 1)) : (decB n).size ≤ k + 1 := by rw [decB_size]; exact nDigits_le h
theorem decB_pos (n : Nat) : 1 ≤ (decB n).size := by rw [decB_size]; exact Go.Lib.nDigits_pos n
theorem decB_20 {n : Nat} (h : n ≤ 9223372036854775807) : (decB n).size ≤ 19 := decB_le (k := 18) (by omega)
def colB : ByteArray := ⟨#[58]⟩
def numB (n : Int) : ByteArray := if 0 ≤ n ∧ n ≤ 999999999 then decB n.toNat else ByteArray.empty
theorem numB_in {n : Int} (h0 : 0 ≤ n) (h1 : n ≤ 999999999) : numB n = decB n.toNat := if_pos ⟨h0, h1⟩
theorem numB_out {n : Int} (h : ¬ (0 ≤ n ∧ n ≤ 999999999)) : numB n = ByteArray.empty := if_neg h
theorem numB_le (n : Int) : (numB n).size ≤ 9 := by
  unfold numB; split
  · exact decB_le (k := 8) (by omega)
  · exact Nat.zero_le _
def recB (l : List ByteArray) : ByteArray := l.foldl (fun a s => a ++ decB s.size ++ colB ++ s) ByteArray.empty
theorem recB_snoc (l : List ByteArray) (s : ByteArray) : recB (l ++ [s]) = recB l ++ decB s.size ++ colB ++ s := by
  unfold recB; rw [List.foldl_append]; rfl
theorem take_snoc (xs : List ByteArray) {k : Nat} (h : k < xs.length) : xs.take (k + 1) = xs.take k ++ [xs.getD k ByteArray.empty] := by
  rw [List.take_add_one, List.getElem?_eq_getElem h]; simp [List.getD, h]
theorem recB_step (xs : List ByteArray) {k : Nat} (h : k < xs.length) : recB (xs.take (k + 1)) = recB (xs.take k) ++ decB (xs.getD k ByteArray.empty).size ++ colB ++ xs.getD k ByteArray.empty := by
  rw [take_snoc xs h, recB_snoc]
theorem app_size (a b : ByteArray) : (a ++ b).size = a.size + b.size := by rw [size_list, list_append, List.length_append, ← size_list, ← size_list]
theorem foldl_size (l : List ByteArray) (a : ByteArray) : a.size ≤ (l.foldl (fun a s => a ++ decB s.size ++ colB ++ s) a).size := by
  induction l generalizing a with
  | nil => exact Nat.le_refl _
  | cons s l ih =>
    refine Nat.le_trans ?_ (ih _)
    rw [app_size, app_size, app_size]; omega
theorem recB_take (xs : List ByteArray) (k : Nat) : (recB (xs.take k)).size ≤ (recB xs).size := by
  conv => rhs; rw [← List.take_append_drop k xs]
  unfold recB; rw [List.foldl_append]; exact foldl_size _ _
theorem recB_elem (xs : List ByteArray) {k : Nat} (h : k < xs.length) : (xs.getD k ByteArray.empty).size < (recB xs).size := by
  refine Nat.lt_of_lt_of_le ?_ (recB_take xs (k + 1))
  rw [recB_step xs h, app_size, app_size, app_size]
  have : colB.size = 1 := rfl
  omega
def fieldsPut (l : List ByteArray) : ByteArray × Bool := if l.length ≤ 60 ∧ (recB l).size ≤ 2048 then (recB l, true) else (ByteArray.empty, false)
theorem fieldsPut_yes {l : List ByteArray} (h : l.length ≤ 60) (hs : (recB l).size ≤ 2048) : fieldsPut l = (recB l, true) := if_pos ⟨h, hs⟩
theorem fieldsPut_long {l : List ByteArray} (h : ¬ l.length ≤ 60) : fieldsPut l = (ByteArray.empty, false) := if_neg fun x => h x.1
theorem fieldsPut_big {l : List ByteArray} {k : Nat} (hs : ¬ (recB (l.take k)).size ≤ 2048) : fieldsPut l = (ByteArray.empty, false) := if_neg fun x => hs (Nat.le_trans (recB_take l k) x.2)
theorem fieldsPut_elem {l : List ByteArray} {k : Nat} (hk : k < l.length) (hs : ¬ (l.getD k ByteArray.empty).size ≤ 2048) : fieldsPut l = (ByteArray.empty, false) := if_neg fun x => by have := recB_elem l hk; omega
def szs (xs : List ByteArray) : Prop := ∀ k, (xs.getD k ByteArray.empty).size ≤ 1099511627776
theorem szs_nil : szs [] := fun k => by simp
theorem szs_cons {x : ByteArray} {xs : List ByteArray} (h : x.size ≤ 1099511627776) (hs : szs xs) : szs (x :: xs) := fun k => by
  cases k with
  | zero => simpa using h
  | succ k => simpa using hs k
theorem szs_app {xs ys : List ByteArray} (hx : szs xs) (hy : szs ys) : szs (xs ++ ys) := fun k => by
  by_cases h : k < xs.length
  · have := hx k
    simp only [List.getD_eq_getElem?_getD] at this ⊢
    rw [List.getElem?_append_left h]; exact this
  · have := hy (k - xs.length)
    simp only [List.getD_eq_getElem?_getD] at this ⊢
    rw [List.getElem?_append_right (by omega)]; exact this
end Go.Proofs.YtdlmlagcniifjaaGreatDoor
