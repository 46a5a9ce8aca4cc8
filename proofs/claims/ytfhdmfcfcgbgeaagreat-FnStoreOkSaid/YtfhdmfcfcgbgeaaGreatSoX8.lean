/- A part of the proof in YtfhdmfcfcgbgeaaGreatSoX29. -/
import Derived.Deep.RegionHeld3
import Derived.Test.YtfhdmfcfcgbgeaaGreatSoX7
namespace Go.Proofs.YtfhdmfcfcgbgeaaGreat
set_option linter.unusedVariables false
set_option linter.unusedSimpArgs false
set_option maxHeartbeats 1000000
set_option maxRecDepth 100000
open Go.RowKit
def Za.zero : Za := { af := [], aa := { ac := [], al := [] }, am := 0, ag := [], aw := 0, ai := [], ax := false }
open Go.RowKit
def ZbX (s : ByteArray) : Nat → Int × Int
 | 0 => (1, 0)
 | k + 1 => (((ZbX s k).1 + ((s.get! k).toNat : Int) + 1) % 9973, ((ZbX s k).2 + ((ZbX s k).1 + ((s.get! k).toNat : Int) + 1) % 9973) % 9973)
def Us (s : ByteArray) : Int := (ZbX s s.size).1 * 9973 + (ZbX s s.size).2
theorem ZiN (s : ByteArray) (k : Nat) : 0 ≤ (ZbX s k).1 ∧ (ZbX s k).1 < 9973 ∧ 0 ≤ (ZbX s k).2 ∧ (ZbX s k).2 < 9973 := by
 cases k with
 | zero => simp [ZbX]
 | succ k => unfold ZbX; dsimp only; omega
theorem ZkN (s : ByteArray) : 0 ≤ Us s ∧ Us s ≤ 99460728 := by
 have := ZiN s s.size;unfold Us; omega
theorem ZiO (s : ByteArray) (k : Nat) : (0 : Int) ≤ ((s.get! k).toNat : Int) ∧ ((s.get! k).toNat : Int) ≤ 255 := by
 have := (s.get! k).toNat_lt
 omega
def ZM (p : Nat → Bool) : Nat → Nat → Nat
 | 0, k => k
 | f + 1, k => if p k then k else ZM p f (k + 1)
theorem Zat {p : Nat → Bool} {f k : Nat} (h : p k = true) : ZM p (f + 1) k = k := by simp [ZM, h]
theorem VY {p : Nat → Bool} {f k : Nat} (h : p k = false) : ZM p (f + 1) k = ZM p f (k + 1) := by simp [ZM, h]
theorem X3 (p : Nat → Bool) (f k : Nat) : k ≤ ZM p f k ∧ ZM p f k ≤ k + f := by
 induction f generalizing k with
 | zero => simp [ZM]
 | succ f ih =>
  unfold ZM
  split
  ·omega
  ·have := ih (k + 1); omega
theorem Zdj (p : Nat → Bool) (f k : Nat) (h : ZM p f k < k + f) : p (ZM p f k) = true := by
 induction f generalizing k with
 | zero => simp [ZM] at h
 | succ f ih =>
  unfold ZM at h ⊢
  split
  ·assumption
  ·rename_i hp
   rw [if_neg hp] at h;exact ih (k + 1) (by omega)
theorem Za9 {p q : Nat → Bool} (f k : Nat) (h : ∀ i, k ≤ i → i < k + f → p i = q i) : ZM p f k = ZM q f k := by
 induction f generalizing k with
 | zero => rfl
 | succ f ih =>
  unfold ZM;rw [h k (Nat.le_refl _) (by omega), ih (k + 1) (fun i h1 h2 => h i (by omega) (by omega))]
theorem ZgI {p : Nat → Bool} (n f k : Nat) (h : ∀ i, k ≤ i → i < k + n → p i = false) : ZM p (n + f) k = ZM p f (k + n) := by
 induction n generalizing k with
 | zero => simp
 | succ n ih =>
  rw [show n + 1 + f = (n + f) + 1 by omega, VY (h k (Nat.le_refl _) (by omega)), ih (k + 1) (fun i h1 h2 => h i (by omega) (by omega)), show k + 1 + n = k + (n + 1) by omega]
def YE (at_ birth level : Int) (text : ByteArray) : PtrD := { aB := at_, ak := birth, av := text.size, aC := Us text, ar := level }
def PtrD.zero : PtrD := { aB := 0, ak := 0, av := 0, aC := 0, ar := 0 }
def Xs (at_ birth level : Int) (text : ByteArray) : Bool := inB text.size 1 128 && (YE at_ birth level text).ok
def Vo (at_ birth level : Int) (text : ByteArray) : PtrD := if Xs at_ birth level text then YE at_ birth level text else PtrD.zero
theorem ZgJ {a b l : Int} {s : ByteArray} (h : Xs a b l s = false) : Vo a b l s = PtrD.zero := by unfold Vo; rw [h]; rfl
theorem ZeR {a b l : Int} {s : ByteArray} (h : Xs a b l s = true) : Vo a b l s = YE a b l s := by unfold Vo; rw [h]; rfl
def J2 (st : Za) (text : ByteArray) (i : Nat) : Bool := ((st.af.getD i ByteArray.empty).toList == text.toList) && decide (st.aa.al.getD i 0 < st.am) && decide (st.aa.ac.getD i 0 < st.am)
def ZfP (k : Nat) : Int := if k < 64 then (k : Int) else -1
def Zah (st : Za) (text : ByteArray) : Int := ZfP (ZM (J2 st text) 56 8)
def Vp (s : Zo) (i : Nat) : Bool := s.ac.getD i 0 == 0
def J3 (s : Zo) : Int := ZfP (ZM (Vp s) 56 8)
theorem ZiP {k : Nat} (h : k < 64) : ZfP k = k := by simp [ZfP, h]
theorem ZbY {p : Nat → Bool} {k : Nat} (hk : k < 64) (hp : p k = false) {n : Nat} (h : ZM p 56 8 = n) (hn : n = ZM p (64 - k) k) : ZM p 56 8 = ZM p (64 - (k + 1)) (k + 1) := by
 rw [h, hn, show 64 - k = (64 - (k + 1)) + 1 by omega, VY hp]
theorem Zjr {p : Nat → Bool} {k : Nat} (hk : k < 64) (hp : p k = true) (h : ZM p 56 8 = ZM p (64 - k) k) : ZM p 56 8 = k := by
 rw [h, show 64 - k = (63 - k) + 1 by omega, Zat hp]
theorem ZkO {p : Nat → Bool} {k : Nat} (hk : k = 64) (h : ZM p 56 8 = ZM p (64 - k) k) : ZM p 56 8 = 64 := by
 rw [h, hk]; rfl
def inL (xs : List Int) (n : Int) : Bool := xs.any (· == n)
theorem ZkP {xs : List Int} {k : Nat} {n : Int} (hk : k < xs.length) (h : (xs.getD k 0 == n) = true) : inL xs n = true := by
 unfold inL;rw [List.any_eq_true];refine ⟨xs[k], List.getElem_mem hk, ?_⟩
 simpa [List.getD, hk] using h
theorem ZkQ {xs : List Int} {k : Nat} {n : Int} (hk : k < xs.length) (h : (xs.getD k 0 == n) = false) (hp : (xs.take k).any (· == n) = false) : (xs.take (k + 1)).any (· == n) = false := by
 rw [List.take_succ_eq_append_getElem hk, List.any_append, hp]
 simpa [List.getD, hk] using h
theorem Zmw {xs : List Int} {k : Nat} {n : Int} (hk : ¬ k < xs.length) (hp : (xs.take k).any (· == n) = false) : inL xs n = false := by
 rw [List.take_of_length_le (by omega)] at hp; exact hp
def Zai (st : Za) (text : ByteArray) (i : Nat) : Bool := decide (0 < st.aa.ac.getD i 0) && ((st.af.getD i ByteArray.empty).toList == text.toList) && decide (st.aa.al.getD i 0 < st.am) && decide (st.aa.ac.getD i 0 < st.am)
def Zba (st : Za) (i : Nat) : Bool := !decide (0 < st.aa.ac.getD i 0)
def Q4 (st : Za) (text : ByteArray) (level : Int) : Nat := if st.ax && (level == 0) then ZM (Zai st text) 64 0 else 64
def writeAt (st : Za) (text : ByteArray) (level : Int) : Nat := if Q4 st text level < 64 then Q4 st text level else ZM (Zba st) 56 8
def Za.putAt (st : Za) (i : Nat) (rows : List ByteArray) : Za := { st with af := rows, aa := { ac := st.aa.ac.set i (st.aa.ac.getD i 0 + 1), al := st.aa.al.set i st.am } }
end Go.Proofs.YtfhdmfcfcgbgeaaGreat
