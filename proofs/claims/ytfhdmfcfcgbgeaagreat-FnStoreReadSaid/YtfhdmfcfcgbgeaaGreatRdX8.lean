/- A part of the proof in YtfhdmfcfcgbgeaaGreatRdX29. -/
import Derived.Deep.RegionHeld3
import Derived.Test.YtfhdmfcfcgbgeaaGreatRdX7
namespace Go.Proofs.YtfhdmfcfcgbgeaaGreat
set_option linter.unusedVariables false
set_option linter.unusedSimpArgs false
set_option maxHeartbeats 1000000
set_option maxRecDepth 100000
open Go.RowKit
def Za.zero : Za := { ac := [], aa := { af := [], ak := [] }, am := 0, ag := [], aw := 0, ai := [], ax := false }
open Go.RowKit
def Vh (s : ByteArray) : Nat → Int × Int
 | 0 => (1, 0)
 | k + 1 => (((Vh s k).1 + ((s.get! k).toNat : Int) + 1) % 9973, ((Vh s k).2 + ((Vh s k).1 + ((s.get! k).toNat : Int) + 1) % 9973) % 9973)
def J0 (s : ByteArray) : Int := (Vh s s.size).1 * 9973 + (Vh s s.size).2
theorem ZfA (s : ByteArray) (k : Nat) : 0 ≤ (Vh s k).1 ∧ (Vh s k).1 < 9973 ∧ 0 ≤ (Vh s k).2 ∧ (Vh s k).2 < 9973 := by
 cases k with
 | zero => simp [Vh]
 | succ k => unfold Vh; dsimp only; omega
theorem ZkE (s : ByteArray) : 0 ≤ J0 s ∧ J0 s ≤ 99460728 := by
 have := ZfA s s.size;unfold J0; omega
theorem ZcY (s : ByteArray) (k : Nat) : (0 : Int) ≤ ((s.get! k).toNat : Int) ∧ ((s.get! k).toNat : Int) ≤ 255 := by
 have := (s.get! k).toNat_lt
 omega
def ZN (p : Nat → Bool) : Nat → Nat → Nat
 | 0, k => k
 | f + 1, k => if p k then k else ZN p f (k + 1)
theorem Zav {p : Nat → Bool} {f k : Nat} (h : p k = true) : ZN p (f + 1) k = k := by simp [ZN, h]
theorem VZ {p : Nat → Bool} {f k : Nat} (h : p k = false) : ZN p (f + 1) k = ZN p f (k + 1) := by simp [ZN, h]
theorem X8 (p : Nat → Bool) (f k : Nat) : k ≤ ZN p f k ∧ ZN p f k ≤ k + f := by
 induction f generalizing k with
 | zero => simp [ZN]
 | succ f ih =>
  unfold ZN
  split
  ·omega
  ·have := ih (k + 1); omega
theorem Zda (p : Nat → Bool) (f k : Nat) (h : ZN p f k < k + f) : p (ZN p f k) = true := by
 induction f generalizing k with
 | zero => simp [ZN] at h
 | succ f ih =>
  unfold ZN at h ⊢
  split
  ·assumption
  ·rename_i hp
   rw [if_neg hp] at h;exact ih (k + 1) (by omega)
theorem Za8 {p q : Nat → Bool} (f k : Nat) (h : ∀ i, k ≤ i → i < k + f → p i = q i) : ZN p f k = ZN q f k := by
 induction f generalizing k with
 | zero => rfl
 | succ f ih =>
  unfold ZN;rw [h k (Nat.le_refl _) (by omega), ih (k + 1) (fun i h1 h2 => h i (by omega) (by omega))]
theorem Zgt {p : Nat → Bool} (n f k : Nat) (h : ∀ i, k ≤ i → i < k + n → p i = false) : ZN p (n + f) k = ZN p f (k + n) := by
 induction n generalizing k with
 | zero => simp
 | succ n ih =>
  rw [show n + 1 + f = (n + f) + 1 by omega, VZ (h k (Nat.le_refl _) (by omega)), ih (k + 1) (fun i h1 h2 => h i (by omega) (by omega)), show k + 1 + n = k + (n + 1) by omega]
def YE (at_ birth level : Int) (text : ByteArray) : PtrD := { aA := at_, al := birth, av := text.size, aC := J0 text, ar := level }
def PtrD.zero : PtrD := { aA := 0, al := 0, av := 0, aC := 0, ar := 0 }
def Xv (at_ birth level : Int) (text : ByteArray) : Bool := inB text.size 1 128 && (YE at_ birth level text).ok
def YV (at_ birth level : Int) (text : ByteArray) : PtrD := if Xv at_ birth level text then YE at_ birth level text else PtrD.zero
theorem Zgu {a b l : Int} {s : ByteArray} (h : Xv a b l s = false) : YV a b l s = PtrD.zero := by unfold YV; rw [h]; rfl
theorem ZeD {a b l : Int} {s : ByteArray} (h : Xv a b l s = true) : YV a b l s = YE a b l s := by unfold YV; rw [h]; rfl
def J1 (st : Za) (text : ByteArray) (i : Nat) : Bool := ((st.ac.getD i ByteArray.empty).toList == text.toList) && decide (st.aa.ak.getD i 0 < st.am) && decide (st.aa.af.getD i 0 < st.am)
def ZfB (k : Nat) : Int := if k < 64 then (k : Int) else -1
def Zah (st : Za) (text : ByteArray) : Int := ZfB (ZN (J1 st text) 56 8)
def Vp (s : Zn) (i : Nat) : Bool := s.af.getD i 0 == 0
def J2 (s : Zn) : Int := ZfB (ZN (Vp s) 56 8)
theorem ZiD {k : Nat} (h : k < 64) : ZfB k = k := by simp [ZfB, h]
theorem ZbR {p : Nat → Bool} {k : Nat} (hk : k < 64) (hp : p k = false) {n : Nat} (h : ZN p 56 8 = n) (hn : n = ZN p (64 - k) k) : ZN p 56 8 = ZN p (64 - (k + 1)) (k + 1) := by
 rw [h, hn, show 64 - k = (64 - (k + 1)) + 1 by omega, VZ hp]
theorem Zjh {p : Nat → Bool} {k : Nat} (hk : k < 64) (hp : p k = true) (h : ZN p 56 8 = ZN p (64 - k) k) : ZN p 56 8 = k := by
 rw [h, show 64 - k = (63 - k) + 1 by omega, Zav hp]
theorem ZkF {p : Nat → Bool} {k : Nat} (hk : k = 64) (h : ZN p 56 8 = ZN p (64 - k) k) : ZN p 56 8 = 64 := by
 rw [h, hk]; rfl
def inL (xs : List Int) (n : Int) : Bool := xs.any (· == n)
theorem ZkG {xs : List Int} {k : Nat} {n : Int} (hk : k < xs.length) (h : (xs.getD k 0 == n) = true) : inL xs n = true := by
 unfold inL;rw [List.any_eq_true];refine ⟨xs[k], List.getElem_mem hk, ?_⟩
 simpa [List.getD, hk] using h
theorem ZkH {xs : List Int} {k : Nat} {n : Int} (hk : k < xs.length) (h : (xs.getD k 0 == n) = false) (hp : (xs.take k).any (· == n) = false) : (xs.take (k + 1)).any (· == n) = false := by
 rw [List.take_succ_eq_append_getElem hk, List.any_append, hp]
 simpa [List.getD, hk] using h
theorem Zmo {xs : List Int} {k : Nat} {n : Int} (hk : ¬ k < xs.length) (hp : (xs.take k).any (· == n) = false) : inL xs n = false := by
 rw [List.take_of_length_le (by omega)] at hp; exact hp
def Zai (st : Za) (text : ByteArray) (i : Nat) : Bool := decide (0 < st.aa.af.getD i 0) && ((st.ac.getD i ByteArray.empty).toList == text.toList) && decide (st.aa.ak.getD i 0 < st.am) && decide (st.aa.af.getD i 0 < st.am)
def Za9 (st : Za) (i : Nat) : Bool := !decide (0 < st.aa.af.getD i 0)
def Q5 (st : Za) (text : ByteArray) (level : Int) : Nat := if st.ax && (level == 0) then ZN (Zai st text) 64 0 else 64
def writeAt (st : Za) (text : ByteArray) (level : Int) : Nat := if Q5 st text level < 64 then Q5 st text level else ZN (Za9 st) 56 8
def Za.putAt (st : Za) (i : Nat) (rows : List ByteArray) : Za := { st with ac := rows, aa := { af := st.aa.af.set i (st.aa.af.getD i 0 + 1), ak := st.aa.ak.set i st.am } }
end Go.Proofs.YtfhdmfcfcgbgeaaGreat
