/- A part of the proof in YtfhdmfcfcgbgeaaGreatNxX30. -/
import Derived.Deep.RegionHeld3
import Derived.Test.YtfhdmfcfcgbgeaaGreatNxX7
namespace Go.Proofs.YtfhdmfcfcgbgeaaGreat
set_option linter.unusedVariables false
set_option linter.unusedSimpArgs false
set_option maxHeartbeats 1000000
set_option maxRecDepth 100000
open Go.RowKit
def Za.zero : Za := { af := [], aa := { ac := [], am := [] }, al := 0, ag := [], aw := 0, ai := [], ax := false }
def Zb0 (s : ByteArray) : Nat → Int × Int
 | 0 => (1, 0)
 | k + 1 => (((Zb0 s k).1 + ((s.get! k).toNat : Int) + 1) % 9973, ((Zb0 s k).2 + ((Zb0 s k).1 + ((s.get! k).toNat : Int) + 1) % 9973) % 9973)
def Uv (s : ByteArray) : Int := (Zb0 s s.size).1 * 9973 + (Zb0 s s.size).2
theorem Zja (s : ByteArray) (k : Nat) : 0 ≤ (Zb0 s k).1 ∧ (Zb0 s k).1 < 9973 ∧ 0 ≤ (Zb0 s k).2 ∧ (Zb0 s k).2 < 9973 := by
 cases k with
 | zero => simp [Zb0]
 | succ k => unfold Zb0; dsimp only; omega
theorem Zlb (s : ByteArray) : 0 ≤ Uv s ∧ Uv s ≤ 99460728 := by
 have := Zja s s.size;unfold Uv; omega
theorem Zjb (s : ByteArray) (k : Nat) : (0 : Int) ≤ ((s.get! k).toNat : Int) ∧ ((s.get! k).toNat : Int) ≤ 255 := by
 have := (s.get! k).toNat_lt
 omega
def ZM (p : Nat → Bool) : Nat → Nat → Nat
 | 0, k => k
 | f + 1, k => if p k then k else ZM p f (k + 1)
theorem Zaw {p : Nat → Bool} {f k : Nat} (h : p k = true) : ZM p (f + 1) k = k := by simp [ZM, h]
theorem V0 {p : Nat → Bool} {f k : Nat} (h : p k = false) : ZM p (f + 1) k = ZM p f (k + 1) := by simp [ZM, h]
theorem X5 (p : Nat → Bool) (f k : Nat) : k ≤ ZM p f k ∧ ZM p f k ≤ k + f := by
 induction f generalizing k with
 | zero => simp [ZM]
 | succ f ih =>
  unfold ZM
  split
  ·omega
  ·have := ih (k + 1); omega
theorem Zds (p : Nat → Bool) (f k : Nat) (h : ZM p f k < k + f) : p (ZM p f k) = true := by
 induction f generalizing k with
 | zero => simp [ZM] at h
 | succ f ih =>
  unfold ZM at h ⊢
  split
  ·assumption
  ·rename_i hp
   rw [if_neg hp] at h;exact ih (k + 1) (by omega)
theorem Zbd {p q : Nat → Bool} (f k : Nat) (h : ∀ i, k ≤ i → i < k + f → p i = q i) : ZM p f k = ZM q f k := by
 induction f generalizing k with
 | zero => rfl
 | succ f ih =>
  unfold ZM;rw [h k (Nat.le_refl _) (by omega), ih (k + 1) (fun i h1 h2 => h i (by omega) (by omega))]
theorem ZgU {p : Nat → Bool} (n f k : Nat) (h : ∀ i, k ≤ i → i < k + n → p i = false) : ZM p (n + f) k = ZM p f (k + n) := by
 induction n generalizing k with
 | zero => simp
 | succ n ih =>
  rw [show n + 1 + f = (n + f) + 1 by omega, V0 (h k (Nat.le_refl _) (by omega)), ih (k + 1) (fun i h1 h2 => h i (by omega) (by omega)), show k + 1 + n = k + (n + 1) by omega]
def YG (at_ birth level : Int) (text : ByteArray) : PtrD := { aB := at_, ak := birth, av := text.size, aC := Uv text, ar := level }
def PtrD.zero : PtrD := { aB := 0, ak := 0, av := 0, aC := 0, ar := 0 }
def Xu (at_ birth level : Int) (text : ByteArray) : Bool := inB text.size 1 128 && (YG at_ birth level text).ok
def Vr (at_ birth level : Int) (text : ByteArray) : PtrD := if Xu at_ birth level text then YG at_ birth level text else PtrD.zero
theorem ZgV {a b l : Int} {s : ByteArray} (h : Xu a b l s = false) : Vr a b l s = PtrD.zero := by unfold Vr; rw [h]; rfl
theorem ZeX {a b l : Int} {s : ByteArray} (h : Xu a b l s = true) : Vr a b l s = YG a b l s := by unfold Vr; rw [h]; rfl
def J4 (st : Za) (text : ByteArray) (i : Nat) : Bool := ((st.af.getD i ByteArray.empty).toList == text.toList) && decide (st.aa.am.getD i 0 < st.al) && decide (st.aa.ac.getD i 0 < st.al)
def ZfX (k : Nat) : Int := if k < 64 then (k : Int) else -1
def Zak (st : Za) (text : ByteArray) : Int := ZfX (ZM (J4 st text) 56 8)
def Vs (s : Zn) (i : Nat) : Bool := s.ac.getD i 0 == 0
def J5 (s : Zn) : Int := ZfX (ZM (Vs s) 56 8)
theorem Zjc {k : Nat} (h : k < 64) : ZfX k = k := by simp [ZfX, h]
theorem Zb1 {p : Nat → Bool} {k : Nat} (hk : k < 64) (hp : p k = false) {n : Nat} (h : ZM p 56 8 = n) (hn : n = ZM p (64 - k) k) : ZM p 56 8 = ZM p (64 - (k + 1)) (k + 1) := by
 rw [h, hn, show 64 - k = (64 - (k + 1)) + 1 by omega, V0 hp]
theorem ZjP {p : Nat → Bool} {k : Nat} (hk : k < 64) (hp : p k = true) (h : ZM p 56 8 = ZM p (64 - k) k) : ZM p 56 8 = k := by
 rw [h, show 64 - k = (63 - k) + 1 by omega, Zaw hp]
theorem Zlc {p : Nat → Bool} {k : Nat} (hk : k = 64) (h : ZM p 56 8 = ZM p (64 - k) k) : ZM p 56 8 = 64 := by
 rw [h, hk]; rfl
def inL (xs : List Int) (n : Int) : Bool := xs.any (· == n)
theorem Zld {xs : List Int} {k : Nat} {n : Int} (hk : k < xs.length) (h : (xs.getD k 0 == n) = true) : inL xs n = true := by
 unfold inL;rw [List.any_eq_true];refine ⟨xs[k], List.getElem_mem hk, ?_⟩
 simpa [List.getD, hk] using h
theorem Zle {xs : List Int} {k : Nat} {n : Int} (hk : k < xs.length) (h : (xs.getD k 0 == n) = false) (hp : (xs.take k).any (· == n) = false) : (xs.take (k + 1)).any (· == n) = false := by
 rw [List.take_succ_eq_append_getElem hk, List.any_append, hp]
 simpa [List.getD, hk] using h
theorem Zm1 {xs : List Int} {k : Nat} {n : Int} (hk : ¬ k < xs.length) (hp : (xs.take k).any (· == n) = false) : inL xs n = false := by
 rw [List.take_of_length_le (by omega)] at hp; exact hp
def Zal (st : Za) (text : ByteArray) (i : Nat) : Bool := decide (0 < st.aa.ac.getD i 0) && ((st.af.getD i ByteArray.empty).toList == text.toList) && decide (st.aa.am.getD i 0 < st.al) && decide (st.aa.ac.getD i 0 < st.al)
def Zbe (st : Za) (i : Nat) : Bool := !decide (0 < st.aa.ac.getD i 0)
def Q5 (st : Za) (text : ByteArray) (level : Int) : Nat := if st.ax && (level == 0) then ZM (Zal st text) 64 0 else 64
def writeAt (st : Za) (text : ByteArray) (level : Int) : Nat := if Q5 st text level < 64 then Q5 st text level else ZM (Zbe st) 56 8
def Za.putAt (st : Za) (i : Nat) (rows : List ByteArray) : Za := { st with af := rows, aa := { ac := st.aa.ac.set i (st.aa.ac.getD i 0 + 1), am := st.aa.am.set i st.al } }
end Go.Proofs.YtfhdmfcfcgbgeaaGreat
