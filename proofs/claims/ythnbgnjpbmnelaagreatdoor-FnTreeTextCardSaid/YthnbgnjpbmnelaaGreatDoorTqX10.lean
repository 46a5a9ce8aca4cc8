/- A part of the proof in YthnbgnjpbmnelaaGreatDoorTqX34. -/
import Derived.Deep.RegionHeld3
import Derived.Test.YthnbgnjpbmnelaaGreatDoorTqX9
namespace Go.Proofs.YthnbgnjpbmnelaaGreatDoor
set_option linter.unusedVariables false
set_option linter.unusedSimpArgs false
set_option maxHeartbeats 1000000
set_option maxRecDepth 100000
open Go.RowKit
def Za.zero : Za := { ac := [], aa := { ag := [], am := [] }, ar := 0, ai := [], ax := 0, al := [], az := false }
def Zb4 (s : ByteArray) : Nat → Int × Int
 | 0 => (1, 0)
 | k + 1 => (((Zb4 s k).1 + ((s.get! k).toNat : Int) + 1) % 9973, ((Zb4 s k).2 + ((Zb4 s k).1 + ((s.get! k).toNat : Int) + 1) % 9973) % 9973)
def Us (s : ByteArray) : Int := (Zb4 s s.size).1 * 9973 + (Zb4 s s.size).2
theorem Zjf (s : ByteArray) (k : Nat) : 0 ≤ (Zb4 s k).1 ∧ (Zb4 s k).1 < 9973 ∧ 0 ≤ (Zb4 s k).2 ∧ (Zb4 s k).2 < 9973 := by
 cases k with
 | zero => simp [Zb4]
 | succ k => unfold Zb4; dsimp only; omega
theorem Zls (s : ByteArray) : 0 ≤ Us s ∧ Us s ≤ 99460728 := by
 have := Zjf s s.size;unfold Us; omega
theorem Zjg (s : ByteArray) (k : Nat) : (0 : Int) ≤ ((s.get! k).toNat : Int) ∧ ((s.get! k).toNat : Int) ≤ 255 := by
 have := (s.get! k).toNat_lt
 omega
def ZP (p : Nat → Bool) : Nat → Nat → Nat
 | 0, k => k
 | f + 1, k => if p k then k else ZP p f (k + 1)
theorem ZaD {p : Nat → Bool} {f k : Nat} (h : p k = true) : ZP p (f + 1) k = k := by simp [ZP, h]
theorem V5 {p : Nat → Bool} {f k : Nat} (h : p k = false) : ZP p (f + 1) k = ZP p f (k + 1) := by simp [ZP, h]
theorem X0 (p : Nat → Bool) (f k : Nat) : k ≤ ZP p f k ∧ ZP p f k ≤ k + f := by
 induction f generalizing k with
 | zero => simp [ZP]
 | succ f ih =>
  unfold ZP
  split
  ·omega
  ·have := ih (k + 1); omega
theorem Zdl (p : Nat → Bool) (f k : Nat) (h : ZP p f k < k + f) : p (ZP p f k) = true := by
 induction f generalizing k with
 | zero => simp [ZP] at h
 | succ f ih =>
  unfold ZP at h ⊢
  split
  ·assumption
  ·rename_i hp
   rw [if_neg hp] at h;exact ih (k + 1) (by omega)
theorem Zbj {p q : Nat → Bool} (f k : Nat) (h : ∀ i, k ≤ i → i < k + f → p i = q i) : ZP p f k = ZP q f k := by
 induction f generalizing k with
 | zero => rfl
 | succ f ih =>
  unfold ZP;rw [h k (Nat.le_refl _) (by omega), ih (k + 1) (fun i h1 h2 => h i (by omega) (by omega))]
theorem ZgP {p : Nat → Bool} (n f k : Nat) (h : ∀ i, k ≤ i → i < k + n → p i = false) : ZP p (n + f) k = ZP p f (k + n) := by
 induction n generalizing k with
 | zero => simp
 | succ n ih =>
  rw [show n + 1 + f = (n + f) + 1 by omega, V5 (h k (Nat.le_refl _) (by omega)), ih (k + 1) (fun i h1 h2 => h i (by omega) (by omega)), show k + 1 + n = k + (n + 1) by omega]
def YM (at_ birth level : Int) (text : ByteArray) : PtrD := { aB := at_, aj := birth, av := text.size, aC := Us text, aq := level }
def PtrD.zero : PtrD := { aB := 0, aj := 0, av := 0, aC := 0, aq := 0 }
def Xu (at_ birth level : Int) (text : ByteArray) : Bool := inB text.size 1 128 && (YM at_ birth level text).ok
def YX (at_ birth level : Int) (text : ByteArray) : PtrD := if Xu at_ birth level text then YM at_ birth level text else PtrD.zero
theorem ZgQ {a b l : Int} {s : ByteArray} (h : Xu a b l s = false) : YX a b l s = PtrD.zero := by unfold YX; rw [h]; rfl
theorem ZeU {a b l : Int} {s : ByteArray} (h : Xu a b l s = true) : YX a b l s = YM a b l s := by unfold YX; rw [h]; rfl
def J5 (st : Za) (text : ByteArray) (i : Nat) : Bool := ((st.ac.getD i ByteArray.empty).toList == text.toList) && decide (st.aa.am.getD i 0 < st.ar) && decide (st.aa.ag.getD i 0 < st.ar)
def ZfR (k : Nat) : Int := if k < 64 then (k : Int) else -1
def Zao (st : Za) (text : ByteArray) : Int := ZfR (ZP (J5 st text) 56 8)
def Vt (s : Zq) (i : Nat) : Bool := s.ag.getD i 0 == 0
def J6 (s : Zq) : Int := ZfR (ZP (Vt s) 56 8)
theorem Zjh {k : Nat} (h : k < 64) : ZfR k = k := by simp [ZfR, h]
theorem Zb5 {p : Nat → Bool} {k : Nat} (hk : k < 64) (hp : p k = false) {n : Nat} (h : ZP p 56 8 = n) (hn : n = ZP p (64 - k) k) : ZP p 56 8 = ZP p (64 - (k + 1)) (k + 1) := by
 rw [h, hn, show 64 - k = (64 - (k + 1)) + 1 by omega, V5 hp]
theorem ZjU {p : Nat → Bool} {k : Nat} (hk : k < 64) (hp : p k = true) (h : ZP p 56 8 = ZP p (64 - k) k) : ZP p 56 8 = k := by
 rw [h, show 64 - k = (63 - k) + 1 by omega, ZaD hp]
theorem Zlt {p : Nat → Bool} {k : Nat} (hk : k = 64) (h : ZP p 56 8 = ZP p (64 - k) k) : ZP p 56 8 = 64 := by
 rw [h, hk]; rfl
def inL (xs : List Int) (n : Int) : Bool := xs.any (· == n)
theorem Zlu {xs : List Int} {k : Nat} {n : Int} (hk : k < xs.length) (h : (xs.getD k 0 == n) = true) : inL xs n = true := by
 unfold inL;rw [List.any_eq_true];refine ⟨xs[k], List.getElem_mem hk, ?_⟩
 simpa [List.getD, hk] using h
theorem Zlv {xs : List Int} {k : Nat} {n : Int} (hk : k < xs.length) (h : (xs.getD k 0 == n) = false) (hp : (xs.take k).any (· == n) = false) : (xs.take (k + 1)).any (· == n) = false := by
 rw [List.take_succ_eq_append_getElem hk, List.any_append, hp]
 simpa [List.getD, hk] using h
theorem Znf {xs : List Int} {k : Nat} {n : Int} (hk : ¬ k < xs.length) (hp : (xs.take k).any (· == n) = false) : inL xs n = false := by
 rw [List.take_of_length_le (by omega)] at hp; exact hp
def Zap (st : Za) (text : ByteArray) (i : Nat) : Bool := decide (0 < st.aa.ag.getD i 0) && ((st.ac.getD i ByteArray.empty).toList == text.toList) && decide (st.aa.am.getD i 0 < st.ar) && decide (st.aa.ag.getD i 0 < st.ar)
def Zbk (st : Za) (i : Nat) : Bool := !decide (0 < st.aa.ag.getD i 0)
def Q8 (st : Za) (text : ByteArray) (level : Int) : Nat := if st.az && (level == 0) then ZP (Zap st text) 64 0 else 64
def writeAt (st : Za) (text : ByteArray) (level : Int) : Nat := if Q8 st text level < 64 then Q8 st text level else ZP (Zbk st) 56 8
def Za.putAt (st : Za) (i : Nat) (rows : List ByteArray) : Za := { st with ac := rows, aa := { ag := st.aa.ag.set i (st.aa.ag.getD i 0 + 1), am := st.aa.am.set i st.ar } }
end Go.Proofs.YthnbgnjpbmnelaaGreatDoor
