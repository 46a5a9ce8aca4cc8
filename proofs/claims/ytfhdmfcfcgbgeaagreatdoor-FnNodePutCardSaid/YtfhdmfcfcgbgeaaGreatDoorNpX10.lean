/- A part of the proof in YtfhdmfcfcgbgeaaGreatDoorNpX34. -/
import Derived.Deep.RegionHeld3
import Derived.Test.YtfhdmfcfcgbgeaaGreatDoorNpX9
namespace Go.Proofs.YtfhdmfcfcgbgeaaGreatDoor
set_option linter.unusedVariables false
set_option linter.unusedSimpArgs false
set_option maxHeartbeats 1000000
set_option maxRecDepth 100000
open Go.RowKit
def Za.zero : Za := { ac := [], aa := { ag := [], au := [] }, av := 0, ak := [], ax := 0, ar := [], aA := false }
def Zci (s : ByteArray) : Nat → Int × Int
 | 0 => (1, 0)
 | k + 1 => (((Zci s k).1 + ((s.get! k).toNat : Int) + 1) % 9973, ((Zci s k).2 + ((Zci s k).1 + ((s.get! k).toNat : Int) + 1) % 9973) % 9973)
def UF (s : ByteArray) : Int := (Zci s s.size).1 * 9973 + (Zci s s.size).2
theorem Zjm (s : ByteArray) (k : Nat) : 0 ≤ (Zci s k).1 ∧ (Zci s k).1 < 9973 ∧ 0 ≤ (Zci s k).2 ∧ (Zci s k).2 < 9973 := by
 cases k with
 | zero => simp [Zci]
 | succ k => unfold Zci; dsimp only; omega
theorem Zlw (s : ByteArray) : 0 ≤ UF s ∧ UF s ≤ 99460728 := by
 have := Zjm s s.size;unfold UF; omega
theorem Zjn (s : ByteArray) (k : Nat) : (0 : Int) ≤ ((s.get! k).toNat : Int) ∧ ((s.get! k).toNat : Int) ≤ 255 := by
 have := (s.get! k).toNat_lt
 omega
def ZT (p : Nat → Bool) : Nat → Nat → Nat
 | 0, k => k
 | f + 1, k => if p k then k else ZT p f (k + 1)
theorem ZaQ {p : Nat → Bool} {f k : Nat} (h : p k = true) : ZT p (f + 1) k = k := by simp [ZT, h]
theorem Zak {p : Nat → Bool} {f k : Nat} (h : p k = false) : ZT p (f + 1) k = ZT p f (k + 1) := by simp [ZT, h]
theorem Qg (p : Nat → Bool) (f k : Nat) : k ≤ ZT p f k ∧ ZT p f k ≤ k + f := by
 induction f generalizing k with
 | zero => simp [ZT]
 | succ f ih =>
  unfold ZT
  split
  ·omega
  ·have := ih (k + 1); omega
theorem Zdy (p : Nat → Bool) (f k : Nat) (h : ZT p f k < k + f) : p (ZT p f k) = true := by
 induction f generalizing k with
 | zero => simp [ZT] at h
 | succ f ih =>
  unfold ZT at h ⊢
  split
  ·assumption
  ·rename_i hp
   rw [if_neg hp] at h;exact ih (k + 1) (by omega)
theorem Zbx {p q : Nat → Bool} (f k : Nat) (h : ∀ i, k ≤ i → i < k + f → p i = q i) : ZT p f k = ZT q f k := by
 induction f generalizing k with
 | zero => rfl
 | succ f ih =>
  unfold ZT;rw [h k (Nat.le_refl _) (by omega), ih (k + 1) (fun i h1 h2 => h i (by omega) (by omega))]
theorem ZgY {p : Nat → Bool} (n f k : Nat) (h : ∀ i, k ≤ i → i < k + n → p i = false) : ZT p (n + f) k = ZT p f (k + n) := by
 induction n generalizing k with
 | zero => simp
 | succ n ih =>
  rw [show n + 1 + f = (n + f) + 1 by omega, Zak (h k (Nat.le_refl _) (by omega)), ih (k + 1) (fun i h1 h2 => h i (by omega) (by omega)), show k + 1 + n = k + (n + 1) by omega]
def YW (at_ birth level : Int) (text : ByteArray) : PtrD := { aC := at_, al := birth, am := text.size, aB := UF text, aq := level }
def PtrD.zero : PtrD := { aC := 0, al := 0, am := 0, aB := 0, aq := 0 }
def XI (at_ birth level : Int) (text : ByteArray) : Bool := inB text.size 1 128 && (YW at_ birth level text).ok
def Xa (at_ birth level : Int) (text : ByteArray) : PtrD := if XI at_ birth level text then YW at_ birth level text else PtrD.zero
theorem ZgZ {a b l : Int} {s : ByteArray} (h : XI a b l s = false) : Xa a b l s = PtrD.zero := by unfold Xa; rw [h]; rfl
theorem Ze2 {a b l : Int} {s : ByteArray} (h : XI a b l s = true) : Xa a b l s = YW a b l s := by unfold Xa; rw [h]; rfl
def Uh (st : Za) (text : ByteArray) (i : Nat) : Bool := ((st.ac.getD i ByteArray.empty).toList == text.toList) && decide (st.aa.au.getD i 0 < st.av) && decide (st.aa.ag.getD i 0 < st.av)
def Zf2 (k : Nat) : Int := if k < 64 then (k : Int) else -1
def ZaC (st : Za) (text : ByteArray) : Int := Zf2 (ZT (Uh st text) 56 8)
def VJ (s : Zq) (i : Nat) : Bool := s.ag.getD i 0 == 0
def Ui (s : Zq) : Int := Zf2 (ZT (VJ s) 56 8)
theorem Zjo {k : Nat} (h : k < 64) : Zf2 k = k := by simp [Zf2, h]
theorem Zcj {p : Nat → Bool} {k : Nat} (hk : k < 64) (hp : p k = false) {n : Nat} (h : ZT p 56 8 = n) (hn : n = ZT p (64 - k) k) : ZT p 56 8 = ZT p (64 - (k + 1)) (k + 1) := by
 rw [h, hn, show 64 - k = (64 - (k + 1)) + 1 by omega, Zak hp]
theorem Zj2 {p : Nat → Bool} {k : Nat} (hk : k < 64) (hp : p k = true) (h : ZT p 56 8 = ZT p (64 - k) k) : ZT p 56 8 = k := by
 rw [h, show 64 - k = (63 - k) + 1 by omega, ZaQ hp]
theorem Zlx {p : Nat → Bool} {k : Nat} (hk : k = 64) (h : ZT p 56 8 = ZT p (64 - k) k) : ZT p 56 8 = 64 := by
 rw [h, hk]; rfl
def inL (xs : List Int) (n : Int) : Bool := xs.any (· == n)
theorem Zly {xs : List Int} {k : Nat} {n : Int} (hk : k < xs.length) (h : (xs.getD k 0 == n) = true) : inL xs n = true := by
 unfold inL;rw [List.any_eq_true];refine ⟨xs[k], List.getElem_mem hk, ?_⟩
 simpa [List.getD, hk] using h
theorem Zlz {xs : List Int} {k : Nat} {n : Int} (hk : k < xs.length) (h : (xs.getD k 0 == n) = false) (hp : (xs.take k).any (· == n) = false) : (xs.take (k + 1)).any (· == n) = false := by
 rw [List.take_succ_eq_append_getElem hk, List.any_append, hp]
 simpa [List.getD, hk] using h
theorem Zne {xs : List Int} {k : Nat} {n : Int} (hk : ¬ k < xs.length) (hp : (xs.take k).any (· == n) = false) : inL xs n = false := by
 rw [List.take_of_length_le (by omega)] at hp; exact hp
def ZaD (st : Za) (text : ByteArray) (i : Nat) : Bool := decide (0 < st.aa.ag.getD i 0) && ((st.ac.getD i ByteArray.empty).toList == text.toList) && decide (st.aa.au.getD i 0 < st.av) && decide (st.aa.ag.getD i 0 < st.av)
def Zby (st : Za) (i : Nat) : Bool := !decide (0 < st.aa.ag.getD i 0)
def Jm (st : Za) (text : ByteArray) (level : Int) : Nat := if st.aA && (level == 0) then ZT (ZaD st text) 64 0 else 64
def writeAt (st : Za) (text : ByteArray) (level : Int) : Nat := if Jm st text level < 64 then Jm st text level else ZT (Zby st) 56 8
def Za.putAt (st : Za) (i : Nat) (rows : List ByteArray) : Za := { st with ac := rows, aa := { ag := st.aa.ag.set i (st.aa.ag.getD i 0 + 1), au := st.aa.au.set i st.av } }
end Go.Proofs.YtfhdmfcfcgbgeaaGreatDoor
